/- Texts of this claim, one behind another; what its theorem does not use is left out: Rg1, Rg2, Rg3, Ex2H, LawKitH, Lk8, Df1, Fl1, Ap1, Ap2, Sr1, Sr3, Sr2, Lk9, Sg1, Sg2, Sg3, Sg4, Cp0, Cp1, Cp2, Sc2, Gx0, Ge10, Ge11, FlG, Fresh, Bxs, Draw, DrawT, Gd1, Gd2, Gd3, Gd4, Ge17. -/
import Derived.Test.YtfjbiifebcfjfaaGreatP28W4
import Derived.Test.YtfjbiifebcfjfaaGreatP28W1
import Derived.Test.YtfjbiifebcfjfaaGreatP28W2
import Derived.Test.YtfjbiifebcfjfaaGreatP28W3
import Derived.Great.BuildSlice
import Derived.Deep.MidRow
import Derived.Deep.OwnRows
import Derived.Laws.ResultCell
import Derived.Deep.LoopGhost
set_option linter.unusedSimpArgs false
set_option linter.unusedVariables false
set_option maxRecDepth 100000
set_option maxHeartbeats 12800000
namespace Go.Proofs.YtfjbiifebcfjfaaGreat
open Go.RowKit
def rowI (n m:Nat) (f:Nat->Int) (tm:Int) (t:Tex) (op:Int) (s:ByteArray) (num:Int) (args L:List (List Int)):List Int:=
 if op=1 then List.replicate m num else if op=2 then (List.range m).map (varL s.toList f tm) else if op=3 then L.getD num.toNat [] else if op=5 then List.zipWith (arithI num) (args.getD 0 []) (args.getD 0 [])
 else if op=6 then List.zipWith (arithI num) (args.getD 0 []) (args.getD 1 []) else callRow n m t s.toList args
def cutI (op:Int) (s:ByteArray) (S:List (List Int)):Nat:=S.length - (popsI op s).toNat
def nextS (n m:Nat) (f:Nat->Int) (tm:Int) (t:Tex) (x:Ins) (S L:List (List Int)):List (List Int):=
 if x.op=4 then S.take (cutI x.op x.name S) else S.take (cutI x.op x.name S)++[rowI n m f tm t x.op x.name x.num (S.drop (cutI x.op x.name S)) L]
def nextL (x:Ins) (S L:List (List Int)):List (List Int):=if x.op=4 then L.set x.num.toNat (S.getD (cutI x.op x.name S) []) else L
def runG (n m:Nat) (f:Nat->Int) (tm:Int) (t:Tex):List Ins->List (List Int)->List (List Int)->List (List Int)
 | [],_,L=>L
 | x::r,S,L=>runG n m f tm t r (nextS n m f tm t x S L) (nextL x S L)
theorem zip_good {m:Nat} {op:Int} {a b:List Int} (ha:a.length=m) (hb:b.length=m):good m (List.zipWith (arithI op) a b):=by
 refine ⟨by simp;omega,fun x hx=>?_⟩;obtain ⟨i,hi,rfl⟩:=List.getElem_of_mem hx;simp;exact satI_S9 _
theorem varL_S9 {f:Nat->Int} {tm:Int} {m q:Nat} (l:List UInt8) (hf:∀i,i<m*5->S9 (f i)) (ht:S9 tm) (hq:q<m):S9 (varL l f tm q):=by
 unfold varL
 split
 ·exact hf _ (by omega)
 split
 ·exact hf _ (by omega)
 split
 ·exact hf _ (by omega)
 split
 ·exact hf _ (by omega)
 split
 ·exact hf _ (by omega)
 ·exact ht
theorem call_good {n m:Nat} (hm:n*n=m) (t:Tex) (l:List UInt8) (S:List (List Int)):good m (callRow n m t l S):=by
 have hd:∀xs rows,good m (diffs xs n rows):=fun xs rows=>⟨by rw [diffs_length,hm],fun x hx=>by
  obtain ⟨i,hi,rfl⟩:=List.getElem_of_mem hx;rw [diffs_at]
  exact dVal_i64 _ _ _ _⟩
 unfold callRow
 split
 ·exact hd _ _
 split
 ·exact hd _ _
 ·refine ⟨by simp,fun x hx=>?_⟩
  obtain ⟨i,hi,rfl⟩:=List.mem_map.1 hx;exact satI_S9 _
structure Okst (L0 m:Nat) (xs:List Ins) (S L:List (List Int)):Prop where
 run:∃d st,(runD L0 xs S.length d st).isSome=true/\∀j r,L[j]?=some r->(st j=true/\good m r)\/(st j=false/\r=[])
 len:L.length=L0
 rows:∀r∈S,good m r
theorem Okst.wf {L0 m:Nat} {x:Ins} {r:List Ins} {S L:List (List Int)} (h:Okst L0 m (x::r) S L):wfI x.op x.name x.num L0=true:=by
 obtain ⟨d,st,h1,_⟩:=h.run;exact runD_wf _ _ _ _ h1 x (List.mem_cons_self)
theorem Okst.pops {L0 m:Nat} {x:Ins} {r:List Ins} {S L:List (List Int)} (h:Okst L0 m (x::r) S L):∃p:Nat,popsI x.op x.name=p/\cutI x.op x.name S+p=S.length:=by
 obtain ⟨d,st,h1,_⟩:=h.run;have hb:=pops_bd h.wf;unfold runD at h1
 split at h1
 ·rename_i hc
  refine ⟨(popsI x.op x.name).toNat,by omega,?_⟩;unfold cutI;omega
 ·simp at h1
theorem Okst.local {L0 m:Nat} {x:Ins} {r:List Ins} {S L:List (List Int)} (h:Okst L0 m (x::r) S L) (h3:x.op=3):∃xs,L[x.num.toNat]?=some xs/\good m xs:=by
 obtain ⟨d,st,h1,h2⟩:=h.run;obtain ⟨j,hj,hjL⟩:=wf_at h.wf (.inl h3);unfold runD at h1
 split at h1
 ·rename_i hc
  have hs:=hc.2.1 h3;rw [hj] at hs ⊢;simp only [Int.toNat_natCast] at hs ⊢;have hl:=h.len
  have hx:L[j]?=some (L[j]'(by omega)):=by simp [show j<L.length by omega]
  rcases h2 j _ hx with h4|h4
  ·exact ⟨_,hx,h4.2⟩
  ·rw [hs] at h4;cases h4.1
 ·simp at h1
theorem Okst.next {L0 n m:Nat} {f:Nat->Int} {tm:Int} {t:Tex} {x:Ins} {r:List Ins} {S L:List (List Int)} (h:Okst L0 m (x::r) S L) (hm:n*n=m) (hn:numB x=true) (hf:∀i,i<m*5->S9 (f i)) (ht:S9 tm):Okst L0 m r (nextS n m f tm t x S L) (nextL x S L):=by
 obtain ⟨p,hp,hc⟩:=h.pops;have hwf:=h.wf;have hloc:=h.local;have hrows:=h.rows;obtain ⟨d,st,h1,h2⟩:=h.run;have hlen:=h.len;have hd:∀y∈S.drop (cutI x.op x.name S),good m y:=fun y hy=>hrows y (List.mem_of_mem_drop hy);have htk:∀y∈S.take (cutI x.op x.name S),good m y:=fun y hy=>hrows y (List.mem_of_mem_take hy)
 have hdl:(S.drop (cutI x.op x.name S)).length=p:=by simp;omega
 have hga:∀i,i<p->good m ((S.drop (cutI x.op x.name S)).getD i []):=fun i hi=>by
  have e:(S.drop (cutI x.op x.name S)).getD i []=(S.drop (cutI x.op x.name S))[i]'(by omega):=by rw [List.getD,List.getElem?_eq_getElem (show i<(S.drop (cutI x.op x.name S)).length by omega)];rfl
  rw [e];exact hd _ (List.getElem_mem _)
 unfold runD at h1
 split at h1
 case isFalse=>simp at h1
 rename_i hcond;generalize (if (S.length:Int) - popsI x.op x.name+pushI x.op > d then (S.length:Int) - popsI x.op x.name+pushI x.op else d)=d2 at h1
 by_cases h4:x.op=4
 ·have hp1:p=1:=by
   rw [h4] at hp;have:popsI 4 x.name=1:=rfl;omega
  have hq0:pushI x.op=0:=by rw [h4];rfl
  obtain ⟨j,hj,hjL⟩:=wf_at hwf (.inr h4);refine ⟨⟨d2,markSt x.op x.num st,?_,?_⟩,?_,?_⟩
  ·unfold nextS
   rw [if_pos h4,List.length_take,Nat.min_eq_left (by omega)]
   have e:((S.length:Int) - popsI x.op x.name+pushI x.op)=(cutI x.op x.name S:Nat):=by rw [hp,hq0];omega
   rw [e] at h1;exact h1
  ·intro i y hy
   unfold nextL at hy;rw [if_pos h4,hj,Int.toNat_natCast] at hy;unfold markSt;rw [if_pos h4,hj,Int.toNat_natCast];rw [List.getElem?_set] at hy
   by_cases hij:j=i
   ·subst hij
    rw [if_pos rfl,if_pos (by omega)] at hy;injection hy with hy;subst hy;refine .inl ⟨by simp,?_⟩;have:=hga 0 (by omega);rw [List.getD,List.getElem?_drop,Nat.add_zero] at this;exact this
   ·rw [if_neg hij] at hy
    have:=h2 i y hy;rw [if_neg (fun e=>hij e.symm)];exact this
  ·unfold nextL
   rw [if_pos h4,List.length_set];exact hlen
  ·intro y hy
   unfold nextS at hy;rw [if_pos h4] at hy;exact htk y hy
 ·have hq1:pushI x.op=1:=by unfold pushI;rw [if_neg h4]
  have hmk:markSt x.op x.num st=st:=by unfold markSt;rw [if_neg h4]
  have hL:nextL x S L=L:=by unfold nextL;rw [if_neg h4]
  have hrow:good m (rowI n m f tm t x.op x.name x.num (S.drop (cutI x.op x.name S)) L):=by
   unfold rowI
   split
   ·have hb:=inB_iff.1 (show inB x.num (-1000000000) 1000000000=true from hn)
    refine ⟨by simp,fun y hy=>?_⟩;rw [List.eq_of_mem_replicate hy];exact hb
   split
   ·refine ⟨by simp,fun y hy=>?_⟩
    obtain ⟨i,hi,rfl⟩:=List.mem_map.1 hy;exact varL_S9 _ hf ht (List.mem_range.1 hi)
   split
   ·rename_i h3
    obtain ⟨xs,hx,hg⟩:=hloc h3;rw [List.getD,hx];exact hg
   split
   ·rename_i h5
    have hp5:p=1:=by
     rw [h5] at hp;have:popsI 5 x.name=1:=rfl;omega
    exact zip_good (hga 0 (by omega)).1 (hga 0 (by omega)).1
   split
   ·rename_i h6
    have hp6:p=2:=by
     rw [h6] at hp;have:popsI 6 x.name=2:=rfl;omega
    exact zip_good (hga 0 (by omega)).1 (hga 1 (by omega)).1
   ·exact call_good hm t _ _
  refine ⟨⟨d2,st,?_,?_⟩,by rw [hL];exact hlen,?_⟩
  ·unfold nextS
   rw [if_neg h4,List.length_append,List.length_take,Nat.min_eq_left (by omega),List.length_singleton];rw [hmk] at h1
   have e:((S.length:Int) - popsI x.op x.name+pushI x.op)=((cutI x.op x.name S+1:Nat):Int):=by rw [hp,hq1];omega
   rw [e] at h1;exact h1
  ·rw [hL]
   exact h2
  ·intro y hy
   unfold nextS at hy;rw [if_neg h4] at hy
   rcases List.mem_append.1 hy with hy|hy
   ·exact htk y hy
   ·simp at hy
    subst hy;exact hrow
theorem opsOk_of {num:Int} (h:inB num 4 7=true):opsOk num:=by
 have:=inB_iff.1 h;unfold opsOk;omega
theorem execute_any {lo lo2:Nat} {w:World} {mb n m:Nat} {pu tu:Value} {f:Nat->Int} {tm:Int} {t:Tex} {sv lv:Value} {vs us:List Value} {S L:List (List Int)} {x:Ins} {r:List Ins} {L0:Nat} (M:Mach lo lo2 w mb n pu tu tm t.log sv lv vs us S L) (G:GridIn lo w n m pu tu f tm t) (ok:Okst L0 m (x::r) S L) (hn:numB x=true) (hS:S.length<=1000) :
  Calls Tryz.prog 224 #[.pointer (some ⟨mb,0,none⟩),.agg #[x.op,.string x.name,x.num]] w fun e w'=>e = .returned (.tuple #[])/\(∃sv' vs' us',Mach lo lo2 w' mb n pu tu tm t.log sv' lv vs' us' (nextS n m f tm t x S L) (nextL x S L))/\Step lo w w':=by
 have hwf:=ok.wf;obtain ⟨p,hp,hc⟩:=ok.pops;obtain ⟨q1,q2,q3⟩:=G.hmi;have hloc:=ok.local;have hrows:=ok.rows;have hlen:=ok.len;clear ok;obtain ⟨op,s,num⟩:=x;simp only at hwf hp hc hloc ⊢
 have hop:1<=op/\op<=7:=by
  by_cases h:1<=op/\op<=7
  ·exact h
  ·unfold wfI at hwf
   rw [if_neg (by omega),if_neg (by omega),if_neg (by omega),if_neg (by omega),if_neg (by omega),if_neg (by omega),if_neg (by omega)] at hwf;cases hwf
 have hnum:=inB_iff.1 (show inB num (-1000000000) 1000000000=true from hn)
 have wrap:∀{e:Ending} {w':World} {S' L':List (List Int)},(nextS n m f tm t ⟨op,s,num⟩ S L=S')->(nextL ⟨op,s,num⟩ S L=L')->(e = .returned (.tuple #[])/\(∃sv' vs',Mach lo lo2 w' mb n pu tu tm t.log sv' lv vs' us S' L')/\Step lo w w')->(e = .returned (.tuple #[])/\(∃sv' vs' us',Mach lo lo2 w' mb n pu tu tm t.log sv' lv vs' us' (nextS n m f tm t ⟨op,s,num⟩ S L) (nextL ⟨op,s,num⟩ S L))/\Step lo w w'):=by
  intro e w' S' L' h1 h2 ⟨h3,⟨sv',vs',h4⟩,h5⟩;subst h1 h2;exact ⟨h3,⟨sv',vs',us,h4⟩,h5⟩
 rcases (show op=1\/op=2\/op=3\/op=4\/op=5\/op=6\/op=7 by omega) with rfl|rfl|rfl|rfl|rfl|rfl|rfl
 ·have h0:p=0:=by have:popsI 1 s=0:=rfl;omega
  refine (exec1 M G s num ⟨by omega,by omega⟩ hS _ rfl).mono fun e w' h=>wrap ?_ rfl h;unfold nextS;rw [if_neg (by simp),show cutI 1 s S=S.length by omega,List.take_length]
  rfl
 ·have h0:p=0:=by have:popsI 2 s=0:=rfl;omega
  refine (exec2 M G s num hS _ rfl).mono fun e w' h=>wrap ?_ rfl h;unfold nextS;rw [if_neg (by simp),show cutI 2 s S=S.length by omega,List.take_length]
  rfl
 ·have h0:p=0:=by have:popsI 3 s=0:=rfl;omega
  obtain ⟨j,rfl,hj⟩:=wf_at hwf (.inl rfl);obtain ⟨xs,hx,hg⟩:=hloc rfl;simp only [Int.toNat_natCast] at hx;refine (exec3 (m:=m) M s j xs hx (by rw [hg.1];omega) (by rw [hg.1];omega) hS).mono fun e w' h=>wrap ?_ rfl h;unfold nextS;rw [if_neg (by simp),show cutI 3 s S=S.length by omega,List.take_length];unfold rowI;rw [if_neg (by simp),if_neg (by simp),if_pos rfl,Int.toNat_natCast,List.getD,hx]
  rfl
 ·have h0:p=1:=by have:popsI 4 s=1:=rfl;omega
  obtain ⟨j,rfl,hj⟩:=wf_at hwf (.inr rfl);have h4:=exec4 M s j (cutI 4 s S) (by omega) (by omega) hS (fun r hr e=>by have:=(hrows r hr).1;rw [e] at this;simp at this;omega);unfold nextS nextL;rw [if_pos rfl,if_pos rfl];exact h4
 ·have h0:p=1:=by have:popsI 5 s=1:=rfl;omega
  have hn3:num=3:=by simp [wfI] at hwf;exact hwf.2
  refine (exec5 (m:=m) M s (cutI 5 s S) num (by subst hn3;unfold opsOk;omega) (by omega) hS hrows q3).mono fun e w' h=>wrap ?_ rfl h;unfold nextS;rw [if_neg (by simp)];unfold rowI;rw [if_neg (by simp),if_neg (by simp),if_neg (by simp),if_pos rfl];simp only [List.getD,List.getElem?_drop,Nat.add_zero]
 ·have h0:p=2:=by have:popsI 6 s=2:=rfl;omega
  have hn4:inB num 4 7=true:=by simp [wfI] at hwf;exact hwf.2
  refine (exec6 (m:=m) M s (cutI 6 s S) num (opsOk_of hn4) (by omega) hS hrows q3).mono fun e w' h=>wrap ?_ rfl h;unfold nextS;rw [if_neg (by simp)];unfold rowI;rw [if_neg (by simp),if_neg (by simp),if_neg (by simp),if_neg (by simp),if_pos rfl];simp only [List.getD,List.getElem?_drop,Nat.add_zero]
 ·have hp7:arity s=p:=by have:popsI 7 s=arity s:=rfl;omega
  have hab:=arity_bd s;refine (exec7 M G s num hS _ p (cutI 7 s S) hp7 (by omega) hc hrows rfl).mono fun e w' h=>wrap ?_ rfl h;unfold nextS;rw [if_neg (by simp)];unfold rowI;rw [if_neg (by simp),if_neg (by simp),if_neg (by simp),if_neg (by simp),if_neg (by simp)]
def OwnSS (lo:Nat) (w:World) (v:Value) (S:List (List Int)):Prop:=∃us,w.ownsRow lo 25 1 v us.length us/\Rws lo w us S/\Apt us/\Nls us S
def Cod.out (c:Cod) (g:Grd):List (List Int):=runG g.n.toNat g.m g.f g.tm g.t c.xs [] (List.replicate c.ls.length [])
theorem iValid_val {g:Grd} {r:Bool} (h:g.okB=r) (lo hi:Nat) (v:Value) (w:World) (hv:g.R lo hi w v) (hh:hi<=w.heap.size) :
  Calls Tryz.prog 159 #[v] w fun e w'=>e = .returned (.bool r)/\Ext w w':=h▸iIsValidGrid_any lo hi v g w hv hh
theorem Grd.parts {g:Grd} (h:g.okB=true):∃n:Nat,g.n=n/\n*n=g.m/\1<=n/\n<=8/\g.t.okB=true/\S9 g.tm/\∀i,i<g.m*5->S9 (g.f i):=by
 unfold Grd.okB at h;simp only [Bool.and_eq_true,decide_eq_true_eq,List.all_eq_true,List.mem_range] at h;obtain ⟨⟨⟨⟨h1,h2⟩,h3⟩,h4⟩,h5⟩:=h;have h1:=inB_iff.1 h1;have h3:=inB_iff.1 h3
 obtain ⟨n,hn⟩:∃n:Nat,g.n=n:=⟨g.n.toNat,by omega⟩
 rw [hn] at h1 h2
 have h6:((n*n:Nat):Int)=(g.m:Int):=by rw [h2];simp
 refine ⟨n,hn,by omega,by omega,by omega,h4,⟨by omega,by omega⟩,fun i hi=>?_⟩;have h7:=h5 (i / 5) (by omega);unfold ptB ptL at h7;simp only [List.all_cons,List.all_nil,Bool.and_true,Bool.and_eq_true] at h7;obtain ⟨a0,a1,a2,a3,a4⟩:=h7
 have hi5:i=i / 5*5+i % 5:=by omega
 have hlt:i % 5<5:=Nat.mod_lt _ (by decide)
 have key:inB (g.f i) (-1000000) 1000000=true:=by
  rcases (show i % 5=0\/i % 5=1\/i % 5=2\/i % 5=3\/i % 5=4 by omega) with e|e|e|e|e <;> rw [e] at hi5 <;> rw [hi5]
  ·exact a0
  ·exact a1
  ·exact a2
  ·exact a3
  ·exact a4
 have:=inB_iff.1 key;exact ⟨by omega,by omega⟩
theorem Okst.start {c:Cod} {m:Nat} (h:c.depth.isSome=true):Okst c.ls.length m c.xs [] (List.replicate c.ls.length []):=by
 unfold Cod.depth at h
 split at h
 ·refine ⟨⟨0,fun _=>false,h,fun j r hj=>.inr ⟨rfl,?_⟩⟩,by simp,fun r hr=>by cases hr⟩
  exact List.eq_of_mem_replicate (List.mem_of_getElem? hj)
 ·simp at h
theorem Rws.nils (lo:Nat) (w:World) (k:Nat):Rws lo w (List.replicate k (.slice none 0 0)) (List.replicate k []):=by
 refine ⟨by simp,fun i v xs h1 h2=>?_⟩;rw [List.eq_of_mem_replicate (List.mem_of_getElem? h1),List.eq_of_mem_replicate (List.mem_of_getElem? h2)];exact OwnInts.nil lo w
theorem Apt.nils (k:Nat):Apt (List.replicate k (.slice none 0 0)):=by
 unfold Apt
 induction k with
 | zero=>simp
 | succ k ih=>
  rw [List.replicate_succ,List.pairwise_cons];refine ⟨fun b hb j hj=>?_,ih⟩;simp [Value.ownBlock] at hj
theorem ownsRow.fresh (w:World) (lo k:Nat) (hl:lo<=w.heap.size) (hk:k<=2000000):(w.alloc (.cells (madeCells #[.slice none 0 0] k) 25)).ownsRow lo 25 1 (.slice (some ⟨w.heap.size,0,none⟩) k k) (List.replicate k (Value.slice none 0 0)).length (List.replicate k (.slice none 0 0)):=by
 have h:=World.ownsRow_lit (size:=1) (e:=25) w (madeCells #[Value.slice none 0 0] k) k hl (by unfold maxLen;omega) (by rw [Nat.mul_one];exact size_madeCells _ _);rw [toList_madeCells_one] at h
 simpa using h
theorem iRunGrid_no (lo hi lo' hi':Nat) (v u:Value) (c:Cod) (g:Grd) (w:World) (hv:c.R lo hi w v) (hh:hi<=w.heap.size) (hu:g.R lo' hi' w u) (hh':hi'<=w.heap.size) (hL:c.ls.length<=2000000) (hno:(c.runB&&g.okB)=false) :
  Calls Tryz.prog 160 #[v,u] w fun e w'=>e = .returned (.tuple #[.slice none 0 0,.bool false])/\Ext w w':=by
 have HV:=hid hv;have HU:=hid hu;obtain ⟨a1,c1,a2,c2,rfl,-,-⟩:=hv.form;obtain ⟨pu,tu,rfl,-,-,-,-,-⟩:=hu;clear hv
 cases h1:c.runB
 ·go_enter Tryz.func160,Tryz.ntmps160
  go_wp2_with (go_at_call 223;refine (iRunnable_val h1 lo hi _ _ (HV.out.ext hh X_) (by simp;omega) hL).mono ?_;rintro e w1 ⟨rfl,x1⟩);refine bodyPost_ret (v:=.tuple #[.slice none 0 0,.bool false]) (by simp [results,Tryz.results160,go_sem]) rfl ⟨rfl,Ext.trans X_ x1⟩
 ·have h2:g.okB=false:=by rw [h1] at hno;simpa using hno
  have hbx:=hid (show ∀w1,Ext ((w.alloc (.cells #[.slice a1 c.xs.length c1,.slice a2 c.ls.length c2] 126)).alloc (.cells #[g.n,pu,g.tm,g.t.log,tu] 135)) w1->w.heap.size+1<w1.heap.size/\w1.cell? ⟨w.heap.size+1,0,none⟩=some (.int .i64 g.n)/\w1.cell? ⟨w.heap.size+1,1,none⟩=some pu/\w1.cell? ⟨w.heap.size+1,2,none⟩=some (.int .i64 g.tm)/\w1.cell? ⟨w.heap.size+1,3,none⟩=some (.int .i64 g.t.log)/\w1.cell? ⟨w.heap.size+1,4,none⟩=some tu from by
   intro w1 x1;have:=x1.size
   refine ⟨by simp at this;omega,?_,?_,?_,?_,?_⟩ <;> (rw [x1.cells.1 _ _ (by simp)];simp [go_sem]))
  go_enter Tryz.func160,Tryz.ntmps160;go_wp2_with (go_at_call 223;refine (iRunnable_val h1 lo hi _ _ (HV.out.ext hh X_) (by simp;omega) hL).mono ?_;rintro e w1 ⟨rfl,x1⟩;obtain ⟨d,d0,d1,d2,d3,d4⟩:=hbx.out w1 x1;have X1:Ext w w1:=Ext.trans X_ x1;clear x1);refine (iValid_val h2 lo' hi' _ _ (HU.out.ext hh' X1) (by have:=X1.size;omega)).mono ?_;rintro e w2 ⟨rfl,x2⟩;go_wp2;refine bodyPost_ret (v:=.tuple #[.slice none 0 0,.bool false]) (by simp [results,Tryz.results160,go_sem]) rfl ⟨rfl,X1.trans x2⟩
theorem iRunGrid_yes (lo hi lo' hi':Nat) (v u:Value) (c:Cod) (g:Grd) (w:World) (hv:c.R lo hi w v) (hh:hi<=w.heap.size) (hu:g.R lo' hi' w u) (hh':hi'<=w.heap.size) (hL:c.ls.length<=2000000) (hyes:(c.runB&&g.okB)=true) :
  Calls Tryz.prog 160 #[v,u] w fun e w'=>∃r,e = .returned (.tuple #[r,.bool true])/\OwnSS w.heap.size w' r (c.out g)/\Ext w w':=by
 have HV:=hid hv;have HU:=hid hu;obtain ⟨a1,c1,a2,c2,rfl,HI,-⟩:=hv.form;obtain ⟨pu,tu,rfl,-,t64,l64,hp,ht⟩:=hu;clear hv;simp only [Bool.and_eq_true] at hyes;obtain ⟨h1,h2⟩:=hyes;obtain ⟨n,hn,hnn,n1,n8,hok,htm9,hf9⟩:=Grd.parts h2
 have hdep:c.depth.isSome=true:=by unfold Cod.runB at h1;simp at h1;exact h1.1
 have hnums:∀x∈c.xs,numB x=true:=by unfold Cod.runB at h1;simp at h1;exact h1.2
 have hlen:c.xs.length<=300:=by
  unfold Cod.depth at hdep
  split at hdep
  ·assumption
  ·simp at hdep
 have hout:runG n g.m g.f g.tm g.t c.xs [] (List.replicate c.ls.length [])=c.out g:=by unfold Cod.out;rw [hn];rfl
 have HG:=hid (show GridIn w.heap.size w n g.m pu tu g.f g.tm g.t from ⟨hp.wide (Nat.zero_le _) hh',⟨tu,rfl,l64,ht.wide (Nat.zero_le _) hh'⟩,hnn,n1,n8,hok,htm9,hf9⟩);have HD:=hid hdep;have HN:=hid hnums;have HOUT:=hid hout;clear hp ht t64 l64 hnn hok htm9 hf9 hdep hnums hout;rw [hn];replace hn:=hid hn;obtain ⟨i0,hi0,hz0,hz1,hz2⟩:=info_parts info_ints
 have hbx:=hid (show ∀w1,Ext ((w.alloc (.cells #[.slice a1 c.xs.length c1,.slice a2 c.ls.length c2] 126)).alloc (.cells #[n,pu,g.tm,g.t.log,tu] 135)) w1->w.heap.size+1<w1.heap.size/\w1.cell? ⟨w.heap.size+1,0,none⟩=some (.int .i64 n)/\w1.cell? ⟨w.heap.size+1,1,none⟩=some pu/\w1.cell? ⟨w.heap.size+1,2,none⟩=some (.int .i64 g.tm)/\w1.cell? ⟨w.heap.size+1,3,none⟩=some (.int .i64 g.t.log)/\w1.cell? ⟨w.heap.size+1,4,none⟩=some tu/\w.heap.size<w1.heap.size/\w1.cell? ⟨w.heap.size,0,none⟩=some (.slice a1 c.xs.length c1)/\w1.cell? ⟨w.heap.size,1,none⟩=some (.slice a2 c.ls.length c2) from by
  intro w1 x1;have:=x1.size;simp at this
  refine ⟨by omega,?_,?_,?_,?_,?_,by omega,?_,?_⟩ <;> (rw [x1.cells.1 _ _ (by simp <;> omega)];simp [go_sem]))
 go_enter Tryz.func160,Tryz.ntmps160;go_wp2_with (go_at_call 223;refine (iRunnable_val h1 lo hi _ _ (HV.out.ext hh X_) (by simp;omega) hL).mono ?_;rintro e w1 ⟨rfl,x1⟩;obtain ⟨d,d0,d1,d2,d3,d4,-⟩:=hbx.out w1 x1);refine (iValid_val h2 lo' hi' _ _ (by have:=HU.out.ext hh' (Ext.trans X_ x1:Ext w w1);rw [hn.out] at this;exact this) (by have:=x1.size;simp at this;omega)).mono ?_;rintro e w2 ⟨rfl,x2⟩;clear d d0 d1 d2 d3 d4;obtain ⟨d,d0,d1,d2,d3,d4,e,e0,e1⟩:=hbx.out w2 (x1.trans x2);have X2:Ext w w2:=(Ext.trans X_ x1:Ext w w1).trans x2;clear x1 x2 hbx;have HX2:=hid X2;go_wp2_with fail;refine wp_region_stages [([0,1,2,3],4),([5],6),([],7)] 7 w2.heap.size (by kernel_rfl) (by kernel_rfl) ?_;refine wpStages_cons ?_;simp only [List.filterMap_cons,List.filterMap_nil,List.getElem?_toArray,List.getElem?_cons_zero,List.getElem?_cons_succ]
 show wpQuiet _ _ _ _ [_,_,_,_] _
 repeat (go_big_quiet_step (fail))
 refine wpQuiet_nil ⟨_,rfl,fun K hK=>?_⟩;go_wp2_with (at_make;refine wpList_make_row _ rfl _ _ 201 rfl 25 i0 (.slice none 0 0) Tryz.underlying201 hi0 hz0 hz1 rfl .i64 .i64 c.ls.length rfl rfl (by rw [hz2];omega) (by omega) ?_);go_wp2_with fail;refine hK _ _ (.inr (fun k _ hk=>Ext.block X_ (by first|omega|(simp;omega)))) ?_;clear hK K;clear hi0 hz0 hz1 hz2;refine st_ fun K hK=>?_;go_wp2_with fail;go_wp2_with fail;refine hK _ _ (.inr (fun k _ hk=>Ext.block X_ (by first|omega|(simp;omega)))) ?_;clear hK K;refine st_ fun K hK=>?_;go_wp2_with fail;go_wp2_with fail;refine hK _ _ (.inl (by trivial)) ?_;clear hK K;refine wpStages_nil ?_
 have M0:Mach w.heap.size (w2.heap.size+1) ((w2.drew.alloc (.cells (madeCells #[.slice none 0 0] c.ls.length) 25)).alloc (.cells #[n,pu,g.tm,g.t.log,tu,.slice none 0 0,.slice (some ⟨w2.heap.size,0,none⟩) c.ls.length c.ls.length] 304)) (w2.heap.size+1) n pu tu g.tm g.t.log (.slice none 0 0) (.slice (some ⟨w2.heap.size,0,none⟩) c.ls.length c.ls.length) [] (List.replicate c.ls.length (.slice none 0 0)) [] (List.replicate c.ls.length []):=by
  have hz:=X2.size;have hf:=ownsRow.fresh w2.drew w.heap.size c.ls.length hz hL;refine ⟨?_,by omega,World.ownsRow_nil _ _ _ _,hf.alloc _,fun k hk=>by simp [Value.ownBlock] at hk;omega,by omega,by simp,rfl,Rws.nils _ _ _,Apt.nils _,Nls.nils _⟩;have:=hnew (w2.drew.alloc (.cells (madeCells #[.slice none 0 0] c.ls.length) 25)) (.cells #[n,pu,g.tm,g.t.log,tu,.slice none 0 0,.slice (some ⟨w2.heap.size,0,none⟩) c.ls.length c.ls.length] 304)
  simpa using this
 have X3:Ext w ((w2.drew.alloc (.cells (madeCells #[.slice none 0 0] c.ls.length) 25)).alloc (.cells #[n,pu,g.tm,g.t.log,tu,.slice none 0 0,.slice (some ⟨w2.heap.size,0,none⟩) c.ls.length c.ls.length] 304)):=(X2.drew.alloc _).alloc _;have X23:Ext w2 ((w2.drew.alloc (.cells (madeCells #[.slice none 0 0] c.ls.length) 25)).alloc (.cells #[n,pu,g.tm,g.t.log,tu,.slice none 0 0,.slice (some ⟨w2.heap.size,0,none⟩) c.ls.length c.ls.length] 304)):=X_;have f0:=(X23.cells.1 _ 0 e).trans e0
 have f1:w.heap.size<((w2.drew.alloc (.cells (madeCells #[.slice none 0 0] c.ls.length) 25)).alloc (.cells #[n,pu,g.tm,g.t.log,tu,.slice none 0 0,.slice (some ⟨w2.heap.size,0,none⟩) c.ls.length c.ls.length] 304)).heap.size:=by have:=X23.size;omega
 go_wp2_with fail;have M0':=hid M0;have HX3:=hid X3;clear M0 X3 X23 f0 f1;clear d d0 d1 d2 d3 d4 e e0 e1 X2;have k1:=HI.le;have k2:=HI.cap
 go_loopw [27] (fun i wr=>∃(k:Nat) (sv:Value) (vs us:List Value) (S L:List (List Int)),k<=c.xs.length/\i = .int .i64 k/\Mach w.heap.size (w2.heap.size+1) wr (w2.heap.size+1) n pu tu g.tm g.t.log sv (.slice (some ⟨w2.heap.size,0,none⟩) c.ls.length c.ls.length) vs us S L/\Okst c.ls.length g.m (c.xs.drop k) S L/\runG n g.m g.f g.tm g.t (c.xs.drop k) S L=c.out g/\S.length<=k/\Ext w wr) (fun i _=>c.xs.length - (intOf i).toNat)
 case atStart=>exact ⟨0,_,_,_,_,_,by omega,rfl,M0'.out,by rw [List.drop_zero];exact Okst.start HD.out,by rw [List.drop_zero];exact HOUT.out,by simp,HX3.out⟩
 case round=>
  clear M0' HX3;obtain ⟨k,sv,vs,us,S,L,hk,rfl,M,ok,hrun,hSk,hx⟩:=hrel
  by_cases hlt:k<c.xs.length
  ·obtain ⟨b,off,op,s,num,rfl,hb1,hbw,hdrop,hget,io,inn,x0,x1,x2⟩:=HI.at hlt hx hh
   rw [hdrop] at ok hrun;have hnb:numB ⟨op,s,num⟩=true:=HN.out _ (List.mem_of_getElem? hget);have y0:Ext wr (wr.alloc (.cells #[op,.string s,num] 197)):=X_;have HC:=hid (execute_any (M.ext y0) (HG.out.step (hx.trans y0)) ok hnb (by omega));have HK:=hid (ok.next (t:=g.t) HG.out.hm hnb HG.out.f9 HG.out.tm9);have hpq:=ok.pops;have HR:=hid hrun;have HX:=hid (hx.trans y0);clear M ok hrun hget hdrop hx y0 hnb;go_wp2_with fail;refine HC.out.mono ?_;rintro e w7 ⟨rfl,⟨sv',vs',us',M'⟩,st⟩;have HM':=hid M';have HS':=hid st;clear M' st;go_wp2;go_roundw
   case rel=>
    refine ⟨k+1,sv',vs',us',_,_,by omega,by go_num,HM'.out,HK.out,HR.out,?_,Below.trans HX.out HS'.out.below⟩;obtain ⟨p,hp1,hp2⟩:=hpq;unfold nextS
    split
    ·rw [List.length_take];omega
    ·rw [List.length_append,List.length_take,List.length_singleton];omega
   case measure=>simp [intOf];omega
  ·obtain rfl:k=c.xs.length:=by omega
   rw [List.drop_length] at hrun;have c6:=cell_of_cells M.box 6;simp at c6;have hb:=M.lt;have hrun':L=c.out g:=hrun;have HM:=hid M;have HR:=hid hrun';clear M ok hrun hrun';go_wp2;refine bodyPost_ret (v:=.tuple #[.slice (some ⟨w2.heap.size,0,none⟩) c.ls.length c.ls.length,.bool true]) (by simp [results,Tryz.results160,go_sem]) rfl ⟨_,rfl,?_,hx⟩;rw [<-HR.out];have M:=HM.out;exact ⟨us,M.lo',Rws.right M.sl M.rows,(List.pairwise_append.1 M.apt).2.1,M.nls⟩
def SSO (lo hi:Nat) (w:World) (v:Value) (S:List (List Int)):Prop:=∃us,w.ownsRow lo 25 1 v us.length us/\Rws lo w us S/\Apt us/\(∀k,v.ownBlock=some k->k<hi)/\∀u∈us,∀k,u.ownBlock=some k->k<hi
theorem Rws.blk {lo:Nat} {w:World} {us:List Value} {S:List (List Int)} (h:Rws lo w us S):∀u∈us,∀k,u.ownBlock=some k->lo<=k/\k<w.heap.size:=by
 intro u hu k hk;obtain ⟨i,hi,rfl⟩:=List.getElem_of_mem hu;have hl:=h.len;exact (h.own i us[i] (S[i]'(by omega)) (by simp [hi]) (by simp [show i<S.length by omega])).lt k hk
theorem OwnSS.o {lo:Nat} {w:World} {v:Value} {S:List (List Int)} (h:OwnSS lo w v S):SSO lo w.heap.size w v S:=by
 obtain ⟨us,h1,h2,h3,-⟩:=h;exact ⟨us,h1,h2,h3,fun k hk=>(World.ownsRow.lt h1 k hk).2,fun u hu k hk=>(h2.blk u hu k hk).2⟩
theorem SSO.kp {lo hi:Nat} {w w':World} {v:Value} {S:List (List Int)} (h:SSO lo hi w v S) (k:Kp lo hi w w'):SSO lo hi w' v S:=by
 obtain ⟨us,h1,h2,h3,h4,h5⟩:=h;refine ⟨us,⟨h1.1,?_⟩,⟨h2.len,fun i u xs hu hx=>?_⟩,h3,h4,h5⟩
 ·rcases h1.2 with hn|⟨g,cap,cur,hv,hb,hg,r⟩
  ·exact .inl hn
  ·exact .inr ⟨g,cap,cur,hv,hb,by rw [k.2 g hb (h4 g (by rw [hv];rfl))];exact hg,r⟩
 ·have hown:=h2.own i u xs hu hx
  exact (IntsO.kp (hi:=hi) ⟨hown,h5 u (List.mem_of_getElem? hu)⟩ k).1
theorem SSO.ss {lo hi:Nat} {w:World} {v:Value} {S:List (List Int)} (h:SSO lo hi w v S):SS 0 w.heap.size w v S:=by
 obtain ⟨us,h1,h2,_⟩:=h;exact ownsRow.ss h1 h2
theorem SSO.form {lo hi:Nat} {w:World} {v:Value} {S:List (List Int)} (h:SSO lo hi w v S):∃a c,v = .slice a S.length c:=by
 obtain ⟨us,h1,h2,_⟩:=h;obtain ⟨a,c,e⟩:=ownsRow.form h1;exact ⟨a,c,by rw [e,h2.len]⟩
structure GBox (w:World) (B:Nat) (n:Int) (pu:Value) (tm lg:Int) (tu:Value):Prop where
 lt:B<w.heap.size
 c0:w.cell? ⟨B,0,none⟩=some (.int .i64 n)
 c1:w.cell? ⟨B,1,none⟩=some pu
 c2:w.cell? ⟨B,2,none⟩=some (.int .i64 tm)
 c3:w.cell? ⟨B,3,none⟩=some (.int .i64 lg)
 c4:w.cell? ⟨B,4,none⟩=some tu
theorem GBox.made (w:World) (n:Int) (pu:Value) (tm lg:Int) (tu:Value) (ty:TypeId):GBox (w.alloc (.cells #[n,pu,tm,lg,tu] ty)) w.heap.size n pu tm lg tu:=⟨by simp,by simp [go_sem],by simp [go_sem],by simp [go_sem],by simp [go_sem],by simp [go_sem]⟩
theorem GBox.ext {w w':World} {B:Nat} {n:Int} {pu:Value} {tm lg:Int} {tu:Value} (h:GBox w B n pu tm lg tu) (e:Ext w w'):GBox w' B n pu tm lg tu:=by
 have:=e.size;have h0:=h.lt;obtain ⟨a,b⟩:=e.cells;exact ⟨by omega,(a B _ h0).trans h.c0,(a B _ h0).trans h.c1,(a B _ h0).trans h.c2,(a B _ h0).trans h.c3,(a B _ h0).trans h.c4⟩
structure Mst (lo lo2:Nat) (w:World) (sv lv:Value) (vs us:List Value) (S L:List (List Int)):Prop where
 so:w.ownsRow lo2 25 1 sv vs.length vs
 lo':w.ownsRow lo 25 1 lv us.length us
 sep:∀k,lv.ownBlock=some k->k<lo2
 hl:lo<=lo2
 hl2:lo2<=w.heap.size
 sr:Rws lo w vs S
 lr:Rws lo w us L
theorem Mst.ext {lo lo2:Nat} {w w':World} {sv lv:Value} {vs us:List Value} {S L:List (List Int)} (M:Mst lo lo2 w sv lv vs us S L) (e:Ext w w'):Mst lo lo2 w' sv lv vs us S L:=by
 have hg:w.grownBy w' none:=⟨Below.os e,Below.tape e,Below.output e,e.size,fun k hk _=>e.block hk⟩
 exact ⟨M.so.kept hg (by cases sv.ownBlock <;> simp),M.lo'.kept hg (by cases lv.ownBlock <;> simp),M.sep,M.hl,Nat.le_trans M.hl2 e.size,M.sr.keepI e.keepI,M.lr.keepI e.keepI⟩
theorem Mst.push {lo lo2:Nat} {w w':World} {sv lv v' y:Value} {vs us:List Value} {S L:List (List Int)} {r:List Int} (M:Mst lo lo2 w sv lv vs us S L) (hv':w'.ownsRow lo2 25 1 v' (vs.length+1) (vs++[y])) (hg:w.grownBy w' sv.ownBlock) (hy:OwnInts lo w y r) :
  Mst lo lo2 w' v' lv (vs++[y]) us (S++[r]) L/\Below lo w w':=by
 have hsl:=World.ownsRow.lt M.so;have kk:KeepI w w':=KeepI.grown hg (fun k cur fr hk=>ownsRow.int M.so (by decide) k cur fr hk);refine ⟨⟨by simpa using hv',M.lo'.kept hg ?_,M.sep,M.hl,Nat.le_trans M.hl2 hg.size,(M.sr.keepI kk).snoc (hy.keepI kk),M.lr.keepI kk⟩,Below.grown (Below.refl _ _) hg (Nat.le_trans M.hl M.hl2) (fun k hk=>by have:=(hsl k hk).1;have:=M.hl;omega)⟩
 cases hk:lv.ownBlock with
 | none=>exact .inl rfl
 | some k=>exact .inr (fun e=>by have h1:=M.sep k hk;have h2:=(hsl k e.symm).1;omega)
theorem Mst.shrink {lo lo2 g cap:Nat} {w:World} {lv:Value} {vs us:List Value} {S L:List (List Int)} (M:Mst lo lo2 w (.slice (some ⟨g,0,none⟩) vs.length cap) lv vs us S L) (q:Nat) (hq:q<=vs.length):Mst lo lo2 w (.slice (some ⟨g,0,none⟩) q cap) lv (vs.take q) us (S.take q) L:=by
 have e:(vs.take q).length=q:=by simp;omega
 exact ⟨by rw [e];exact ownsRow.shrink M.so hq,M.lo',M.sep,M.hl,M.hl2,M.sr.take q,M.lr⟩
theorem Mst.store {lo lo2 lb lc:Nat} {w:World} {sv y:Value} {vs us:List Value} {S L:List (List Int)} {r:List Int} (M:Mst lo lo2 w sv (.slice (some ⟨lb,0,none⟩) us.length lc) vs us S L) (j:Nat) (hy:OwnInts lo w y r) :
  Mst lo lo2 (w.setCell ⟨lb,j,none⟩ y) sv (.slice (some ⟨lb,0,none⟩) us.length lc) vs (us.set j y) S (L.set j r)/\Below lo w (w.setCell ⟨lb,j,none⟩ y):=by
 have hsto:=World.ownsRow.stored M.lo' j y;have kk:KeepI w (w.setCell ⟨lb,j,none⟩ y):=KeepI.setCell _ (fun cur fr=>ownsRow.int M.lo' (by decide) lb cur fr rfl);have hsl:=World.ownsRow.lt M.so;have hll:=World.ownsRow.lt M.lo' lb rfl
 have hl2:(us.set j y).length=us.length:=by simp
 refine ⟨⟨M.so.kept hsto.2 ?_,by rw [hl2];exact hsto.1,M.sep,M.hl,by have:=M.hl2;simpa using this,M.sr.keepI kk,(M.lr.keepI kk).set j (hy.keepI kk)⟩,Below.setCell (Below.refl _ _) hll.1 _⟩
 cases hk:sv.ownBlock with
 | none=>exact .inl rfl
 | some k=>exact .inr (fun e=>by injection e with e;have h1:=M.sep lb rfl;have h2:=(hsl k hk).1;omega)
theorem ownsRow.size {w:World} {lo:Nat} {e:TypeId} {n:Nat} {v:Value} {xs:List Value} (h:w.ownsRow lo e 1 v n xs):xs.length=n:=by have:=h.1;omega
theorem SS.kp {lo hi:Nat} {w w':World} {v:Value} {S:List (List Int)} (h:SS lo hi w v S) (k:Kp lo hi w w'):SS lo hi w' v S:=h.same k.same
def Cod.res (c:Cod) (g:Grd):List (List Int):=if (c.runB&&g.okB)=true then c.out g else []
theorem OwnSS.nil (lo:Nat) (w:World):OwnSS lo w (.slice none 0 0) []:=⟨[],World.ownsRow_nil _ _ _ _,⟨rfl,fun i v xs h=>by simp at h⟩,List.Pairwise.nil,fun j u h=>by simp at h⟩
theorem SS.nil (hi:Nat) (w:World):SS 0 hi w (.slice none 0 0) []:=⟨none,0,rfl,Nat.le_refl _,by unfold maxLen;omega,fun i xs h=>by simp at h⟩
theorem iRunGrid_one {b:Bool} {S:List (List Int)} (lo hi lo' hi':Nat) (v u:Value) (c:Cod) (g:Grd) (w:World) (hb:(c.runB&&g.okB)=b) (hS:c.res g=S) (hv:c.R lo hi w v) (hh:hi<=w.heap.size) (hu:g.R lo' hi' w u) (hh':hi'<=w.heap.size) (hL:c.small) :
  Calls Tryz.prog 160 #[v,u] w fun e w'=>∃r,e = .returned (.tuple #[r,.bool b])/\OwnSS w.heap.size w' r S/\Ext w w':=by
 have hL':c.ls.length<=2000000:=by have:=hL.2;omega
 subst hS;unfold Cod.res
 cases b
 ·rw [hb,if_neg (by decide)]
  exact (iRunGrid_no lo hi lo' hi' v u c g w hv hh hu hh' hL' hb).mono fun e w' ⟨h1,h2⟩=>⟨_,h1,OwnSS.nil _ _,h2⟩
 ·rw [hb,if_pos rfl]
  exact iRunGrid_yes lo hi lo' hi' v u c g w hv hh hu hh' hL' hb
theorem runG_small {L0 n m:Nat} {f:Nat->Int} {tm:Int} {t:Tex} (hm:n*n=m) (hf:∀i,i<m*5->S9 (f i)) (ht:S9 tm) :
  ∀(xs:List Ins) (S L:List (List Int)),(∀x∈xs,numB x=true)->Okst L0 m xs S L->(runG n m f tm t xs S L).length=L0/\∀r∈runG n m f tm t xs S L,r.length<=m:=by
 intro xs
 induction xs with
 | nil=>
  intro S L _ h;refine ⟨h.len,fun r hr=>?_⟩;obtain ⟨d,st,_,h2⟩:=h.run;obtain ⟨j,hj⟩:=List.mem_iff_getElem?.1 hr
  rcases h2 j r hj with ⟨_,h3⟩|⟨_,h3⟩
  ·have:=h3.1;omega
  ·rw [h3];simp
 | cons x r ih=>
  intro S L hn h;exact ih _ _ (fun y hy=>hn y (List.mem_cons_of_mem _ hy)) (h.next hm (hn x List.mem_cons_self) hf ht)
def ixL (s:List UInt8):List ByteArray->Int
 | []=>-1
 | x::r=>if x.toList=s then 0 else if ixL s r<0 then -1 else ixL s r+1
theorem ixL_bd (s:List UInt8):∀ls,-1<=ixL s ls/\ixL s ls<ls.length:=by
 intro ls
 induction ls with
 | nil=>simp [ixL]
 | cons x r ih=>
  simp only [ixL,List.length_cons]
  split
  ·omega
  ·split <;> omega
theorem ixL_at {s:List UInt8}:∀{ls:List ByteArray} {k:Nat} {y:ByteArray},ls[k]?=some y->y.toList=s->(∀j z,j<k->ls[j]?=some z->z.toList≠s)->ixL s ls=k:=by
 intro ls
 induction ls with
 | nil=>intro k y h;simp at h
 | cons x r ih=>
  intro k y h1 h2 h3
  cases k with
  | zero=>
   simp at h1;subst h1;simp [ixL,h2]
  | succ k=>
   have h0:=h3 0 x (by omega) rfl;have:=ih (k:=k) (by simpa using h1) h2 (fun j z hj hz=>h3 (j+1) z (by omega) (by simpa using hz));simp only [ixL,if_neg h0,this];rw [if_neg (by omega)];simp
theorem ixL_no {s:List UInt8}:∀{ls:List ByteArray},(∀j z,j<ls.length->ls[j]?=some z->z.toList≠s)->ixL s ls = -1:=by
 intro ls
 induction ls with
 | nil=>intro _;rfl
 | cons x r ih=>
  intro h;have h0:=h 0 x (by simp) rfl;have:=ih (fun j z hj hz=>h (j+1) z (by simp;omega) (by simpa using hz));simp [ixL,if_neg h0,this]
theorem iIndex_any (lo hi:Nat) (u:Value) (ls:List ByteArray) (s:ByteArray) (w:World) (hu:Strs lo hi w u ls) (hl:ls.length<=2000000) :
  Calls Tryz.prog 161 #[u,.string s] w fun e w'=>e = .returned (.int .i64 (ixL s.toList ls))/\w=w':=by
 obtain ⟨a,cap,rfl,HU⟩:=hu.open;have l1:=HU.le;have l2:=HU.cap;clear hu;go_enter Tryz.func161,Tryz.ntmps161;go_wp2
 go_loopw [8] (fun i wr=>∃k:Nat,k<=ls.length/\i = .int .i64 k/\wr=w/\∀j z,j<k->ls[j]?=some z->z.toList≠s.toList) (fun i _=>ls.length - (intOf i).toNat)
 case atStart=>exact ⟨0,by omega,rfl,rfl,fun j x h=>by omega⟩
 case round=>
  obtain ⟨k,hk,rfl,rfl,hno⟩:=hrel
  by_cases hlt:k<ls.length
  ·obtain ⟨b,off,rfl,hb1,hb2,hc⟩:=HU.at hlt
   have hget:ls[k]?=some ls[k]:=by simp [hlt]
   obtain ⟨y,hy⟩:∃y,ls[k]=y:=⟨_,rfl⟩
   rw [hy] at hc hget;clear hy
   by_cases he:(s.toList==y.toList)=true
   ·have hv:=hid (ixL_at hget (eq_of_beq he).symm hno)
    clear hno hget;go_wp2;go_ret;exact ⟨by first|(rw [hv.out];done)|(rw [hv.out];rfl),rfl⟩
   ·have HN:Hid (∀j z,j<k+1->ls[j]?=some z->z.toList≠s.toList):=hid (fun j z hj hz=>by
     by_cases hjk:j=k
     ·subst hjk
      rw [hget] at hz;injection hz with hz;subst hz;intro e;exact he (by rw [e];simp)
     ·exact hno j z (by omega) hz)
    clear hno hget;go_wp2;go_roundw
    case rel=>exact ⟨k+1,by omega,by go_num,by trivial,HN.out⟩
    case measure=>simp [intOf];omega
  ·obtain rfl:k=ls.length:=by omega
   have hv:=hid (ixL_no hno);clear hno;go_wp2;go_ret;exact ⟨by first|(rw [hv.out];done)|(rw [hv.out];rfl),rfl⟩
theorem iIndex_val {i:Int} {s:ByteArray} {ls:List ByteArray} (h:ixL s.toList ls=i) (lo hi:Nat) (u:Value) (w:World) (hu:Strs lo hi w u ls) (hl:ls.length<=2000000) :
  Calls Tryz.prog 161 #[u,.string s] w fun e w'=>e = .returned (.int .i64 i)/\w=w':=h▸iIndex_any lo hi u ls s w hu hl
def colorIx (ls:List ByteArray):Int:=ixL (⟨#[99,111,108,111,114]⟩:ByteArray).toList ls
def alphaIx (ls:List ByteArray):Int:=ixL (⟨#[97,108,112,104,97]⟩:ByteArray).toList ls
def Cod.shade (c:Cod) (g:Grd):List Int×List Int×Bool:=
 if (c.runB&&g.okB)=true/\0<=colorIx c.ls/\(c.res g).getD (colorIx c.ls).toNat []≠[]/\(alphaIx c.ls<0\/(c.res g).getD (alphaIx c.ls).toNat []≠[]) then
  (((c.res g).getD (colorIx c.ls).toNat []).map col,if alphaIx c.ls<0 then List.replicate g.m 256 else ((c.res g).getD (alphaIx c.ls).toNat []).map col,true)
 else ([],[],false)
theorem Cod.res_small {c:Cod} {g:Grd} (h:(c.runB&&g.okB)=true):(c.res g).length=c.ls.length/\∀r∈c.res g,r.length<=64:=by
 unfold Cod.res;rw [if_pos h];simp only [Bool.and_eq_true] at h;obtain ⟨h1,h2⟩:=h;obtain ⟨n,hn,hm,hn1,hn8,ht,htm,hf⟩:=g.parts h2;unfold Cod.runB at h1;simp only [Bool.and_eq_true,List.all_eq_true] at h1;have key:=runG_small (t:=g.t) (f:=g.f) (tm:=g.tm) hm hf htm c.xs [] (List.replicate c.ls.length []) h1.2 (Okst.start h1.1)
 have e:c.out g=runG n g.m g.f g.tm g.t c.xs [] (List.replicate c.ls.length []):=by unfold Cod.out;rw [hn];rfl
 rw [e];have h6:n*n<=8*8:=Nat.mul_le_mul hn8 hn8;exact ⟨key.1,fun r hr=>by have:=key.2 r hr;omega⟩
theorem shade_neg {P:Prop} [Decidable P] {A:List Int×List Int×Bool} {X Y:List Int} {b:Bool} (h:(if P then A else ([],[],false))=(X,Y,b)) (hP : ¬P):X=[]/\Y=[]/\b=false:=by
 rw [if_neg hP] at h;simp only [Prod.mk.injEq] at h;exact ⟨h.1.symm,h.2.1.symm,h.2.2.symm⟩
structure ShCases (m:Nat) (R:Bool) (S:List (List Int)) (i j:Int) (X Y:List Int) (b:Bool):Prop where
 all:(R=false/\X=[]/\Y=[]/\b=false) \/
  (R=true/\i = -1/\X=[]/\Y=[]/\b=false) \/
  (R=true/\∃k:Nat,i=k/\k<=2000000/\S[k]?=some []/\X=[]/\Y=[]/\b=false) \/
  (R=true/\∃(k:Nat) (r:List Int),i=k/\k<=2000000/\S[k]?=some r/\r≠[]/\r.length<=64 /\
   ((∃l:Nat,j=l/\l<=2000000/\S[l]?=some []/\X=[]/\Y=[]/\b=false)\/(j = -1/\X=r.map col/\Y=List.replicate m 256/\b=true) \/
    ∃(l:Nat) (q:List Int),j=l/\l<=2000000/\S[l]?=some q/\q≠[]/\q.length<=64/\X=r.map col/\Y=q.map col/\b=true))
theorem shade_cases {c:Cod} {g:Grd} {R:Bool} {S:List (List Int)} {i j:Int} {X Y:List Int} {b:Bool} (hL:c.small) (hs:c.shade g=(X,Y,b)) (eR:(c.runB&&g.okB)=R) (eS:c.res g=S) (ei:colorIx c.ls=i) (ej:alphaIx c.ls=j):ShCases g.m R S i j X Y b:=by
 have bi:=ixL_bd (⟨#[99,111,108,111,114]⟩:ByteArray).toList c.ls;have bj:=ixL_bd (⟨#[97,108,112,104,97]⟩:ByteArray).toList c.ls;have hl:=hL.2;rw [show ixL (⟨#[99,111,108,111,114]⟩:ByteArray).toList c.ls=i from ei] at bi;rw [show ixL (⟨#[97,108,112,104,97]⟩:ByteArray).toList c.ls=j from ej] at bj;unfold Cod.shade at hs;rw [eR,eS,ei,ej] at hs;refine ⟨?_⟩
 cases R with
 | false=>exact .inl ⟨rfl,shade_neg hs (fun h=>by cases h.1)⟩
 | true=>
  right
  have hz:=Cod.res_small eR;rw [eS] at hz
  by_cases h1:i<0
  ·exact .inl ⟨rfl,by omega,shade_neg hs (fun h=>by have:=h.2.1;omega)⟩
  ·right
   obtain ⟨k,rfl⟩:∃k:Nat,i=k:=⟨i.toNat,by omega⟩
   simp only [Int.toNat_natCast] at hs
   have hk:k<S.length:=by omega
   have gk:S.getD k []=S[k]:=by simp [List.getD,hk]
   have sk:S[k]?=some S[k]:=by simp [hk]
   rw [gk] at hs
   by_cases h2:S[k]=[]
   ·exact .inl ⟨rfl,k,rfl,by omega,h2▸sk,shade_neg hs (fun h=>h.2.2.1 h2)⟩
   ·refine .inr ⟨rfl,k,S[k],rfl,by omega,sk,h2,hz.2 _ (List.getElem_mem hk),?_⟩
    by_cases h3:j<0
    ·rw [if_pos ⟨by trivial,by omega,h2,.inl h3⟩,if_pos h3] at hs
     simp only [Prod.mk.injEq] at hs;exact .inr (.inl ⟨by omega,hs.1.symm,hs.2.1.symm,hs.2.2.symm⟩)
    ·obtain ⟨l,rfl⟩:∃l:Nat,j=l:=⟨j.toNat,by omega⟩
     simp only [Int.toNat_natCast] at hs
     have hl':l<S.length:=by omega
     have gl:S.getD l []=S[l]:=by simp [List.getD,hl']
     have sl:S[l]?=some S[l]:=by simp [hl']
     rw [gl] at hs
     by_cases h4:S[l]=[]
     ·exact .inl ⟨l,rfl,by omega,h4▸sl,shade_neg hs (fun h=>by rcases h.2.2.2 with h|h;exact h3 h;exact h h4)⟩
     ·rw [if_pos ⟨by trivial,by omega,h2,.inr h4⟩,if_neg h3] at hs
      simp only [Prod.mk.injEq] at hs;exact .inr (.inr ⟨l,S[l],rfl,by omega,sl,h4,hz.2 _ (List.getElem_mem hl'),hs.1.symm,hs.2.1.symm,hs.2.2.symm⟩)
theorem OwnSS.open1 {lo:Nat} {w:World} {v:Value} {S:List (List Int)} (h:OwnSS lo w v S) (hn:1<=S.length):∃b cap,v = .slice (some ⟨b,0,none⟩) S.length cap/\b<w.heap.size/\S.length<=cap/\cap<=9223372036854775807/\∀k r,S[k]?=some r->∃ru,w.cell? ⟨b,k,none⟩=some ru/\OwnInts lo w ru r/\(r=[]->ru = .slice none 0 0):=by
 obtain ⟨us,h1,h2,h3,h4⟩:=h;have hl:=h2.len;obtain ⟨b,cap,rfl,hb1,hb2⟩:=ownsRow.form1 h1 (by omega);obtain ⟨k1,k2⟩:=ownsRow.caps h1;refine ⟨b,cap,by rw [hl],hb2,by omega,k2,fun k r hr=>?_⟩
 have hk:k<us.length:=by have:=(List.getElem?_eq_some_iff.1 hr).1;omega
 have hu:us[k]?=some us[k]:=by simp [hk]
 refine ⟨us[k],?_,h2.own k us[k] r hu hr,fun e=>h4 k us[k] hu (e▸hr)⟩;have:=World.ownsRow.cellAt h1 k (by omega);rw [hu] at this;exact this
theorem OwnInts.someAt {lo:Nat} {w:World} {v:Value} {xs:List Int} (h:OwnInts lo w v xs) (hx:xs≠[]):∃g c,v = .slice (some ⟨g,0,none⟩) xs.length c/\g<w.heap.size:=by
 rcases h.1.2 with ⟨rfl,h4⟩|⟨g,cap,cur,rfl,hb,hg,hc,hm,hs,ht⟩
 ·exact absurd (List.length_eq_zero_iff.1 h4) hx
 ·exact ⟨g,cap,rfl,(Array.getElem?_eq_some_iff.1 hg).1⟩
theorem IntsO.nil (lo hi:Nat) (w:World):IntsO lo hi w (.slice none 0 0) []:=⟨⟨World.ownsRow_nil _ _ _ _,fun x h=>by cases h⟩,fun k h=>by cases h⟩
theorem IntsO.high {lo hi hi':Nat} {w:World} {v:Value} {xs:List Int} (h:IntsO lo hi w v xs) (hh:hi<=hi'):IntsO lo hi' w v xs:=⟨h.1,fun k hk=>by have:=h.2 k hk;omega⟩
theorem iConstant_g {g:Grd} {n:Nat} (hg:g.n=n) (c:Int) (g1:Value) (g2 g3:Int) (g4:Value) (w:World) (hm:(n:Int)*n=g.m) (hn:g.m<=1000000) (hc:I64 c) :
  Calls Tryz.prog 163 #[c,.agg #[g.n,g1,g2,g3,g4]] w fun e w'=>∃v,e = .returned v/\OwnInts w.heap.size w' v (List.replicate g.m c)/\Ext w w':=by
 rw [hg];exact iConstant_any c n g.m g1 g2 g3 g4 w hm hn hc
theorem shade_none {w w':World} (h:Ext w w'):∃r1 r2,Ending.returned (.tuple #[.slice none 0 0,.slice none 0 0,.bool false]) = .returned (.tuple #[r1,r2,.bool false])/\∃h,w.heap.size<=h/\h<=w'.heap.size/\IntsO w.heap.size h w' r1 []/\IntsO h w'.heap.size w' r2 []/\Ext w w':=
 ⟨_,_,rfl,w'.heap.size,h.size,Nat.le_refl _,IntsO.nil _ _ _,IntsO.nil _ _ _,h⟩
theorem iShadeGrid_any (lo hi lo' hi':Nat) (v u:Value) (c:Cod) (g:Grd) (w:World) {X Y:List Int} {b:Bool} (hs:c.shade g=(X,Y,b)) (hv:c.R lo hi w v) (hh:hi<=w.heap.size) (hu:g.R lo' hi' w u) (hh':hi'<=w.heap.size) (hL:c.small) :
  Calls Tryz.prog 96 #[v,u] w fun e w'=>∃r1 r2,e = .returned (.tuple #[r1,r2,.bool b])/\∃h,w.heap.size<=h/\h<=w'.heap.size/\IntsO w.heap.size h w' r1 X/\IntsO h w'.heap.size w' r2 Y/\Ext w w':=by
 obtain ⟨R,eR⟩:∃R,(c.runB&&g.okB)=R:=⟨_,rfl⟩
 obtain ⟨S,eS⟩:∃S,c.res g=S:=⟨_,rfl⟩
 obtain ⟨i,ei⟩:∃i,colorIx c.ls=i:=⟨_,rfl⟩
 obtain ⟨j,ej⟩:∃j,alphaIx c.ls=j:=⟨_,rfl⟩
 have hn:R=true->∃n:Nat,g.n=n/\(n:Int)*n=g.m/\g.m<=64:=by
  intro h;rw [h] at eR;simp only [Bool.and_eq_true] at eR;obtain ⟨n,hn,hm,hn1,hn8,-⟩:=g.parts eR.2;have h6:n*n<=8*8:=Nat.mul_le_mul hn8 hn8;exact ⟨n,hn,by rw [<-hm];simp,by omega⟩
 have CS:=hid (shade_cases hL hs eR eS ei ej);have HC:=hid hv;have HG:=hid hu;have ER:=hid eR;have ES:=hid eS;have EI:=hid ei;have EJ:=hid ej;have HL:=hid hL;have HN:=hid hn;have hl:c.ls.length<=1048576:=hL.2;obtain ⟨iu,lu,rfl,-,hlu⟩:=hv;have HLU:=hid hlu;obtain ⟨pu,tu,rfl,_⟩:=hu;clear hs eR eS ei ej hn hlu hL;have en:∀(w:World) (a:Option Addr) (n c:Nat),(binOp .eql 25 (.slice a n c) (.slice none 0 0)).run Tryz.prog w = .ok (.bool a.isNone) w:=fun w a n c=>Lib.run_eql_slice_nil w _ _ a n c 0 0 Tryz.underlying25;go_enter Tryz.func96,Tryz.ntmps96;go_wp2_with fail;refine (iRunGrid_one lo hi lo' hi' _ _ c g _ ER.out ES.out (HC.out.ext hh X_) (by simp;omega) (HG.out.ext hh' X_) (by simp;omega) HL.out).mono ?_;rintro e w1 ⟨r,rfl,O1,x1⟩;have BP:=hid (((Bx.made w #[iu,lu] _).ext ((Ext.refl _).alloc _)).ext x1);have BQ:=hid ((Bx.madeAt (B:=w.heap.size+1) (w.alloc _) #[g.n,pu,g.tm,g.t.log,tu] _ (by simp)).ext x1);have E:Ext w w1:=Ext.trans X_ x1;have z1:=E.size;have O1':=O1;obtain ⟨us0,h0,h0',-⟩:=O1';obtain ⟨ra,rc,hrr⟩:=ownsRow.form h0;rw [h0'.len] at hrr;subst hrr;have OR:=hid O1;clear x1 O1 h0 h0';have p:=BP.out.lt;have p0:=BP.out.cell 0;simp only [List.getElem?_toArray,List.getElem?_cons_zero,List.getElem?_cons_succ] at p0;have p1:=BP.out.cell 1;simp only [List.getElem?_toArray,List.getElem?_cons_zero,List.getElem?_cons_succ] at p1;have q:=BQ.out.lt;have q0:=BQ.out.cell 0;simp only [List.getElem?_toArray,List.getElem?_cons_zero,List.getElem?_cons_succ] at q0;have q1:=BQ.out.cell 1;simp only [List.getElem?_toArray,List.getElem?_cons_zero,List.getElem?_cons_succ] at q1;have q2:=BQ.out.cell 2;simp only [List.getElem?_toArray,List.getElem?_cons_zero,List.getElem?_cons_succ] at q2;have q3:=BQ.out.cell 3;simp only [List.getElem?_toArray,List.getElem?_cons_zero,List.getElem?_cons_succ] at q3;have q4:=BQ.out.cell 4;simp only [List.getElem?_toArray,List.getElem?_cons_zero,List.getElem?_cons_succ] at q4;go_wp2_with fail;refine wp_region_stages [([0,1,3,4],2),([],5),([6],7)] 7 w1.heap.size (by kernel_rfl) (by kernel_rfl) ?_;refine st_ fun K hK=>?_;go_wp2_with fail;refine (iIndex_val EI.out lo hi _ _ (HLU.out.ext hh E.drew) (by omega)).mono ?_;rintro e wx ⟨rfl,rfl⟩;go_wp2_with fail;refine hK _ _ (.inr (fun k _ hk=>Ext.block X_ (by first|omega|(simp;omega)))) ?_;clear hK K;refine st_ fun K hK=>?_;go_wp2_with fail;refine (iIndex_val EJ.out lo hi _ _ (HLU.out.ext hh E.drew) (by omega)).mono ?_;rintro e wx ⟨rfl,rfl⟩;go_wp2_with fail;refine hK _ _ (.inr (fun k _ hk=>Ext.block X_ (by first|omega|(simp;omega)))) ?_;clear hK K;refine st_ fun K hK=>?_;go_wp2_with fail;go_wp2_with fail;refine hK _ _ (.inl (by trivial)) ?_;clear hK K;refine wpStages_nil ?_
 rcases CS.out.all with ⟨rfl,rfl,rfl,rfl⟩|⟨rfl,rfl,rfl,rfl,rfl⟩|⟨rfl,k,rfl,hk,sk,rfl,rfl,rfl⟩|⟨rfl,k,a,rfl,hk,sk,ha,la,hrest⟩
 ·go_wp2
  refine bodyPost_ret (v:=.tuple #[.slice none 0 0,.slice none 0 0,.bool false]) (by simp [results,Tryz.results96,go_sem]) rfl (shade_none E.drew)
 ·go_wp2
  refine bodyPost_ret (v:=.tuple #[.slice none 0 0,.slice none 0 0,.bool false]) (by simp [results,Tryz.results96,go_sem]) rfl (shade_none E.drew)
 ·have SK:=hid sk
  have hkS:k<S.length:=(List.getElem?_eq_some_iff.1 sk).1;obtain ⟨rb,rc',hrv,hb1,hb2,hb3,hcell⟩:=OR.out.open1 (by omega);simp only [Value.slice.injEq] at hrv;obtain ⟨rfl,-,rfl⟩:=hrv;obtain ⟨ru,c0,-,e0⟩:=hcell k _ sk;obtain rfl:=e0 rfl;clear sk hcell e0;go_wp2;refine bodyPost_ret (v:=.tuple #[.slice none 0 0,.slice none 0 0,.bool false]) (by simp [results,Tryz.results96,go_sem]) rfl (shade_none E.drew)
 have SK:=hid sk;have hkS:k<S.length:=(List.getElem?_eq_some_iff.1 sk).1;obtain ⟨rb,rc',hrv,hb1,hb2,hb3,hcell⟩:=OR.out.open1 (by omega);simp only [Value.slice.injEq] at hrv;obtain ⟨rfl,-,rfl⟩:=hrv;obtain ⟨ru,c0,o0,-⟩:=hcell k _ sk;obtain ⟨ga,ca,rfl,hga⟩:=o0.someAt ha;have O0:=hid (o0.low (lo':=w.heap.size) (by simp <;> omega));clear o0;obtain ⟨n,gn,hnn,hm⟩:=HN.out rfl
 rcases hrest with ⟨l,rfl,hl2,sl,rfl,rfl,rfl⟩|⟨rfl,rfl,rfl,rfl⟩|⟨l,q,rfl,hl2,sl,hq,lq,rfl,rfl,rfl⟩
 ·have SL:=hid sl
  have hlS:l<S.length:=(List.getElem?_eq_some_iff.1 sl).1;obtain ⟨rw,c1,-,e1⟩:=hcell l _ sl;obtain rfl:=e1 rfl;clear sk sl hcell e1 hnn gn;go_wp2;refine bodyPost_ret (v:=.tuple #[.slice none 0 0,.slice none 0 0,.bool false]) (by simp [results,Tryz.results96,go_sem]) rfl (shade_none E.drew)
 ·clear sk hcell
  have GN:=hid gn;have NN:=hid hnn;clear gn hnn;go_wp2_with fail;refine wp_region_stages [([0,1,2,3,5],4),([],6),([7,8],9)] 9 w1.heap.size (by kernel_rfl) (by kernel_rfl) ?_;refine st_ fun K hK=>?_;go_wp2_with fail;refine (iLimited_any w.heap.size w1.heap.size _ a _ (O0.out.ints.ext (Nat.le_refl _) X_) (by simp) (by omega)).mono ?_;rintro e w3 ⟨r1,rfl,o1,x1⟩;have y3:Ext w1 w3:=Ext.trans X_ x1;have z3:=y3.size;go_wp2_with fail;refine hK _ _ (.inr (y3.same (Nat.le_refl _))) ?_;clear hK K;refine st_ fun K hK=>?_;go_wp2_with fail;refine (iConstant_g GN.out 256 _ _ _ _ _ NN.out (by omega) ⟨by omega,by omega⟩).mono ?_;rintro e w4 ⟨r2,rfl,o2,x2⟩;have y4:Ext w1 w4:=y3.trans (Ext.trans X_ x2);have y34:Ext w3 w4:=Ext.trans X_ x2;have z4:=y34.size;go_wp2_with fail;refine hK _ _ (.inr (y4.same (Nat.le_refl _))) ?_;clear hK K;refine st_ fun K hK=>?_;go_wp2_with fail;go_wp2_with fail;refine hK _ _ (.inl (by trivial)) ?_;clear hK K;refine wpStages_nil ?_;go_wp2;refine bodyPost_ret (v:=.tuple #[r1,r2,.bool true]) (by simp [results,Tryz.results96,go_sem]) rfl ⟨r1,r2,rfl,w3.heap.size,by omega,z4,?_,?_,E.trans y4⟩
  ·exact (o1.low (by simp;omega)).o.kp (y34.kp (Nat.le_refl _))
  ·exact (o2.low (by simp)).o
 ·have SL:=hid sl
  have hlS:l<S.length:=(List.getElem?_eq_some_iff.1 sl).1;obtain ⟨rw,c1,o9,-⟩:=hcell l _ sl;obtain ⟨gb,cb,rfl,hgb⟩:=o9.someAt hq;have O9:=hid (o9.low (lo':=w.heap.size) (by simp <;> omega));clear sk sl hcell o9 hnn gn;go_wp2_with fail;refine wp_region_stages [([0,1,2,3,5,6,7,8],4),([],9),([10,11],12)] 12 w1.heap.size (by kernel_rfl) (by kernel_rfl) ?_;refine st_ fun K hK=>?_;go_wp2_with fail;refine (iLimited_any w.heap.size w1.heap.size _ a _ (O0.out.ints.ext (Nat.le_refl _) X_) (by simp) (by omega)).mono ?_;rintro e w3 ⟨r1,rfl,o1,x1⟩;have y3:Ext w1 w3:=Ext.trans X_ x1;have z3:=y3.size;go_wp2_with fail;refine hK _ _ (.inr (y3.same (Nat.le_refl _))) ?_;clear hK K;refine st_ fun K hK=>?_;go_wp2_with fail;refine (iLimited_any w.heap.size w1.heap.size _ q _ (O9.out.ints.ext (Nat.le_refl _) (y3.trans X_)) (by first|omega|(simp;omega)) (by omega)).mono ?_;rintro e w4 ⟨r2,rfl,o2,x2⟩;have y4:Ext w1 w4:=y3.trans (Ext.trans X_ x2);have y34:Ext w3 w4:=Ext.trans X_ x2;have z4:=y34.size;go_wp2_with fail;refine hK _ _ (.inr (y4.same (Nat.le_refl _))) ?_;clear hK K;refine st_ fun K hK=>?_;go_wp2_with fail;go_wp2_with fail;refine hK _ _ (.inl (by trivial)) ?_;clear hK K;refine wpStages_nil ?_;go_wp2;refine bodyPost_ret (v:=.tuple #[r1,r2,.bool true]) (by simp [results,Tryz.results96,go_sem]) rfl ⟨r1,r2,rfl,w3.heap.size,by omega,z4,?_,?_,E.trans y4⟩
  ·exact (o1.low (by simp;omega)).o.kp (y34.kp (Nat.le_refl _))
  ·exact (o2.low (by simp)).o
theorem sum_zero:∀n:Nat,((List.range n).map fun _=>0).sum=0
 | 0=>rfl
 | n+1=>by rw [List.range_succ,List.map_append,List.sum_append,sum_zero n];rfl
theorem sum_single (w:Nat->Nat):∀(n e:Nat),e<n->((List.range n).map fun j=>if e=j then w j else 0).sum=w e:=by
 intro n
 induction n with
 | zero=>intro e h;omega
 | succ n ih=>
  intro e h;rw [List.range_succ,List.map_append,List.sum_append]
  by_cases he:e=n
  ·subst he
   have:((List.range e).map fun j=>if e=j then w j else 0).sum=0:=by
    rw [List.map_congr_left (g:=fun _=>0) fun j hj=>if_neg (by have:=List.mem_range.1 hj;omega)];exact sum_zero e
   rw [this];simp
  ·rw [ih e (by omega)]
   simp [he]
theorem sum_add {α : Type} (f g : α->Nat):∀L:List α,(L.map fun x=>f x+g x).sum=(L.map f).sum+(L.map g).sum
 | []=>rfl
 | x::r=>by simp only [List.map_cons,List.sum_cons,sum_add f g r];omega
theorem sumW (w:Nat->Nat) (n:Nat):∀E:List Nat,(∀e∈E,e<n)->(E.map w).sum=((List.range n).map fun j=>(E.countP fun e=>e==j)*w j).sum:=by
 intro E
 induction E with
 | nil=>
  intro _
  have e:((List.range n).map fun j=>(([]:List Nat).countP fun e=>e==j)*w j)=(List.range n).map fun _=>0:=List.map_congr_left fun j _=>by simp
  rw [e,sum_zero]
  rfl
 | cons e r ih=>
  intro h;rw [List.map_cons,List.sum_cons,ih fun x hx=>h x (by simp [hx]),<-sum_single w n e (h e (by simp)),<-sum_add]
  congr 1
  refine List.map_congr_left fun j _=>?_;rw [List.countP_cons]
  by_cases hj:e=j
  ·subst hj;simp [Nat.add_mul];omega
  ·simp [hj]
def Prg.refs (p:Prg):List Nat:=(p.ns.flatMap fun x=>x.args.map Int.toNat)++p.gs.map fun a=>a.root.toNat
theorem refs_ns (j:Nat):∀xs:List Nd,((xs.flatMap fun x=>x.args.map Int.toNat).countP fun e=>e==j)=cntN j xs
 | []=>rfl
 | x::r=>by
  rw [List.flatMap_cons,List.countP_append,refs_ns j r];simp only [cntN,List.map_cons,List.sum_cons]
  congr 1
  unfold cntL;rw [List.countP_map]
  rfl
theorem refs_gs (j:Nat):∀xs:List Asg,((xs.map fun a=>a.root.toNat).countP fun e=>e==j)=cntG j xs
 | []=>rfl
 | x::r=>by
  rw [List.map_cons,List.countP_cons,refs_gs j r];simp only [cntG,List.map_cons,List.sum_cons]
  by_cases h:x.root.toNat=j <;> simp [h] <;> omega
theorem Prg.V.refs_lt {p:Prg} (h:p.V):∀e∈p.refs,e<p.ns.length:=by
 intro e he;unfold Prg.refs at he
 rcases List.mem_append.1 he with he|he
 ·obtain ⟨x,hx,he⟩:=List.mem_flatMap.1 he
  obtain ⟨a,ha,rfl⟩:=List.mem_map.1 he;obtain ⟨k,hk,rfl⟩:=List.getElem_of_mem hx;have:=(h.nd k _ (by simp [hk])).2 a ha;omega
 ·obtain ⟨a,ha,rfl⟩:=List.mem_map.1 he
  obtain ⟨k,hk,rfl⟩:=List.getElem_of_mem ha;have:=(h.ag k p.gs[k] (by simp [hk])).2;omega
theorem Prg.V.sum_refs {p:Prg} (h:p.V) (w:Nat->Nat):(p.refs.map w).sum=((List.range p.ns.length).map w).sum:=by
 rw [sumW w p.ns.length p.refs h.refs_lt]
 congr 1
 refine List.map_congr_left fun j hj=>?_;have h1:=h.one j (List.mem_range.1 hj)
 have:(p.refs.countP fun e=>e==j)=1:=by
  unfold Prg.refs;rw [List.countP_append,refs_ns,refs_gs];exact h1
 rw [this,Nat.one_mul]
theorem Prg.V.gs_len {p:Prg} (h:p.V):p.gs.length<=60:=by
 have h1:=h.sum_refs (fun _=>1);have h2:=h.len;unfold Prg.refs at h1;simp only [List.map_append,List.sum_append,List.map_map] at h1
 have e1:(p.gs.map ((fun _=>1) ∘ fun a:Asg=>a.root.toNat)).sum=p.gs.length:=by
  have:∀xs:List Asg,(xs.map ((fun _=>1) ∘ fun a:Asg=>a.root.toNat)).sum=xs.length:=fun xs=>by
   induction xs with
   | nil=>rfl
   | cons x r ih=>rw [List.map_cons,List.sum_cons,ih];simp;omega
  exact this _
 have e2:((List.range p.ns.length).map fun _=>1).sum=p.ns.length:=by
  have:∀n:Nat,((List.range n).map fun _=>1).sum=n:=fun n=>by
   induction n with
   | zero=>rfl
   | succ n ih=>rw [List.range_succ,List.map_append,List.sum_append,ih];rfl
  exact this _
 rw [e1,e2] at h1;omega
theorem Prg.V.sum_roots {p:Prg} (h:p.V) (w:Nat->Nat) (hw:∀(j:Nat) (x:Nd),p.ns[j]?=Option.some x->w j=1+(x.args.map fun a=>w a.toNat).sum):(p.gs.map fun a=>w a.root.toNat).sum=p.ns.length:=by
 have h1:=h.sum_refs w
 have e1:((List.range p.ns.length).map w).sum=p.ns.length+(p.ns.map fun x=>(x.args.map fun a=>w a.toNat).sum).sum:=by
  have:∀(xs:List Nd) (o:Nat),(∀(j:Nat) (x:Nd),xs[j]?=Option.some x->w (o+j)=1+(x.args.map fun a=>w a.toNat).sum)->((List.range xs.length).map fun j=>w (o+j)).sum=xs.length+(xs.map fun x=>(x.args.map fun a=>w a.toNat).sum).sum:=by
   intro xs
   induction xs with
   | nil=>intro o _;rfl
   | cons x r ih=>
    intro o ho;rw [List.length_cons,List.range_succ_eq_map,List.map_cons,List.sum_cons,List.map_map,List.map_cons,List.sum_cons]
    have:=ih (o+1) fun j y hy=>by
     have:=ho (j+1) y (by simpa using hy);rw [<-this]
     congr 1
     omega
    have e:(List.range r.length).map ((fun j=>w (o+j)) ∘ Nat.succ)=(List.range r.length).map fun j=>w (o+1+j):=List.map_congr_left fun j _=>by
     show w (o+(j+1))=w (o+1+j)
     congr 1
     omega
    rw [e,this];have h0:=ho 0 x (by simp);rw [h0];omega
  have:=this p.ns 0 fun j x hx=>by rw [Nat.zero_add];exact hw j x hx
  simpa using this
 have e2:∀xs:List Nd,((xs.flatMap fun x=>x.args.map Int.toNat).map w).sum=(xs.map fun x=>(x.args.map fun a=>w a.toNat).sum).sum:=fun xs=>by
  induction xs with
  | nil=>rfl
  | cons x r ih=>
   rw [List.flatMap_cons,List.map_append,List.sum_append,ih,List.map_cons,List.sum_cons,List.map_map]
   rfl
 unfold Prg.refs at h1;rw [List.map_append,List.sum_append,e2,e1,List.map_map] at h1;have e3:(p.gs.map (w ∘ fun a:Asg=>a.root.toNat)).sum=(p.gs.map fun a=>w a.root.toNat).sum:=rfl;omega
def ixOf (p:Prg) (s:ByteArray):Nat:=(frst p.gs p.gs.length s.toList).getD 0
def insOf (p:Prg) (x:Nd):Ins:=
 if x.op=1 then ⟨1,⟨#[]⟩,x.num⟩ else if x.op=3 then ⟨5,⟨#[]⟩,3⟩ else if x.op=2 then (if isVar x.name then ⟨2,x.name,0⟩ else ⟨3,⟨#[]⟩,(ixOf p x.name:Nat)⟩) else if x.op=8 then ⟨7,x.name,0⟩ else ⟨6,⟨#[]⟩,x.op⟩
def trF (p:Prg):Nat->Nat->List Ins
 | 0,_=>[]
 | F+1,j=>match p.ns[j]? with|some x=>(x.args.flatMap fun a=>trF p F a.toNat)++[insOf p x]|none=>[]
def Prg.tr (p:Prg) (j:Nat):List Ins:=trF p (j+1) j
def Prg.trs (p:Prg):Nat->List Ins
 | 0=>[]
 | k+1=>p.trs k++(match p.gs[k]? with|some a=>p.tr a.root.toNat++[⟨4,⟨#[]⟩,(k:Nat)⟩]|none=>[])
def Prg.code (p:Prg):Cod:=⟨p.trs p.gs.length,p.gs.map (·.name)⟩
theorem flatMap_congr2 {α β : Type} {L:List α} {f g : α->List β} (h:∀a∈L,f a=g a):L.flatMap f=L.flatMap g:=by
 induction L with
 | nil=>rfl
 | cons a r ih=>rw [List.flatMap_cons,List.flatMap_cons,h a (by simp),ih fun b hb=>h b (by simp [hb])]
theorem trF_eq {p:Prg} (h:p.V):∀(F F' j:Nat),j<F->j<F'->trF p F j=trF p F' j:=by
 intro F
 induction F with
 | zero=>intro F' j hj;omega
 | succ F ih=>
  intro F' j hj hj'
  obtain ⟨G,rfl⟩:∃G,F'=G+1:=⟨F' - 1,by omega⟩
  unfold trF
  cases hx:p.ns[j]? with
  | none=>rfl
  | some x=>
   simp only;rw [flatMap_congr2 fun a ha=>ih G a.toNat (by have:=(h.nd j x hx).2 a ha;omega) (by have:=(h.nd j x hx).2 a ha;omega)]
theorem Prg.V.tr_step {p:Prg} (h:p.V) {j:Nat} {x:Nd} (hx:p.ns[j]?=Option.some x):p.tr j=(x.args.flatMap fun a=>p.tr a.toNat)++[insOf p x]:=by
 have e:p.tr j=(x.args.flatMap fun a=>trF p j a.toNat)++[insOf p x]:=by
  show trF p (j+1) j=_
  rw [trF,hx]
 rw [e,flatMap_congr2 fun a ha=>trF_eq h _ _ _ (by have:=(h.nd j x hx).2 a ha;omega) (Nat.lt_succ_self _)]
 rfl
theorem Prg.trs_step {p:Prg} {k:Nat} {a:Asg} (h:p.gs[k]?=some a):p.trs (k+1)=p.trs k++(p.tr a.root.toNat++[⟨4,⟨#[]⟩,(k:Nat)⟩]):=by
 rw [Prg.trs,h]
theorem insOf_pops {p:Prg} (h:p.K) {j:Nat} {x:Nd} (hx:p.ns[j]?=some x):popsI (insOf p x).op (insOf p x).name=x.args.length/\(insOf p x).op≠4/\pushI (insOf p x).op=1:=by
 rcases nodeF_op (h.v.nd j x hx).1 with ⟨o,h2,h3⟩|⟨o,h3⟩|⟨o,h3⟩|⟨o,o',h3⟩|⟨o,h3⟩
 ·unfold insOf;rw [if_pos o,h3];exact ⟨rfl,by show (_:Int)≠4;simp,rfl⟩
 ·unfold insOf
  rw [if_neg (by omega),if_neg (by omega),if_pos o,h3]
  split
  ·exact ⟨rfl,by show (_:Int)≠4;simp,rfl⟩
  ·exact ⟨rfl,by show (_:Int)≠4;simp,rfl⟩
 ·unfold insOf;rw [if_neg (by omega),if_pos o,h3];exact ⟨rfl,by show (_:Int)≠4;simp,rfl⟩
 ·unfold insOf;rw [if_neg (by omega),if_neg (by omega),if_neg (by omega),if_neg (by omega),h3];exact ⟨rfl,by show (_:Int)≠4;simp,rfl⟩
 ·unfold insOf
  rw [if_neg (by omega),if_neg (by omega),if_neg (by omega),if_pos o,<-(h.call j x hx o).2];exact ⟨rfl,by show (7:Int)≠4;simp,rfl⟩
def HasV (p:Prg) (V:Nat->List Int) (k:Nat) (L:List (List Int)):Prop:=∀(i:Nat) (a:Asg),i<k->p.gs[i]?=some a->L.getD i []=V a.root.toNat
theorem rowI_evB {p:Prg} (h:p.K) {n m:Nat} {f:Nat->Int} {tm:Int} {t:Tex} {j:Nat} {x:Nd} (hx:p.ns[j]?=some x) {L:List (List Int)} (hL:HasV p (p.ev n m f tm t) (p.own j) L) :
  rowI n m f tm t (insOf p x).op (insOf p x).name (insOf p x).num (x.args.map fun a=>p.ev n m f tm t a.toNat) L=p.ev n m f tm t j:=by
 rw [h.ev_step hx];unfold evB
 rcases nodeF_op (h.v.nd j x hx).1 with ⟨o,h2,h3⟩|⟨o,h3⟩|⟨o,h3⟩|⟨o,o',h3⟩|⟨o,h3⟩
 ·rw [if_pos o];unfold insOf;rw [if_pos o];rfl
 ·rw [if_neg (by omega),if_pos o]
  unfold insOf;rw [if_neg (by omega),if_neg (by omega),if_pos o]
  cases hv:isVar x.name
  ·obtain ⟨i,hi,hio⟩:=h.name j x hx o hv
   obtain ⟨s',g1,g2,g3,g4⟩:=h.root hi
   have e1:ixOf p x.name=i:=by unfold ixOf;rw [hi];rfl
   have:=hL i _ hio g1
   show L.getD ((ixOf p x.name:Nat):Int).toNat []=p.ev n m f tm t (p.rootOf x.name)
   rw [e1,Int.toNat_natCast,this];simp
  ·rfl
 ·rw [if_neg (by omega),if_neg (by omega),if_neg (by omega)]
  unfold insOf;rw [if_neg (by omega),if_pos o,o]
  rfl
 ·rw [if_neg (by omega),if_neg (by omega),if_neg (by omega)]
  unfold insOf;rw [if_neg (by omega),if_neg (by omega),if_neg (by omega),if_neg (by omega)]
  show List.zipWith (arithI x.op) _ _=_
  rw [if_neg (by omega)]
 ·rw [if_neg (by omega),if_neg (by omega),if_pos o]
  unfold insOf;rw [if_neg (by omega),if_neg (by omega),if_neg (by omega),if_pos o]
  rfl
theorem run_ins {p:Prg} (h:p.K) {n m:Nat} {f:Nat->Int} {tm:Int} {t:Tex} {j:Nat} {x:Nd} (hx:p.ns[j]?=some x) {L:List (List Int)} (hL:HasV p (p.ev n m f tm t) (p.own j) L) (rest:List Ins) (S:List (List Int)) :
  runG n m f tm t (insOf p x::rest) (S++x.args.map fun a=>p.ev n m f tm t a.toNat) L=runG n m f tm t rest (S++[p.ev n m f tm t j]) L:=by
 obtain ⟨h1,h2,h3⟩:=insOf_pops h hx
 have hc:cutI (insOf p x).op (insOf p x).name (S++x.args.map fun a=>p.ev n m f tm t a.toNat)=S.length:=by
  unfold cutI;rw [h1];simp
 rw [runG];unfold nextS nextL;rw [if_neg h2,if_neg h2,hc,List.take_left,List.drop_left,rowI_evB h hx hL]
theorem run_tr {p:Prg} (h:p.K) {n m:Nat} {f:Nat->Int} {tm:Int} {t:Tex}:∀(F j:Nat),j<F->j<p.ns.length->∀(L:List (List Int)),HasV p (p.ev n m f tm t) (p.own j) L->∀(rest:List Ins) (S:List (List Int)),
  runG n m f tm t (p.tr j++rest) S L=runG n m f tm t rest (S++[p.ev n m f tm t j]) L:=by
 intro F
 induction F with
 | zero=>intro j hj;omega
 | succ F ih=>
  intro j hj hjl L hL rest S
  have hx:p.ns[j]?=some p.ns[j]:=by simp [hjl]
  obtain ⟨x,hxe⟩:∃x,p.ns[j]=x:=⟨_,rfl⟩
  rw [hxe] at hx;rw [h.v.tr_step hx,List.append_assoc,<-run_ins h hx hL rest S]
  have key:∀(es:List Int),(∀a∈es,a∈x.args)->∀(rest:List Ins) (S:List (List Int)),runG n m f tm t ((es.flatMap fun a=>p.tr a.toNat)++rest) S L=runG n m f tm t rest (S++es.map fun a=>p.ev n m f tm t a.toNat) L:=by
   intro es
   induction es with
   | nil=>intro _ rest S;simp
   | cons a r ihr=>
    intro hs rest S;have ha:=hs a (by simp);have hr:=h.rank_arg hx ha;have hlt:=(h.v.nd j x hx).2 a ha;rw [List.flatMap_cons,List.append_assoc,ih a.toNat (by omega) hr.2.1 L (by rw [hr.2.2];exact hL),ihr (fun b hb=>hs b (by simp [hb]))];simp
  exact key x.args (fun a ha=>ha) _ S
theorem run_trs {p:Prg} (h:p.K) {n m:Nat} {f:Nat->Int} {tm:Int} {t:Tex}:∀k,k<=p.gs.length->∀rest,∃L,L.length=p.gs.length/\HasV p (p.ev n m f tm t) k L/\runG n m f tm t (p.trs k++rest) [] (List.replicate p.gs.length [])=runG n m f tm t rest [] L:=by
 intro k
 induction k with
 | zero=>intro _ rest;exact ⟨List.replicate p.gs.length [],List.length_replicate,fun i a hi=>by omega,by rw [Prg.trs,List.nil_append]⟩
 | succ k ih=>
  intro hk rest
  have ha:p.gs[k]?=some p.gs[k]:=by simp [show k<p.gs.length by omega]
  obtain ⟨a,hae⟩:∃a,p.gs[k]=a:=⟨_,rfl⟩
  rw [hae] at ha;obtain ⟨L,h1,h2,h3⟩:=ih (by omega) ((p.tr a.root.toNat++[⟨4,⟨#[]⟩,(k:Nat)⟩])++rest);have hr:=(h.v.ag k a ha).2
  have e2:a=⟨a.name,(a.root.toNat:Nat)⟩:=by cases a;simp only [Asg.mk.injEq,true_and] at *;omega
  have ho:p.own a.root.toNat=k:=h.v.own_eq (Own.root (s:=a.name) (by rw [ha];exact congrArg some e2));refine ⟨L.set k (p.ev n m f tm t a.root.toNat),by simp [h1],fun i b hi hb=>?_,?_⟩
  ·rw [List.getD_eq_getElem?_getD,List.getElem?_set]
   by_cases e:k=i
   ·subst e
    rw [ha] at hb;injection hb with hb;subst hb;simp [h1,show k<p.gs.length by omega]
   ·rw [if_neg e,<-List.getD_eq_getElem?_getD]
    exact h2 i b (by omega) hb
  ·rw [Prg.trs_step ha,List.append_assoc,h3,List.append_assoc,run_tr h (a.root.toNat+1) a.root.toNat (by omega) (by omega) L (by rw [ho];exact h2),List.nil_append]
   show runG n m f tm t (_::rest) _ _=_
   rw [runG]
   rfl
theorem Prg.K.out {p:Prg} (h:p.K) (g:Grd):∀(i:Nat) (a:Asg),p.gs[i]?=some a->(p.code.out g).getD i []=evV p g a.root.toNat:=by
 intro i a ha;obtain ⟨L,h1,h2,h3⟩:=run_trs h (n:=g.n.toNat) (m:=g.m) (f:=g.f) (tm:=g.tm) (t:=g.t) p.gs.length (Nat.le_refl _) [];unfold Cod.out Prg.code evV;simp only [List.length_map];rw [List.append_nil] at h3;rw [h3,runG];exact h2 i a (List.getElem?_eq_some_iff.1 ha).1 ha
theorem insOf_wf {p:Prg} (h:p.K) {j:Nat} {x:Nd} (hx:p.ns[j]?=some x):wfI (insOf p x).op (insOf p x).name (insOf p x).num p.gs.length=true/\numB (insOf p x)=true/\((insOf p x).op=3->∃i,i<p.own j/\(insOf p x).num=(i:Nat)):=by
 have e0:((⟨#[]⟩:ByteArray).toList==[])=true:=by rw [Lib.toList_data];rfl
 have hv:=h.v;have hol:=(List.getElem?_eq_some_iff.1 hx).1
 rcases nodeF_op (h.v.nd j x hx).1 with ⟨o,h2,h3⟩|⟨o,h3⟩|⟨o,h3⟩|⟨o,o',h3⟩|⟨o,h3⟩
 ·unfold insOf
  rw [if_pos o];have:=inB_iff.1 h2;refine ⟨by simp [wfI,e0],inB_iff.2 (by simp only;omega),fun e=>by simp at e⟩
 ·unfold insOf
  rw [if_neg (by omega),if_neg (by omega),if_pos o]
  cases hv:isVar x.name
  ·obtain ⟨i,hi,hio⟩:=h.name j x hx o hv
   obtain ⟨g1,⟨a,g2,_⟩,_⟩:=frst_some hi;have hl:=(List.getElem?_eq_some_iff.1 g2).1
   have e1:ixOf p x.name=i:=by unfold ixOf;rw [hi];rfl
   refine ⟨?_,?_,fun _=>⟨i,hio,by simp [e1]⟩⟩
   ·simp only [Bool.false_eq_true,if_false,wfI,e1,e0]
    simp [inB_iff];omega
   ·simp only [Bool.false_eq_true,if_false,e1]
    refine inB_iff.2 ⟨by simp only;omega,?_⟩;simp only;have:=h.v.gs_len;omega
  ·simp only [if_true,wfI,hv]
   exact ⟨by simp,inB_iff.2 (by simp),fun e=>by simp at e⟩
 ·unfold insOf
  rw [if_neg (by omega),if_pos o];exact ⟨by simp [wfI,e0],inB_iff.2 (by simp),fun e=>by simp at e⟩
 ·unfold insOf
  rw [if_neg (by omega),if_neg (by omega),if_neg (by omega),if_neg (by omega)];exact ⟨by simp [wfI,e0,inB_iff];omega,inB_iff.2 (by simp only;omega),fun e=>by simp at e⟩
 ·unfold insOf
  rw [if_neg (by omega),if_neg (by omega),if_neg (by omega),if_pos o];have:=(h.call j x hx o).1;exact ⟨by simp [wfI,this],inB_iff.2 (by simp),fun e=>by simp at e⟩
theorem tr_len {p:Prg} (h:p.K) {j:Nat} {x:Nd} (hx:p.ns[j]?=some x):(p.tr j).length=1+(x.args.map fun a=>(p.tr a.toNat).length).sum:=by
 rw [h.v.tr_step hx,List.length_append,List.length_flatMap];simp;omega
theorem trs_len {p:Prg}:∀k,k<=p.gs.length->(p.trs k).length=((p.gs.take k).map fun a=>(p.tr a.root.toNat).length).sum+k:=by
 intro k
 induction k with
 | zero=>intro _;rfl
 | succ k ih=>
  intro hk
  have ha:p.gs[k]?=some p.gs[k]:=by simp [show k<p.gs.length by omega]
  rw [Prg.trs_step ha,List.length_append,ih (by omega),<-List.take_append_getElem (show k<p.gs.length by omega),List.map_append,List.sum_append];simp;omega
theorem code_len {p:Prg} (h:p.K):p.code.xs.length<=120:=by
 show (p.trs p.gs.length).length<=120
 rw [trs_len _ (Nat.le_refl _),List.take_length,h.v.sum_roots (fun j=>(p.tr j).length) fun j x hx=>tr_len h hx];have:=h.v.len;have:=h.v.gs_len;omega
theorem runD_ins {p:Prg} (h:p.K) {j:Nat} {x:Nd} (hx:p.ns[j]?=some x) {st:Nat->Bool} (hst:∀i,i<p.own j->st i=true) (rest:List Ins) (d m:Int) (hd:0<=d) (hr:∀m',(runD p.gs.length rest (d+1) m' st).isSome=true) :
  (runD p.gs.length (insOf p x::rest) (d+x.args.length) m st).isSome=true:=by
 obtain ⟨h1,h2,h3⟩:=insOf_pops h hx;obtain ⟨w1,w2,w3⟩:=insOf_wf h hx;unfold runD;rw [if_pos ⟨w1,fun e=>by obtain ⟨i,hi,hn⟩:=w3 e;rw [hn];exact hst i hi,by rw [h1];omega⟩,h1,h3]
 have em:markSt (insOf p x).op (insOf p x).num st=st:=by unfold markSt;rw [if_neg h2]
 rw [em,show d+(x.args.length:Int) - x.args.length+1=d+1 by omega];exact hr _
theorem runD_tr {p:Prg} (h:p.K):∀(F j:Nat),j<F->j<p.ns.length->∀(st:Nat->Bool),(∀i,i<p.own j->st i=true)->∀(rest:List Ins) (d m:Int),0<=d->(∀m',(runD p.gs.length rest (d+1) m' st).isSome=true) ->
  (runD p.gs.length (p.tr j++rest) d m st).isSome=true:=by
 intro F
 induction F with
 | zero=>intro j hj;omega
 | succ F ih=>
  intro j hj hjl st hst rest d m hd hr
  have hx:p.ns[j]?=some p.ns[j]:=by simp [hjl]
  obtain ⟨x,hxe⟩:∃x,p.ns[j]=x:=⟨_,rfl⟩
  rw [hxe] at hx;rw [h.v.tr_step hx,List.append_assoc]
  have key:∀(es:List Int),(∀a∈es,a∈x.args)->∀(rest:List Ins) (d m:Int),0<=d->(∀m',(runD p.gs.length rest (d+es.length) m' st).isSome=true)->(runD p.gs.length ((es.flatMap fun a=>p.tr a.toNat)++rest) d m st).isSome=true:=by
   intro es
   induction es with
   | nil=>intro _ rest d m _ hr;simpa using hr m
   | cons a r ihr=>
    intro hs rest d m hd hr;have ha:=hs a (by simp);have hk:=h.rank_arg hx ha;have hlt:=(h.v.nd j x hx).2 a ha;rw [List.flatMap_cons,List.append_assoc];refine ih a.toNat (by omega) hk.2.1 st (by rw [hk.2.2];exact hst) _ d m hd fun m'=>?_;refine ihr (fun b hb=>hs b (by simp [hb])) rest (d+1) m' (by omega) fun m2=>?_;have:=hr m2;rw [List.length_cons] at this;rw [show d+1+(r.length:Int)=d+((r.length+1:Nat):Int) by omega];exact this
  exact key x.args (fun a ha=>ha) _ d m hd fun m'=>runD_ins h hx hst rest d m' hd hr
theorem runD_trs {p:Prg} (h:p.K):∀k,k<=p.gs.length->∀(rest:List Ins) (m:Int),(∀m' st,(∀i,i<k->st i=true)->(runD p.gs.length rest 0 m' st).isSome=true)->(runD p.gs.length (p.trs k++rest) 0 m fun _=>false).isSome=true:=by
 intro k
 induction k with
 | zero=>intro _ rest m hr;rw [Prg.trs,List.nil_append];exact hr m _ fun i hi=>by omega
 | succ k ih=>
  intro hk rest m hr
  have ha:p.gs[k]?=some p.gs[k]:=by simp [show k<p.gs.length by omega]
  obtain ⟨a,hae⟩:∃a,p.gs[k]=a:=⟨_,rfl⟩
  rw [hae] at ha;have hra:=(h.v.ag k a ha).2
  have e2:a=⟨a.name,(a.root.toNat:Nat)⟩:=by cases a;simp only [Asg.mk.injEq,true_and] at *;omega
  have ho:p.own a.root.toNat=k:=h.v.own_eq (Own.root (s:=a.name) (by rw [ha];exact congrArg some e2))
  have e0:((⟨#[]⟩:ByteArray).toList==[])=true:=by rw [Lib.toList_data];rfl
  rw [Prg.trs_step ha,List.append_assoc];refine ih (by omega) _ m fun m' st hst=>?_;rw [List.append_assoc];refine runD_tr h (a.root.toNat+1) a.root.toNat (by omega) (by omega) st (by rw [ho];exact hst) _ 0 m' (by omega) fun m2=>?_
  show (runD p.gs.length (_::rest) _ _ _).isSome=true
  unfold runD;rw [if_pos ⟨by simp [wfI,e0,inB_iff];omega,fun e=>by simp at e,by show (1:Int)<=0+1;omega⟩];refine hr _ _ fun i hi=>?_
  show markSt 4 ((k:Nat):Int) st i=true
  unfold markSt;rw [if_pos rfl];simp only [Int.toNat_natCast]
  by_cases e:i=k
  ·rw [if_pos e]
  ·rw [if_neg e];exact hst i (by omega)
theorem trs_num {p:Prg} (h:p.K):∀x∈p.code.xs,numB x=true:=by
 have t1:∀(F j:Nat),j<F->j<p.ns.length->∀x∈p.tr j,numB x=true:=by
  intro F
  induction F with
  | zero=>intro j hj;omega
  | succ F ih=>
   intro j hj hjl y hy
   have hx:p.ns[j]?=some p.ns[j]:=by simp [hjl]
   rw [h.v.tr_step hx] at hy
   rcases List.mem_append.1 hy with hy|hy
   ·obtain ⟨a,ha,hy⟩:=List.mem_flatMap.1 hy
    have hk:=h.rank_arg hx ha;have hlt:=(h.v.nd j _ hx).2 a ha;exact ih a.toNat (by omega) hk.2.1 y hy
   ·rw [List.mem_singleton.1 hy]
    exact (insOf_wf h hx).2.1
 have t2:∀k,k<=p.gs.length->∀x∈p.trs k,numB x=true:=by
  intro k
  induction k with
  | zero=>intro _ x hx;cases hx
  | succ k ih=>
   intro hk x hx
   have ha:p.gs[k]?=some p.gs[k]:=by simp [show k<p.gs.length by omega]
   have hra:=(h.v.ag k _ ha).2;rw [Prg.trs_step ha] at hx
   rcases List.mem_append.1 hx with hx|hx
   ·exact ih (by omega) x hx
   ·rcases List.mem_append.1 hx with hx|hx
    ·exact t1 _ _ (Nat.lt_succ_self _) (by omega) x hx
    ·rw [List.mem_singleton.1 hx]
     have:=h.v.gs_len;exact inB_iff.2 (by simp only;omega)
 exact t2 _ (Nat.le_refl _)
theorem Prg.K.runB {p:Prg} (h:p.K):p.code.runB=true:=by
 unfold Cod.runB;rw [Bool.and_eq_true];refine ⟨?_,List.all_eq_true.2 (trs_num h)⟩;unfold Cod.depth;rw [if_pos (by have:=code_len h;omega)]
 show (runD (p.gs.map (·.name)).length (p.trs p.gs.length) 0 0 fun _=>false).isSome=true
 rw [List.length_map];have:=runD_trs h p.gs.length (Nat.le_refl _) [] 0 fun m' st _=>rfl
 rwa [List.append_nil] at this
theorem ix_frst {gs:List Asg} {l:List UInt8}:ixL l (gs.map (·.name))=match frst gs gs.length l with|some k=>(k:Int)|none=>-1:=by
 cases h:frst gs gs.length l with
 | none=>
  refine ixL_no fun j z hj hz=>?_;rw [List.getElem?_map] at hz;obtain ⟨a,ha,rfl⟩:=Option.map_eq_some_iff.1 hz;intro e;have h1:=frst_no (t:=gs.length) h;rw [asgB_iff.2 ⟨j,a,(List.getElem?_eq_some_iff.1 ha).1,ha,e⟩] at h1;cases h1
 | some k=>
  obtain ⟨h1,⟨a,h2,h3⟩,h4⟩:=frst_some h;refine ixL_at (y:=a.name) (by simp [h2]) h3 fun j z hj hz=>?_;rw [List.getElem?_map] at hz;obtain ⟨b,hb,rfl⟩:=Option.map_eq_some_iff.1 hz;exact h4 j b hj hb
theorem evV_good {p:Prg} (h:p.K) {g:Grd} (hg:g.okB=true) {r:Nat} (hr:r<p.ns.length):good g.m (evV p g r):=by
 obtain ⟨n,hn,hnm,n1,n8,_,ht,hf⟩:=Grd.partsE hg
 have hV:evV p g=p.ev n g.m g.f g.tm g.t:=by unfold evV;rw [hn];rfl
 rw [hV];exact h.ev_good hnm hf ht (p.rank r+1) r (by omega) hr
theorem getD_mapc {xs:List Int} {q:Nat} (h:q<xs.length):(xs.map col).getD q 0=col (xs.getD q 0):=by
 rw [List.getD_eq_getElem?_getD,List.getD_eq_getElem?_getD,List.getElem?_map,List.getElem?_eq_getElem h]
 rfl
theorem Prg.K.shade {p:Prg} (h:p.K) (hp:p.chkB=true) {g:Grd} (hg:g.okB=true):∃X Y:List Int,p.code.shade g=(X,Y,true)/\X.length=g.m/\Y.length=g.m /\
  ∀i j:Nat,(i:Int)<g.n->(j:Int)<g.n->X.getD ((j:Int)*g.n+i).toNat 0=shC p g i j/\Y.getD ((j:Int)*g.n+i).toNat 0=shA p g i j:=by
 obtain ⟨n,hn,hnm,n1,n8,_,ht,hf⟩:=Grd.partsE hg
 have hm0:0<g.m:=by rw [<-hnm];exact Nat.mul_pos n1 n1
 have hR:(p.code.runB&&g.okB)=true:=by rw [h.runB,hg];rfl
 have hres:p.code.res g=p.code.out g:=by unfold Cod.res;rw [if_pos hR]
 obtain ⟨k,hk⟩:=h.col;obtain ⟨s,r,k1,k2,k3,k4⟩:=h.asg hk
 have hci:colorIx p.code.ls=(k:Int):=by
  unfold colorIx;rw [colS]
  show ixL _ (p.gs.map (·.name))=_
  rw [ix_frst,hk]
 have o1:(p.code.out g).getD k []=evV p g r:=by have:=h.out g k _ k1;simpa using this
 have g1:=evV_good h hg k2
 have ne:∀{xs:List Int},xs.length=g.m->xs≠[]:=fun hl e=>by rw [e] at hl;simp at hl;omega
 have pt:∀i j:Nat,(i:Int)<g.n->(j:Int)<g.n->∃q,((j:Int)*g.n+i).toNat=q/\q<g.m/\evOk p g i j=true:=fun i j hi hj=>by
  refine ⟨_,rfl,?_,?_⟩
  ·rw [hn] at hi hj ⊢
   have:=at_lt hnm (i:=i) (j:=j) (by omega) (by omega);rw [show ((j:Int)*n+i)=((j*n+i:Nat):Int) by simp];exact this
  ·unfold evOk
   rw [hp,hg];simp only [Bool.true_and,Bool.and_eq_true];exact ⟨inB_iff.2 (by omega),inB_iff.2 (by omega)⟩
 have hcol:∀i j:Nat,(i:Int)<g.n->(j:Int)<g.n->((evV p g r).map Go.Proofs.YtfjbiifebcfjfaaGreat.col).getD ((j:Int)*g.n+i).toNat 0=shC p g i j:=fun i j hi hj=>by
  obtain ⟨q,hq,hqm,hok⟩:=pt i j hi hj;unfold shC;rw [if_pos hok,hq,named_some hk k1,getD_mapc (by rw [g1.1];exact hqm)]
  rfl
 cases ha:frst p.gs p.gs.length [97,108,112,104,97] with
 | none=>
  have hai:alphaIx p.code.ls = -1:=by
   unfold alphaIx;rw [alphaS]
   show ixL _ (p.gs.map (·.name))=_
   rw [ix_frst,ha]
  refine ⟨(evV p g r).map Go.Proofs.YtfjbiifebcfjfaaGreat.col,List.replicate g.m 256,?_,by rw [List.length_map,g1.1],by simp,fun i j hi hj=>⟨hcol i j hi hj,?_⟩⟩
  ·unfold Cod.shade
   rw [hci,hai,hres,Int.toNat_natCast,o1,if_pos ⟨hR,by omega,ne g1.1,.inl (by omega)⟩,if_pos (by omega)]
  ·obtain ⟨q,hq,hqm,hok⟩:=pt i j hi hj
   unfold shA;rw [if_pos hok,hq,named_none ha,List.getD_eq_getElem?_getD,List.getElem?_replicate,if_pos hqm]
   rfl
 | some l=>
  obtain ⟨s',r',l1,l2,l3,l4⟩:=h.asg ha
  have hai:alphaIx p.code.ls=(l:Int):=by
   unfold alphaIx;rw [alphaS]
   show ixL _ (p.gs.map (·.name))=_
   rw [ix_frst,ha]
  have o2:(p.code.out g).getD l []=evV p g r':=by have:=h.out g l _ l1;simpa using this
  have g2:=evV_good h hg l2;refine ⟨(evV p g r).map Go.Proofs.YtfjbiifebcfjfaaGreat.col,(evV p g r').map Go.Proofs.YtfjbiifebcfjfaaGreat.col,?_,by rw [List.length_map,g1.1],by rw [List.length_map,g2.1],fun i j hi hj=>⟨hcol i j hi hj,?_⟩⟩
  ·unfold Cod.shade
   rw [hci,hai,hres,Int.toNat_natCast,Int.toNat_natCast,o1,o2,if_pos ⟨hR,by omega,ne g1.1,.inr (ne g2.1)⟩,if_neg (by omega)]
  ·obtain ⟨q,hq,hqm,hok⟩:=pt i j hi hj
   unfold shA;rw [if_pos hok,hq,named_some ha l1,getD_mapc (by rw [g2.1];exact hqm)]
   rfl
def PrgsR (lo hi:Nat) (w:World) (v:Value) (ps:List Prg):Prop:=
 ∃a cap,v = .slice a ps.length cap/\ps.length<=cap/\cap<=maxLen/\∀k p,ps[k]?=some p->∃b off u1 u2,a=some ⟨b,off,none⟩/\lo<=b/\b<hi/\w.cell? ⟨b,off+k*2,none⟩=some u1/\w.cell? ⟨b,off+k*2+1,none⟩=some u2/\p.R lo hi w (.agg #[u1,u2])
theorem PrgsR.same {lo hi:Nat} {w w':World} {v:Value} {ps:List Prg} (h:PrgsR lo hi w v ps) (s:Same lo hi w w'):PrgsR lo hi w' v ps:=by
 obtain ⟨a,cap,h1,h2,h3,h4⟩:=h;refine ⟨a,cap,h1,h2,h3,fun k p hk=>?_⟩;obtain ⟨b,off,u1,u2,e1,e2,e3,e4,e5,e6⟩:=h4 k p hk;exact ⟨b,off,u1,u2,e1,e2,e3,(s.cell e2 e3).trans e4,(s.cell e2 e3).trans e5,e6.same s⟩
theorem PrgsR.ext {lo hi:Nat} {w w':World} {v:Value} {ps:List Prg} (h:PrgsR lo hi w v ps) (hh:hi<=w.heap.size) (e:Ext w w'):PrgsR lo hi w' v ps:=h.same (e.same hh)
structure PrgsAt (lo hi:Nat) (w:World) (a:Option Addr) (cap:Nat) (ps:List Prg):Prop where
 le:ps.length<=cap
 cap:cap<=9223372036854775807
 cell:∀k p,ps[k]?=some p->∃b off u1 u2,a=some ⟨b,off,none⟩/\lo<=b/\b<hi/\w.cell? ⟨b,off+k*2,none⟩=some u1/\w.cell? ⟨b,off+k*2+1,none⟩=some u2/\p.R lo hi w (.agg #[u1,u2])
theorem PrgsR.open {lo hi:Nat} {w:World} {v:Value} {ps:List Prg} (h:PrgsR lo hi w v ps):∃a cap,v = .slice a ps.length cap/\PrgsAt lo hi w a cap ps:=by
 obtain ⟨a,cap,g1,g2,g3,g4⟩:=h;exact ⟨a,cap,g1,g2,by unfold maxLen at g3;omega,g4⟩
theorem PrgsAt.shut {lo hi:Nat} {w:World} {a:Option Addr} {cap:Nat} {ps:List Prg} (h:PrgsAt lo hi w a cap ps):PrgsR lo hi w (.slice a ps.length cap) ps:=
 ⟨a,cap,rfl,h.le,by unfold maxLen;have:=h.cap;omega,h.cell⟩
theorem PrgsAt.at {lo hi:Nat} {w:World} {a:Option Addr} {cap:Nat} {ps:List Prg} (h:PrgsAt lo hi w a cap ps) {k:Nat} (hk:k<ps.length) {wr:World} (hx:Ext w wr) (hh:hi<=w.heap.size) :
  ∃b off a1 c1 a2 c2,a=some ⟨b,off,none⟩/\b<w.heap.size/\b<wr.heap.size/\wr.cell? ⟨b,off+k*2,none⟩=some (.slice a1 ps[k].ns.length c1)/\wr.cell? ⟨b,off+k*2+1,none⟩=some (.slice a2 ps[k].gs.length c2)/\ps[k].R lo hi wr (.agg #[.slice a1 ps[k].ns.length c1,.slice a2 ps[k].gs.length c2]):=by
 obtain ⟨b,off,u1,u2,e,h1,h2,c0,c1,hu⟩:=h.cell k ps[k] (by simp [hk]);have hz:=hx.size;obtain ⟨a1,k1,a2,k2,e1,-,-⟩:=hu.form;simp only [Value.agg.injEq,Array.mk.injEq,List.cons.injEq,and_true] at e1;obtain ⟨rfl,rfl⟩:=e1;exact ⟨b,off,a1,k1,a2,k2,e,by omega,by omega,(hx.cells.1 b _ (by omega)).trans c0,(hx.cells.1 b _ (by omega)).trans c1,hu.ext hh hx⟩
structure Scn where
 c:Cam
 t:Tex
 ps:List Prg
 m:Nat
 F:Nat->Int
 side:Int
def Scn.st (s:Scn) (k:Nat):Nat->Int:=fun j=>s.F (k*26+j)
def Scn.en (s:Scn) (k:Nat):Nat->Int:=fun j=>s.F (k*26+12+j)
def Scn.sh (s:Scn) (k:Nat):Int:=s.F (k*26+24)
def Scn.rt (s:Scn) (k:Nat):Int:=s.F (k*26+25)
def Scn.R (s:Scn) (lo hi:Nat) (w:World) (v:Value):Prop:=
 ∃tu pu su,v = .agg #[s.c.w,s.c.h,s.c.zoom,s.c.near,.bool s.c.deep,s.c.lens,s.c.focus,s.t.log,tu,pu,su,s.side] /\
  s.c.I/\I64 s.t.log/\I64 s.side/\Ints lo hi w tu s.t.px/\PrgsR lo hi w pu s.ps/\Flats 26 lo hi w su s.m s.F
theorem Scn.R.same {s:Scn} {lo hi:Nat} {w w':World} {v:Value} (h:s.R lo hi w v) (e:Same lo hi w w'):s.R lo hi w' v:=by
 obtain ⟨tu,pu,su,h1,h2,h3,h4,h5,h6,h7⟩:=h;exact ⟨tu,pu,su,h1,h2,h3,h4,h5.same e,h6.same e,h7.same e⟩
theorem Scn.R.ext {s:Scn} {lo hi:Nat} {w w':World} {v:Value} (h:s.R lo hi w v) (hh:hi<=w.heap.size) (e:Ext w w'):s.R lo hi w' v:=h.same (e.same hh)
theorem Scn.R.form {s:Scn} {lo hi:Nat} {w:World} {v:Value} (h:s.R lo hi w v) :
  ∃a1 c1 a2 c2 a3 c3,v = .agg #[s.c.w,s.c.h,s.c.zoom,s.c.near,.bool s.c.deep,s.c.lens,s.c.focus,s.t.log,.slice a1 s.t.px.length c1,.slice a2 s.ps.length c2,.slice a3 s.m c3,s.side] /\
   s.c.I/\I64 s.t.log/\I64 s.side/\IntsAt lo hi w a1 c1 s.t.px/\PrgsAt lo hi w a2 c2 s.ps/\FlatsAt 26 lo hi w a3 c3 s.m s.F:=by
 obtain ⟨tu,pu,su,rfl,h2,h3,h4,h5,h6,h7⟩:=h;obtain ⟨a1,c1,rfl,H1⟩:=h5.open;obtain ⟨a2,c2,rfl,H2⟩:=h6.open;obtain ⟨a3,c3,rfl,H3⟩:=h7.open;exact ⟨a1,c1,a2,c2,a3,c3,rfl,h2,h3,h4,H1,H2,H3⟩
def patB (f:Nat->Int):Bool:=okVec (f 0) (f 1) (f 2)&&okVec (f 3) (f 4) (f 5)&&okVec (f 6) (f 7) (f 8)&&okVec (f 9) (f 10) (f 11)
def rateB (r:Int):Bool:=r==1||r==2||r==4||r==8
def sideB (r:Int):Bool:=r==1||r==2||r==4
def srfB (f g:Nat->Int) (sh rt:Int) (n:Nat):Bool:=patB f&&patB g&&decide (0<=sh)&&decide (sh<(n:Int))&&rateB rt
def Scn.srfB (s:Scn) (k:Nat):Bool:=YtfjbiifebcfjfaaGreat.srfB (s.st k) (s.en k) (s.sh k) (s.rt k) s.ps.length
noncomputable def Scn.okB (s:Scn):Bool:=s.c.okB&&s.t.okB&&inB (s.ps.length:Int) 1 3&&decide (s.m<=5)&&sideB s.side&&s.ps.all Prg.chkB&&(List.range s.m).all s.srfB
def Scn.small (s:Scn):Prop:=∀p∈s.ps,p.bd/\p.small
structure Scn.Ok (s:Scn):Prop where
 c:s.c.Ok
 cb:s.c.okB=true
 t:s.t.okB=true
 n:1<=s.ps.length/\s.ps.length<=3
 m:s.m<=5
 side:s.side=1\/s.side=2\/s.side=4
 prg:∀p∈s.ps,p.chkB=true
 srf:∀k,k<s.m->s.srfB k=true
theorem Scn.okB_iff {s:Scn}:s.okB=true↔s.Ok:=by
 unfold Scn.okB sideB;simp only [Bool.and_eq_true,inB_iff,decide_eq_true_eq,List.all_eq_true,List.mem_range,Bool.or_eq_true,beq_iff_eq]
 constructor
 ·rintro ⟨⟨⟨⟨⟨⟨a,b⟩,d,d'⟩,e⟩,f⟩,g⟩,h⟩
  exact ⟨Cam.okB_iff.1 a,a,b,⟨by omega,by omega⟩,e,by omega,g,h⟩
 ·rintro ⟨a,a',b,d,e,f,g,h⟩
  exact ⟨⟨⟨⟨⟨⟨a',b⟩,by omega,by omega⟩,e⟩,by omega⟩,g⟩,h⟩
structure SrfOk (f g:Nat->Int) (sh rt:Int) (n:Nat):Prop where
 f:patB f=true
 g:patB g=true
 sh:0<=sh/\sh<n
 rt:rt=1\/rt=2\/rt=4\/rt=8
theorem srfB_iff {f g:Nat->Int} {sh rt:Int} {n:Nat}:YtfjbiifebcfjfaaGreat.srfB f g sh rt n=true↔SrfOk f g sh rt n:=by
 unfold YtfjbiifebcfjfaaGreat.srfB rateB;simp only [Bool.and_eq_true,decide_eq_true_eq,Bool.or_eq_true,beq_iff_eq]
 constructor
 ·rintro ⟨⟨⟨⟨a,b⟩,c⟩,d⟩,e⟩
  exact ⟨a,b,⟨c,d⟩,by omega⟩
 ·rintro ⟨a,b,⟨c,d⟩,e⟩
  exact ⟨⟨⟨⟨a,b⟩,c⟩,d⟩,by omega⟩
theorem patB_at {f:Nat->Int} (h:patB f=true):∀j,j<12->-1000000<=f j/\f j<=1000000:=by
 unfold patB at h;simp only [Bool.and_eq_true,okVec_iff] at h;obtain ⟨⟨⟨⟨a0,a1,a2⟩,a3,a4,a5⟩,a6,a7,a8⟩,a9,a10,a11⟩:=h;intro j hj
 rcases (show j=0\/j=1\/j=2\/j=3\/j=4\/j=5\/j=6\/j=7\/j=8\/j=9\/j=10\/j=11 by omega) with rfl|rfl|rfl|rfl|rfl|rfl|rfl|rfl|rfl|rfl|rfl|rfl <;> assumption
theorem patB_of {f:Nat->Int} (h:∀j,j<12->-1000000<=f j/\f j<=1000000):patB f=true:=by
 unfold patB;simp only [Bool.and_eq_true,okVec_iff];exact ⟨⟨⟨⟨h 0 (by decide),h 1 (by decide),h 2 (by decide)⟩,h 3 (by decide),h 4 (by decide),h 5 (by decide)⟩,h 6 (by decide),h 7 (by decide),h 8 (by decide)⟩,h 9 (by decide),h 10 (by decide),h 11 (by decide)⟩
def min3 (a b:Int):Int:=if b<a then b else a
def nearP (f:Nat->Int):Int:=min3 (min3 (min3 (cl (f 2)) (cl (f 5))) (cl (f 8))) (cl (f 11))
def nearS (f g:Nat->Int):Int:=min3 (nearP f) (nearP g)
theorem min3_le (a b:Int):min3 a b<=a/\min3 a b<=b:=by unfold min3;split <;> omega
theorem le_min3 {a b m:Int} (ha:m<=a) (hb:m<=b):m<=min3 a b:=by unfold min3;split <;> assumption
theorem cl_cl (x:Int):cl (cl x)=cl x:=cl_fixed (cl_bd x)
theorem midP_bd (f g:Nat->Int) {t:Int} (ht:0<=t/\t<=16) (j:Nat) : -1000000<=midP f g t j/\midP f g t j<=1000000:=
 ⟨lerpC_lo (n:=16) (by decide) ht (cl_bd _).1 (cl_bd _).1,lerpC_hi (n:=16) (by decide) ht (cl_bd _).2 (cl_bd _).2⟩
def gridF (f:Nat->Int) (n:Nat):Nat->Int:=fun q=>
 if q % 5=0 then ((q / 5 % n:Nat):Int)*256 / (n:Int) else if q % 5=1 then ((q / 5 / n:Nat):Int)*256 / (n:Int)
 else if q % 5=2 then (evP f ((q / 5 % n:Nat):Int) ((q / 5 / n:Nat):Int) n).x else if q % 5=3 then (evP f ((q / 5 % n:Nat):Int) ((q / 5 / n:Nat):Int) n).y
 else (evP f ((q / 5 % n:Nat):Int) ((q / 5 / n:Nat):Int) n).z
def gridP (f:Nat->Int) (n:Nat) (t:Tex):Grd:=⟨(n:Int),n*n,gridF f n,0,t⟩
def Scn.prg (s:Scn) (k:Nat):Prg:=s.ps.getD (s.sh k).toNat ⟨[],[]⟩
def Scn.grd (s:Scn) (k:Nat):Grd:=gridP (s.st k) (s.rt k).toNat s.t
def Scn.shade (s:Scn) (k:Nat):List Int×List Int:=let r:=(s.prg k).code.shade (s.grd k);(r.1,r.2.1)
def Scn.hits (s:Scn) (k:Nat) (p:Smp):List Frag:=hitsL s.c (midP (s.st k) (s.en k) p.t) (s.rt k).toNat p (k:Nat) (s.shade k).1 (s.shade k).2
def Scn.near (s:Scn) (k:Nat):Int:=nearS (s.st k) (s.en k)
def hitM (s:Smp) (k:Int) (cols als:List Int) (m:Mc):List Frag:=
 if covB m.a m.b m.d s.at then [⟨depthI m.a m.b m.d s.at,k,m.v*m.n+m.u,cols.getD (m.v*m.n+m.u).toNat 0,als.getD (m.v*m.n+m.u).toNat 0⟩] else []
theorem hitC_hitM (a b d:V3) (s:Smp) (k:Int) (cols als:List Int) (u v n:Nat) :
  hitC a b d s.at k ((v*n+u:Nat):Int) (cols.getD (v*n+u) 0) (als.getD (v*n+u) 0)=hitM s k cols als ⟨a,b,d,(u:Nat),(v:Nat),(n:Nat)⟩:=by
 have e:((v:Nat):Int)*((n:Nat):Int)+((u:Nat):Int)=((v*n+u:Nat):Int):=by rw [Int.natCast_add,Int.natCast_mul]
 unfold hitC hitM;simp only [e,Int.toNat_natCast]
theorem cellH_cellM (c:Cam) (f:Nat->Int) (n:Nat) (s:Smp) (k:Int) (cols als:List Int) (u v:Nat):cellH c f n s k cols als u v=(cellM c f n s u v).flatMap (hitM s k cols als):=by
 unfold cellH cellM
 split
 ·rw [hitC_hitM,hitC_hitM]
  simp only [List.flatMap_cons,List.flatMap_nil,List.append_nil]
 ·rfl
theorem hitsL_mics (c:Cam) (f:Nat->Int) (n:Nat) (s:Smp) (k:Int) (cols als:List Int):hitsL c f n s k cols als=(micsL c f n s).flatMap (hitM s k cols als):=by
 unfold hitsL hitsTo micsL;rw [List.flatMap_assoc];exact flatMap_cg fun q _=>cellH_cellM ..
structure McOk (n:Nat) (m:Mc):Prop where
 a:m.a.scr
 b:m.b.scr
 d:m.d.scr
 z:(-1000000<=m.a.z/\m.a.z<=1000000)/\(-1000000<=m.b.z/\m.b.z<=1000000)/\(-1000000<=m.d.z/\m.d.z<=1000000)
 q:∃u v:Nat,m.u=(u:Nat)/\m.v=(v:Nat)/\m.n=(n:Nat)/\u<n/\v<n
theorem corn_scr (c:Cam) (f:Nat->Int) (n:Nat) (s:Smp) (u v:Nat):(corn c f n s u v).scr:=⟨sc_bd _,sc_bd _⟩
theorem corn_z (c:Cam) (f:Nat->Int) {n:Nat} (s:Smp) {u v:Nat} (hn:1<=n) (hu:u<=n) (hv:v<=n) : -1000000<=(corn c f n s u v).z/\(corn c f n s u v).z<=1000000:=
 ⟨evC_lo (by omega) (by omega) (by omega) (cl_bd _).1 (cl_bd _).1 (cl_bd _).1 (cl_bd _).1,evC_hi (by omega) (by omega) (by omega) (cl_bd _).2 (cl_bd _).2 (cl_bd _).2 (cl_bd _).2⟩
theorem micsL_ok {c:Cam} {f:Nat->Int} {n:Nat} {s:Smp} (hn:1<=n):∀m∈micsL c f n s,McOk n m:=by
 intro m hm;unfold micsL at hm;rw [List.mem_flatMap] at hm;obtain ⟨q,hq,hm⟩:=hm;rw [List.mem_range] at hq;have hu:q % n<n:=Nat.mod_lt _ (by omega);have hv:q / n<n:=Nat.div_lt_of_lt_mul hq;generalize q % n=u at hu hm;generalize q / n=v at hv hm;unfold cellM at hm
 split at hm
 ·simp only [List.mem_cons,List.not_mem_nil,or_false] at hm
  rcases hm with rfl|rfl
  ·exact ⟨corn_scr ..,corn_scr ..,corn_scr ..,⟨corn_z _ _ _ hn (by omega) (by omega),corn_z _ _ _ hn (by omega) (by omega),corn_z _ _ _ hn (by omega) (by omega)⟩,u,v,rfl,rfl,rfl,hu,hv⟩
  ·exact ⟨corn_scr ..,corn_scr ..,corn_scr ..,⟨corn_z _ _ _ hn (by omega) (by omega),corn_z _ _ _ hn (by omega) (by omega),corn_z _ _ _ hn (by omega) (by omega)⟩,u,v,rfl,rfl,rfl,hu,hv⟩
 ·cases hm
theorem micsL_length (c:Cam) (f:Nat->Int) {n:Nat} (s:Smp) (hn:n<=8):(micsL c f n s).length<=128:=by
 have h:∀q,((List.range q).flatMap fun i=>cellM c f n s (i % n) (i / n)).length<=2*q:=by
  intro q
  induction q with
  | zero=>simp
  | succ q ih=>
   rw [List.range_succ,List.flatMap_append,List.length_append,List.flatMap_singleton];have:=cellM_length c f n s (q % n) (q / n);omega
 have h2:=h (n*n);have h3:n*n<=8*8:=Nat.mul_le_mul hn hn;unfold micsL;omega
def hitJ (s:Smp) (k:Int) (cols als:List Int) (ms:List Mc) (j:Nat):List Frag:=(ms.take j).flatMap (hitM s k cols als)
theorem hitJ_succ {s:Smp} {k:Int} {cols als:List Int} {ms:List Mc} {j:Nat} {m:Mc} (h:ms[j]?=some m):hitJ s k cols als ms (j+1)=hitJ s k cols als ms j++hitM s k cols als m:=by
 obtain ⟨hj,rfl⟩:=List.getElem?_eq_some_iff.1 h;unfold hitJ;rw [List.take_succ_eq_append_getElem hj,List.flatMap_append,List.flatMap_singleton]
theorem hitJ_all (s:Smp) (k:Int) (cols als:List Int) (ms:List Mc):hitJ s k cols als ms ms.length=ms.flatMap (hitM s k cols als):=by unfold hitJ;rw [List.take_length]
theorem hitM_length (s:Smp) (k:Int) (cols als:List Int) (m:Mc):(hitM s k cols als m).length<=1:=by unfold hitM;split <;> simp
theorem hitJ_length (s:Smp) (k:Int) (cols als:List Int) (ms:List Mc):∀j,(hitJ s k cols als ms j).length<=j:=by
 intro j
 induction j with
 | zero=>exact Nat.le_refl _
 | succ j ih=>
  cases h:ms[j]? with
  | none=>
   have hl:=List.getElem?_eq_none_iff.1 h;unfold hitJ at ih ⊢;rw [List.take_of_length_le (by omega)] at ih ⊢;omega
  | some m=>
   rw [hitJ_succ h,List.length_append];have:=hitM_length s k cols als m;omega
theorem Ext.setRow {w w1:World} (h:Ext w w1) {g:Nat} (hg:w.heap.size<=g) (cs:Array Value):Ext w (w1.setRow g cs):=
 Below.trans h ⟨rfl,rfl,rfl,by simp,fun k hk=>setRow_other _ _ _ _ (by omega)⟩
theorem Blk.row {w:World} {g:Nat} {t:TypeId} {cs:List Value} (h:Blk w g t cs) (ds:List Value):Blk (w.setRow g ds.toArray) g t ds:=setRow_heap _ _ _ _ _ _ h
theorem Blk.otherRow {w:World} {g g':Nat} {t:TypeId} {cs:List Value} (h:Blk w g t cs) (ne:g≠g') (ds:Array Value):Blk (w.setRow g' ds) g t cs:=h.of (setRow_other _ _ _ _ ne)
theorem wpQuiet_load_mid {P:Program} {ops:Array Oper} {C:World->Prop} {Q:Act->Prop} {a:Act} {op:Oper} {rest:List Oper} (hw:Region.wanted op (yielded ops a.tmps)=true) (ty:TypeId) (x:Operand) (ho:op.op = .load ty x)
  (b o:Nat) (hx:a.eval x = .pointer (some ⟨b,o,none⟩)) (cs:List Value) (d:TypeDesc) (hC:∀w,C w->w.rangeAt b o cs) (hu:P.underlying ty=some d) (hd:d.isRow=true) (hi:(P.info? ty).map (·.size)=some cs.length)
  (h:wpQuiet P ops C Q rest (a.put op.dst (.agg cs.toArray))):wpQuiet P ops C Q (op::rest) a:=by
 refine wpQuiet_step fun K hK=>?_;rw [if_pos hw];refine ⟨.agg cs.toArray,fun w hw=>?_,hK _ h⟩;unfold Oper.quietAt execOp;simp only [ho,hx,Sem.run_bind,run_loadAt_mid w b o ty cs d (hC w hw) hu hd hi,Result.andThen_ok];exact ⟨rfl,rfl⟩
def CHt (N:Nat):Addr->Prop:=fun a=>a.block<N
@[go_sem] theorem CHt_of {N k o:Nat} (h:k<N):CHt N ⟨k,o,none⟩:=h
theorem OwnG.rowE {α : Type} {cs : α->List Value} {lo:Nat} {e:TypeId} {sz:Nat} {w:World} {v:Value} {xs:List α} (h:OwnG cs lo e sz w v xs):∀k,v.ownBlock=some k->lo<=k/\∃c,w.heap[k]?=some (.cells c e (0,0)):=by
 intro k hk
 rcases h.2 with ⟨rfl,h4⟩|⟨g,cap,cur,rfl,hb,hg,_⟩
 ·simp [Value.ownBlock] at hk
 ·simp only [Value.ownBlock,Option.some.injEq] at hk
  subst hk;exact ⟨hb,_,hg⟩
theorem OwnG.grownE {α : Type} {cs : α->List Value} {lo sz:Nat} {e e':TypeId} {w w':World} {v:Value} {xs:List α} {row:Option Nat} (h:OwnG cs lo e sz w v xs) (hg:w.grownBy w' row) (he:e≠e') (hr:∀k,row=some k->∃c,w.heap[k]?=some (.cells c e' (0,0))):OwnG cs lo e sz w' v xs:=
 h.of fun b c _ hb=>(hg.block b (Array.getElem?_eq_some_iff.1 hb).1 fun e1=>by
  obtain ⟨c',hc'⟩:=hr b e1.symm;rw [hb] at hc';simp only [Option.some.injEq,Obj.cells.injEq] at hc'
  exact he hc'.2.1).trans hb
theorem info_FragT:(Tryz.prog.info? 47).map (fun i=>(i.zero,i.size,i.bytes))=some (some (.agg #[(),(),(),(),()]),5,40):=by kernel_rfl
theorem wpList_append_fr (w:World) {ops:Array Oper} {rest:List Oper} {o:Oper} {a:Act} {Q:Exit->Act->World->Prop} (hg:o.guard=none) (s x:Operand)
  (hop:o.op=Op.call { callee:=Callee.builtin Builtin.append,args:=#[s,x],argTypes:=#[44,44] }) (lo:Nat) (v:Value) (xs:List Frag) (hs:a.eval s=v) (hown:OwnG Frag.cs lo 47 5 w v xs)
  (y:Frag) (b:Nat) (hx:a.eval x = .slice (some ⟨b,0,none⟩) 1 1) (hcell:∀j,j<5->w.cell? ⟨b,j,none⟩=y.cs[j]?) (hlen:xs.length<1000000) (hlo:lo<=w.heap.size)
  (hK:∀v' w',OwnG Frag.cs lo 47 5 w' v' (xs++[y])->w.grownBy w' v.ownBlock->wpList Tryz.prog ops Q rest (a.put o.dst v') w'):wpList Tryz.prog ops Q (o::rest) a w:=by
 refine wpList_append_elt Frag.cs 47 5 40 _ w hg s x 44 hop Tryz.underlying44 info_FragT rfl (by decide) (by decide) (fun _=>rfl) lo v xs hs hown y b hx hcell ?_ hlen hlo hK;intro u hu;simp only [Frag.cs,List.mem_cons,List.not_mem_nil,or_false] at hu
 rcases hu with rfl|rfl|rfl|rfl|rfl <;> rfl
theorem info_srf:(Tryz.prog.info? 42).map (fun i=>i.size)=some 26:=by kernel_rfl
theorem iHits_any (s:Scn) (lo hi:Nat) (v:Value) (k:Nat) (p:Smp) (n:Nat) (cols als:List Int) (cu au:Value) (w:World) (hv:s.R lo hi w v) (hh:hi<=w.heap.size) (hk:k<s.m) (hr:s.rt k=(n:Nat)) (hn:1<=n/\n<=8) (hp:p.okB s.c=true)
  (hc:Ints 0 w.heap.size w cu cols) (ha:Ints 0 w.heap.size w au als) (hlc:cols.length=n*n) (hla:als.length=n*n) :
  Calls Tryz.prog 40 #[v,(k:Nat),.agg #[p.x,p.y,p.t,p.lx,p.ly],.agg #[cu,au]] w fun e w'=>∃r,e = .returned r/\OwnG Frag.cs w.heap.size 47 5 w' r (hitsL s.c (midP (s.st k) (s.en k) p.t) n p (k:Nat) cols als)/\Ext w w':=by
 obtain ⟨a1,c1,a2,c2,a3,c3,rfl,-,-,-,-,-,hF⟩:=hv.form;obtain ⟨a4,c4,rfl,hC⟩:=hc.open;obtain ⟨a5,c5,rfl,hA⟩:=ha.open;have hcap:=hF.cap;have hle:=hF.le;obtain ⟨b,off,rfl,hb1,hb2,hcell⟩:=hF.at hk (by decide)
 obtain ⟨f,hf⟩:∃f,s.st k=f:=⟨_,rfl⟩
 obtain ⟨g,hg⟩:∃f,s.en k=f:=⟨_,rfl⟩
 obtain ⟨sh,hsh⟩:∃f,s.sh k=f:=⟨_,rfl⟩
 have bw:b<w.heap.size:=by omega
 have xw:Ext w (((w.alloc (.cells #[s.c.w,s.c.h,s.c.zoom,s.c.near,.bool s.c.deep,s.c.lens,s.c.focus,s.t.log,.slice a1 s.t.px.length c1,.slice a2 s.ps.length c2,.slice (some ⟨b,off,none⟩) s.m c3,s.side] 31)).alloc (.cells #[p.x,p.y,p.t,p.lx,p.ly] 34)).alloc (.cells #[.slice a4 cols.length c4,.slice a5 als.length c5] 92)):=X_
 have hcs:(((w.alloc (.cells #[s.c.w,s.c.h,s.c.zoom,s.c.near,.bool s.c.deep,s.c.lens,s.c.focus,s.t.log,.slice a1 s.t.px.length c1,.slice a2 s.ps.length c2,.slice (some ⟨b,off,none⟩) s.m c3,s.side] 31)).alloc (.cells #[p.x,p.y,p.t,p.lx,p.ly] 34)).alloc (.cells #[.slice a4 cols.length c4,.slice a5 als.length c5] 92)).rangeAt b (off+k*26) ((List.range 26).map fun j=>.int .i64 (s.F (k*26+j))):=by
  intro j v hj;obtain ⟨h1,h2⟩:=List.getElem?_eq_some_iff.1 hj;simp only [List.length_map,List.length_range] at h1;simp only [List.getElem_map,List.getElem_range] at h2;subst h2;exact (xw.cells.1 b _ bw).trans (hcell j h1)
 change (((w.alloc (.cells #[s.c.w,s.c.h,s.c.zoom,s.c.near,.bool s.c.deep,s.c.lens,s.c.focus,s.t.log,.slice a1 s.t.px.length c1,.slice a2 s.ps.length c2,.slice (some ⟨b,off,none⟩) s.m c3,s.side] 31)).alloc (.cells #[p.x,p.y,p.t,p.lx,p.ly] 34)).alloc (.cells #[.slice a4 cols.length c4,.slice a5 als.length c5] 92)).rangeAt b (off+k*26) [(s.st k 0),(s.st k 1),(s.st k 2),(s.st k 3),(s.st k 4),(s.st k 5),(s.st k 6),(s.st k 7),(s.st k 8),(s.st k 9),(s.st k 10),(s.st k 11),(s.en k 0),(s.en k 1),(s.en k 2),(s.en k 3),(s.en k 4),(s.en k 5),(s.en k 6),(s.en k 7),(s.en k 8),(s.en k 9),(s.en k 10),(s.en k 11),(s.sh k),(s.rt k)] at hcs;simp only [hf,hg,hsh,hr] at hcs;have q0:=Blk.new w 31 [s.c.w,s.c.h,s.c.zoom,s.c.near,.bool s.c.deep,s.c.lens,s.c.focus,s.t.log,.slice a1 s.t.px.length c1,.slice a2 s.ps.length c2,.slice (some ⟨b,off,none⟩) s.m c3,s.side];have q1:=Blk.new (w.alloc (.cells #[s.c.w,s.c.h,s.c.zoom,s.c.near,.bool s.c.deep,s.c.lens,s.c.focus,s.t.log,.slice a1 s.t.px.length c1,.slice a2 s.ps.length c2,.slice (some ⟨b,off,none⟩) s.m c3,s.side] 31)) 34 [p.x,p.y,p.t,p.lx,p.ly];have q2:=Blk.new ((w.alloc (.cells #[s.c.w,s.c.h,s.c.zoom,s.c.near,.bool s.c.deep,s.c.lens,s.c.focus,s.t.log,.slice a1 s.t.px.length c1,.slice a2 s.ps.length c2,.slice (some ⟨b,off,none⟩) s.m c3,s.side] 31)).alloc (.cells #[p.x,p.y,p.t,p.lx,p.ly] 34)) 92 [.slice a4 cols.length c4,.slice a5 als.length c5];simp only [World.size_alloc] at q1 q2;have r0:=q0.ext (show Ext (w.alloc (.cells #[s.c.w,s.c.h,s.c.zoom,s.c.near,.bool s.c.deep,s.c.lens,s.c.focus,s.t.log,.slice a1 s.t.px.length c1,.slice a2 s.ps.length c2,.slice (some ⟨b,off,none⟩) s.m c3,s.side] 31)) (((w.alloc (.cells #[s.c.w,s.c.h,s.c.zoom,s.c.near,.bool s.c.deep,s.c.lens,s.c.focus,s.t.log,.slice a1 s.t.px.length c1,.slice a2 s.ps.length c2,.slice (some ⟨b,off,none⟩) s.m c3,s.side] 31)).alloc (.cells #[p.x,p.y,p.t,p.lx,p.ly] 34)).alloc (.cells #[.slice a4 cols.length c4,.slice a5 als.length c5] 92)) from X_);have r1:=q1.ext (show Ext ((w.alloc (.cells #[s.c.w,s.c.h,s.c.zoom,s.c.near,.bool s.c.deep,s.c.lens,s.c.focus,s.t.log,.slice a1 s.t.px.length c1,.slice a2 s.ps.length c2,.slice (some ⟨b,off,none⟩) s.m c3,s.side] 31)).alloc (.cells #[p.x,p.y,p.t,p.lx,p.ly] 34)) (((w.alloc (.cells #[s.c.w,s.c.h,s.c.zoom,s.c.near,.bool s.c.deep,s.c.lens,s.c.focus,s.t.log,.slice a1 s.t.px.length c1,.slice a2 s.ps.length c2,.slice (some ⟨b,off,none⟩) s.m c3,s.side] 31)).alloc (.cells #[p.x,p.y,p.t,p.lx,p.ly] 34)).alloc (.cells #[.slice a4 cols.length c4,.slice a5 als.length c5] 92)) from X_);have r2:=q2.ext (show Ext (((w.alloc (.cells #[s.c.w,s.c.h,s.c.zoom,s.c.near,.bool s.c.deep,s.c.lens,s.c.focus,s.t.log,.slice a1 s.t.px.length c1,.slice a2 s.ps.length c2,.slice (some ⟨b,off,none⟩) s.m c3,s.side] 31)).alloc (.cells #[p.x,p.y,p.t,p.lx,p.ly] 34)).alloc (.cells #[.slice a4 cols.length c4,.slice a5 als.length c5] 92)) (((w.alloc (.cells #[s.c.w,s.c.h,s.c.zoom,s.c.near,.bool s.c.deep,s.c.lens,s.c.focus,s.t.log,.slice a1 s.t.px.length c1,.slice a2 s.ps.length c2,.slice (some ⟨b,off,none⟩) s.m c3,s.side] 31)).alloc (.cells #[p.x,p.y,p.t,p.lx,p.ly] 34)).alloc (.cells #[.slice a4 cols.length c4,.slice a5 als.length c5] 92)) from X_)
 have z3:(((w.alloc (.cells #[s.c.w,s.c.h,s.c.zoom,s.c.near,.bool s.c.deep,s.c.lens,s.c.focus,s.t.log,.slice a1 s.t.px.length c1,.slice a2 s.ps.length c2,.slice (some ⟨b,off,none⟩) s.m c3,s.side] 31)).alloc (.cells #[p.x,p.y,p.t,p.lx,p.ly] 34)).alloc (.cells #[.slice a4 cols.length c4,.slice a5 als.length c5] 92)).heap.size=w.heap.size+3:=by simp
 have HC:=hid hC;have HA:=hid hA;have HCC:=hid hc;have HAA:=hid ha;have HP:=hid hp
 have ht:0<=p.t/\p.t<=16:=by
  unfold Smp.okB at hp;simp only [Bool.and_eq_true,inB_iff] at hp;omega
 have HT:=hid ht;have HLC:=hid hlc;have HLA:=hid hla;clear hlc hla q0 q1 q2 hC hA hc ha hp ht hcell hF hv hsh hr;rw [hf,hg,hitsL_mics];have hok:=micsL_ok (c:=s.c) (f:=midP f g p.t) (n:=n) (s:=p) hn.1;have hml:=micsL_length s.c (midP f g p.t) p hn.2
 obtain ⟨M,hMM⟩:∃M,micsL s.c (midP f g p.t) n p=M:=⟨_,rfl⟩
 rw [hMM] at hok hml ⊢;have HOK:=hid hok;have HML:=hid hml;have HMM:=hid hMM;clear hf hg hok hml hMM;go_enter Tryz.func40,Tryz.ntmps40;go_upto_region 1 with fail
 obtain ⟨W0,hW0⟩:∃W0,(((w.alloc (.cells #[s.c.w,s.c.h,s.c.zoom,s.c.near,.bool s.c.deep,s.c.lens,s.c.focus,s.t.log,.slice a1 s.t.px.length c1,.slice a2 s.ps.length c2,.slice (some ⟨b,off,none⟩) s.m c3,s.side] 31)).alloc (.cells #[p.x,p.y,p.t,p.lx,p.ly] 34)).alloc (.cells #[.slice a4 cols.length c4,.slice a5 als.length c5] 92))=W0:=⟨_,rfl⟩
 rw [hW0] at hcs r0 r1 r2 z3 xw
 try simp only [World.size_alloc] at hW0
 rw [hW0];clear hW0
 have bl:b<W0.heap.size:=by omega
 have d0:=r0.cell 10 rfl;have l0:=r0.lt;have R0:=hid r0;have R1:=hid r1;have R2:=hid r2;have XW:=hid xw;have Z3:=hid z3;clear r0 r1 r2 xw z3
 go_cut [9,10] from 16 to 21 (fun r q wx=>∃A,q = .pointer (some ⟨A,0,none⟩)/\Ext W0 wx/\W0.heap.size<=A/\Blk wx A 42 [(f 0),(f 1),(f 2),(f 3),(f 4),(f 5),(f 6),(f 7),(f 8),(f 9),(f 10),(f 11),(g 0),(g 1),(g 2),(g 3),(g 4),(g 5),(g 6),(g 7),(g 8),(g 9),(g 10),(g 11),sh,(n:Nat)]/\OwnG Frag.cs W0.heap.size 47 5 wx r [])
 case first=>
  refine wp_region_Z 8 W0.heap.size (by kernel_rfl) ?_;refine wpZ_stage (fuel:=3) [1,2,3,4,5] [0,6] (by kernel_rfl) (fun b _ hb=>rfl) ?_
  try simp only [Act.put,List.setIfInBounds_toArray,List.set_cons_succ,List.set_cons_zero]
  simp only [List.filterMap_cons,List.filterMap_nil,List.getElem?_toArray,List.getElem?_cons_zero,List.getElem?_cons_succ]
  show wpQuiet _ _ _ _ [_,_,_,_,_] _
  go_big_quiet_step (fail)
  go_big_quiet_step (fail)
  go_big_quiet_step (fail)
  go_big_quiet_step (fail)
  refine wpQuiet_load_mid rfl _ _ rfl b (off+k*26) rfl [(f 0),(f 1),(f 2),(f 3),(f 4),(f 5),(f 6),(f 7),(f 8),(f 9),(f 10),(f 11),(g 0),(g 1),(g 2),(g 3),(g 4),(g 5),(g 6),(g 7),(g 8),(g 9),(g 10),(g 11),sh,(n:Nat)] _ (by rintro _ ⟨d,rfl⟩ j v hj;rw [cell?_lowg _ _ _ _ bl];exact hcs j v hj) Tryz.underlying42 rfl info_srf ?_
  try simp only [Act.put,List.setIfInBounds_toArray,List.set_cons_succ,List.set_cons_zero]
  refine wpQuiet_nil ?_;intro e he;simp only [List.mem_cons,List.not_mem_nil,or_false] at he
  rcases he with rfl|rfl
  ·(unfold wpComes;simp only [List.getElem?_toArray,List.getElem?_cons_succ,List.getElem?_cons_zero,Option.some.injEq];refine ⟨_,rfl,fun K hK=>?_⟩)
   go_wp2;have y1:Ext W0 (W0.drew.alloc (.cells #[] 47)):=X_;refine hK _ _ (.inr (fun b _ hb=>y1.block (by omega))) ?_;clear hK K;refine wpZ_stage (fuel:=2) [] [6] (by kernel_rfl) (fun b _ hb=>y1.block (by omega)) ?_;refine wpQuiet_nil ?_;intro e he;simp only [List.mem_cons,List.not_mem_nil,or_false] at he;subst he
   (unfold wpComes;simp only [List.getElem?_toArray,List.getElem?_cons_succ,List.getElem?_cons_zero,Option.some.injEq];refine ⟨_,rfl,fun K hK=>?_⟩)
   go_wp2;have y2:Ext W0 ((W0.drew.alloc (.cells #[] 47)).alloc (.cells #[(),(),(),(),(),(),(),(),(),(),(),(),(),(),(),(),(),(),(),(),(),(),(),(),(),()] 42)):=X_
   have bF:Blk ((W0.drew.alloc (.cells #[] 47)).alloc (.cells #[(),(),(),(),(),(),(),(),(),(),(),(),(),(),(),(),(),(),(),(),(),(),(),(),(),()] 42)) (W0.heap.size) 47 []:=by exact (Blk.new W0.drew 47 []).alloc (.cells #[(),(),(),(),(),(),(),(),(),(),(),(),(),(),(),(),(),(),(),(),(),(),(),(),(),()] 42)
   have bS:Blk ((W0.drew.alloc (.cells #[] 47)).alloc (.cells #[(),(),(),(),(),(),(),(),(),(),(),(),(),(),(),(),(),(),(),(),(),(),(),(),(),()] 42)) (W0.heap.size+1) 42 [(),(),(),(),(),(),(),(),(),(),(),(),(),(),(),(),(),(),(),(),(),(),(),(),(),()]:=by have q:=Blk.new (W0.drew.alloc (.cells #[] 47)) 42 [(),(),(),(),(),(),(),(),(),(),(),(),(),(),(),(),(),(),(),(),(),(),(),(),(),()];rw [World.size_alloc] at q;exact q
   refine hK _ _ (.inr (fun b _ hb=>y2.block (by omega))) ?_;clear hK K;refine wpZ_stage (fuel:=0) [7] [8] (by kernel_rfl) (fun b _ hb=>y2.block (by omega)) ?_
   try simp only [Act.put,List.setIfInBounds_toArray,List.set_cons_succ,List.set_cons_zero]
   simp only [List.filterMap_cons,List.filterMap_nil,List.getElem?_toArray,List.getElem?_cons_zero,List.getElem?_cons_succ]
   show wpQuiet _ _ _ _ [_] _
   repeat (go_big_quiet_step (fail))
   refine wpQuiet_nil ?_;intro e he;simp only [List.mem_cons,List.not_mem_nil,or_false] at he;subst he
   (unfold wpComes;simp only [List.getElem?_toArray,List.getElem?_cons_succ,List.getElem?_cons_zero,Option.some.injEq];refine ⟨_,rfl,fun K hK=>?_⟩)
   try simp only [World.size_alloc,World.drew_heap]
   refine wpList_store_rowTo rfl _ _ _ rfl rfl (W0.heap.size+1) #[(f 0),(f 1),(f 2),(f 3),(f 4),(f 5),(f 6),(f 7),(f 8),(f 9),(f 10),(f 11),(g 0),(g 1),(g 2),(g 3),(g 4),(g 5),(g 6),(g 7),(g 8),(g 9),(g 10),(g 11),sh,(n:Nat)] rfl rfl 42 _ bS info_srf rfl (by rw [List.all_toArray];rfl) ?_;go_wp2;refine hK _ _ (.inl (by trivial)) ?_;clear hK K;refine wpZ_end (by kernel_rfl) ?_;go_wp2_with fail
   go_meet
   exact ⟨W0.heap.size+1,rfl,y2.setRow (by omega) _,by omega,bS.row [(f 0),(f 1),(f 2),(f 3),(f 4),(f 5),(f 6),(f 7),(f 8),(f 9),(f 10),(f 11),(g 0),(g 1),(g 2),(g 3),(g 4),(g 5),(g 6),(g 7),(g 8),(g 9),(g 10),(g 11),sh,(n:Nat)],OwnG.fresh0 (by omega) (bF.otherRow (by omega) _)⟩
  ·(unfold wpComes;simp only [List.getElem?_toArray,List.getElem?_cons_succ,List.getElem?_cons_zero,Option.some.injEq];refine ⟨_,rfl,fun K hK=>?_⟩)
   go_wp2;have y1:Ext W0 (W0.drew.alloc (.cells #[(),(),(),(),(),(),(),(),(),(),(),(),(),(),(),(),(),(),(),(),(),(),(),(),(),()] 42)):=X_;refine hK _ _ (.inr (fun b _ hb=>y1.block (by omega))) ?_;clear hK K;refine wpZ_stage (fuel:=2) [] [0] (by kernel_rfl) (fun b _ hb=>y1.block (by omega)) ?_;refine wpQuiet_nil ?_;intro e he;simp only [List.mem_cons,List.not_mem_nil,or_false] at he;subst he
   (unfold wpComes;simp only [List.getElem?_toArray,List.getElem?_cons_succ,List.getElem?_cons_zero,Option.some.injEq];refine ⟨_,rfl,fun K hK=>?_⟩)
   go_wp2;have y2:Ext W0 ((W0.drew.alloc (.cells #[(),(),(),(),(),(),(),(),(),(),(),(),(),(),(),(),(),(),(),(),(),(),(),(),(),()] 42)).alloc (.cells #[] 47)):=X_
   have bF:Blk ((W0.drew.alloc (.cells #[(),(),(),(),(),(),(),(),(),(),(),(),(),(),(),(),(),(),(),(),(),(),(),(),(),()] 42)).alloc (.cells #[] 47)) (W0.heap.size+1) 47 []:=by have q:=Blk.new (W0.drew.alloc (.cells #[(),(),(),(),(),(),(),(),(),(),(),(),(),(),(),(),(),(),(),(),(),(),(),(),(),()] 42)) 47 [];rw [World.size_alloc] at q;exact q
   have bS:Blk ((W0.drew.alloc (.cells #[(),(),(),(),(),(),(),(),(),(),(),(),(),(),(),(),(),(),(),(),(),(),(),(),(),()] 42)).alloc (.cells #[] 47)) (W0.heap.size) 42 [(),(),(),(),(),(),(),(),(),(),(),(),(),(),(),(),(),(),(),(),(),(),(),(),(),()]:=by exact (Blk.new W0.drew 42 [(),(),(),(),(),(),(),(),(),(),(),(),(),(),(),(),(),(),(),(),(),(),(),(),(),()]).alloc (.cells #[] 47)
   refine hK _ _ (.inr (fun b _ hb=>y2.block (by omega))) ?_;clear hK K;refine wpZ_stage (fuel:=0) [7] [8] (by kernel_rfl) (fun b _ hb=>y2.block (by omega)) ?_
   try simp only [Act.put,List.setIfInBounds_toArray,List.set_cons_succ,List.set_cons_zero]
   simp only [List.filterMap_cons,List.filterMap_nil,List.getElem?_toArray,List.getElem?_cons_zero,List.getElem?_cons_succ]
   show wpQuiet _ _ _ _ [_] _
   repeat (go_big_quiet_step (fail))
   refine wpQuiet_nil ?_;intro e he;simp only [List.mem_cons,List.not_mem_nil,or_false] at he;subst he
   (unfold wpComes;simp only [List.getElem?_toArray,List.getElem?_cons_succ,List.getElem?_cons_zero,Option.some.injEq];refine ⟨_,rfl,fun K hK=>?_⟩)
   try simp only [World.size_alloc,World.drew_heap]
   refine wpList_store_rowTo rfl _ _ _ rfl rfl (W0.heap.size) #[(f 0),(f 1),(f 2),(f 3),(f 4),(f 5),(f 6),(f 7),(f 8),(f 9),(f 10),(f 11),(g 0),(g 1),(g 2),(g 3),(g 4),(g 5),(g 6),(g 7),(g 8),(g 9),(g 10),(g 11),sh,(n:Nat)] rfl rfl 42 _ bS info_srf rfl (by rw [List.all_toArray];rfl) ?_;go_wp2;refine hK _ _ (.inl (by trivial)) ?_;clear hK K;refine wpZ_end (by kernel_rfl) ?_;go_wp2_with fail
   go_meet
   exact ⟨W0.heap.size,rfl,y2.setRow (by omega) _,by omega,bS.row [(f 0),(f 1),(f 2),(f 3),(f 4),(f 5),(f 6),(f 7),(f 8),(f 9),(f 10),(f 11),(g 0),(g 1),(g 2),(g 3),(g 4),(g 5),(g 6),(g 7),(g 8),(g 9),(g 10),(g 11),sh,(n:Nat)],OwnG.fresh0 (by omega) (bF.otherRow (by omega) _)⟩
 case rest=>
  obtain ⟨A,rfl,xa,hA0,bS,hO⟩:=hcut;have HS:=hid bS;have HO:=hid hO;have HX:=hid xa;have lA:=bS.lt;have la:=xa.size;have c25:=bS.cell 25 rfl
  have hca:wc.rangeAt A 0 [(f 0),(f 1),(f 2),(f 3),(f 4),(f 5),(f 6),(f 7),(f 8),(f 9),(f 10),(f 11),(g 0),(g 1),(g 2),(g 3),(g 4),(g 5),(g 6),(g 7),(g 8),(g 9),(g 10),(g 11),sh,(n:Nat)]:=fun j v hj=>by rw [Nat.zero_add];exact bS.cell j hj
  have e0:=R0.out.ext xa;have e1:=R1.out.ext xa;obtain ⟨m0,m1,m2,m3,m4,m5,m6⟩:=e0.q7;have s2:=e1.cell 2 rfl;have s3:=e1.cell 3 rfl;have s4:=e1.cell 4 rfl;have l1:=e0.lt;have l2:=e1.lt;clear e0 e1 bS hO xa d0 l0 hcs R0;go_upto_region 2 with fail;refine wp_region_stages [([0,1,2,3,4,6,7,8,9,10,11,14],5),([],12),([],13)] 99 wc.heap.size (by kernel_rfl) (by kernel_rfl) ?_;refine wpStages_cons ?_;simp only [List.filterMap_cons,List.filterMap_nil,List.getElem?_toArray,List.getElem?_cons_zero,List.getElem?_cons_succ]
  show wpQuiet _ _ _ _ [_,_,_,_,_,_,_,_,_,_,_,_] _
  go_big_quiet_step (fail)
  go_big_quiet_step (fail)
  refine wpQuiet_load_mid rfl _ _ rfl A 0 rfl [(f 0),(f 1),(f 2),(f 3),(f 4),(f 5),(f 6),(f 7),(f 8),(f 9),(f 10),(f 11),(g 0),(g 1),(g 2),(g 3),(g 4),(g 5),(g 6),(g 7),(g 8),(g 9),(g 10),(g 11),sh,(n:Nat)] _ (by rintro _ ⟨d,rfl⟩ j v hj;rw [cell?_lowg _ _ _ _ lA];exact hca j v hj) Tryz.underlying42 rfl info_srf ?_
  try simp only [Act.put,List.setIfInBounds_toArray,List.set_cons_succ,List.set_cons_zero]
  repeat (go_big_quiet_step (fail))
  refine wpQuiet_nil ⟨_,rfl,fun K hK=>?_⟩;go_wp2_with fail;refine (iSurfaceAt_val f g sh (n:Nat) p.t HT.out _).mono ?_;rintro e w5 ⟨rfl,x5⟩;have y5:Ext wc w5:=Ext.trans (Ext.drew (Ext.refl _)) x5;go_wp2_with fail;refine hK _ _ (.inr (y5.same (Nat.le_refl _))) ?_;clear hK K;refine st_ fun K hK=>?_;go_wp2_with fail;refine (iDicePatch_any s.c (midP f g p.t) n p hn _).mono ?_;rintro e w6 ⟨r',rfl,hM,x6⟩;rw [HMM.out] at hM;have y6:=y5.trans x6;obtain ⟨ta,tc,rfl,tlen⟩:=OwnG.form hM;go_wp2_with fail;refine hK _ _ (.inr (y6.same (Nat.le_refl _))) ?_;clear hK K;refine st_ fun K hK=>?_;go_wp2_with fail;refine hK _ _ (.inr (y6.same (Nat.le_refl _))) ?_;clear hK K;refine wpStages_nil ?_;go_wp2_with fail;have HMC:=hid (hM.low (lo':=W0.heap.size) (by have:=y5.size;omega));have HFR:=hid (HO.out.ext y6);have HX6:=hid (HX.out.trans y6);clear hM y5 y6 x5 x6 hca HS HO HX c25 m0 m1 m2 m3 m4 m5 m6 s2 s3 s4 lA la l1 l2 hA0
  have hs:(-100000<=p.x/\p.x<=100000)/\(-100000<=p.y/\p.y<=100000):=by
   have hq:=HP.out;unfold Smp.okB at hq;simp only [Bool.and_eq_true,inB_iff] at hq;obtain ⟨⟨⟨⟨⟨q1,q2⟩,q3⟩,-⟩,-⟩,-⟩:=hq;have h1:=(Cam.okB_iff.1 q1).w;have h2:=(Cam.okB_iff.1 q1).h;omega
  have HXY:=hid hs;clear hs
  go_loopw [9,36] (fun v i wr=>∃j:Nat,j<=M.length/\i = .int .i64 (j:Nat)/\Ext W0 wr/\OwnG Mc.cs W0.heap.size 164 12 wr (.slice ta M.length tc) M/\OwnG Frag.cs W0.heap.size 47 5 wr v (hitJ p (k:Nat) cols als M j)) (fun _ i _=>M.length - (intOf i).toNat)
  case atStart=>exact ⟨0,by omega,rfl,HX6.out,HMC.out,HFR.out⟩
  case round=>
   obtain ⟨j,hj,rfl,hx,hm,ho⟩:=hrel;have HX7:=hid hx;have HM7:=hid hm;have HF7:=hid ho;clear HX6 HMC HFR
   rcases Nat.lt_or_ge j M.length with hlt|hge
   ·obtain ⟨m,hmj⟩:∃m,M[j]?=some m:=⟨_,List.getElem?_eq_getElem hlt⟩
    have hmok:=HOK.out m (List.mem_of_getElem? hmj);obtain ⟨gm,cap,he,-,glt,gcap,gcm,-,hcell⟩:=OwnG.at hm (fun _=>rfl) hmj;simp only [Value.slice.injEq,true_and] at he;obtain ⟨rfl,rfl⟩:=he;have c0:=hcell 0 (by decide);have c1:=hcell 1 (by decide);have c2:=hcell 2 (by decide);have c3:=hcell 3 (by decide);have c4:=hcell 4 (by decide);have c5:=hcell 5 (by decide);have c6:=hcell 6 (by decide);have c7:=hcell 7 (by decide);have c8:=hcell 8 (by decide);have c9:=hcell 9 (by decide);have c10:=hcell 10 (by decide);have c11:=hcell 11 (by decide);simp only [Mc.cs,micL,Nat.add_zero,List.getElem?_cons_zero,List.getElem?_cons_succ] at c0 c1 c2 c3 c4 c5 c6 c7 c8 c9 c10 c11;have e1:=R1.out.ext hx;obtain ⟨s0,s1⟩:=e1.q2;have l1:=e1.lt;have HMJ:=hid hmj;clear hx hm ho hcell hmj e1;go_wp2_with fail
    by_cases hcov:covB m.a m.b m.d p.at=true
    ·refine (depthAt_yes m.a.x m.a.y m.a.z m.b.x m.b.y m.b.z m.d.x m.d.y m.d.z hmok.a hmok.b hmok.d hmok.z p.x p.y HXY.out hcov (r:=depthI m.a m.b m.d p.at) rfl _).mono ?_
     rintro e w7 ⟨rfl,x7⟩;have y7:Ext wr w7:=Ext.trans (show Ext wr (wr.alloc (.cells #[m.a.x,m.a.y,m.a.z,m.b.x,m.b.y,m.b.z,m.d.x,m.d.y,m.d.z,m.u,m.v,m.n] 164)) from X_) x7;have hX:=hid (HX7.out.trans y7);have hMM:=hid (HM7.out.ext y7);have hFF:=hid (HF7.out.ext y7);have b12:=(Blk.new wr 164 [m.a.x,m.a.y,m.a.z,m.b.x,m.b.y,m.b.z,m.d.x,m.d.y,m.d.z,m.u,m.v,m.n]).ext x7;have k9:=b12.cell 9 rfl;have k10:=b12.cell 10 rfl;have k11:=b12.cell 11 rfl;have kl:=b12.lt;have e2:=R2.out.ext (HX7.out.trans y7);obtain ⟨t0,t1⟩:=e2.q2;have tl:=e2.lt;obtain ⟨u,vv,hu,hvv,hnn,lu,lv⟩:=hmok.q
     have hqn:vv*n+u<n*n:=by
      have h:=Nat.mul_le_mul_right n (show vv+1<=n by omega);rw [Nat.add_mul,Nat.one_mul] at h;omega
     have hn64:n*n<=64:=Nat.mul_le_mul hn.2 hn.2
     obtain ⟨q,hq⟩:∃q:Nat,vv*n+u=q:=⟨_,rfl⟩
     have eq1:m.v*m.n+m.u=(q:Nat):=by rw [hu,hvv,hnn,<-hq,Int.natCast_add,Int.natCast_mul]
     obtain ⟨pr,hpr⟩:∃pr,m.v*m.n=pr:=⟨_,rfl⟩
     have hprb:pr=((vv*n:Nat):Int):=by rw [<-hpr,hvv,hnn,Int.natCast_mul]
     have wr1:wrap64 (m.v*m.n)=pr:=by rw [hpr];exact wrap_small (by omega) (by omega)
     have wr2:wrap64 (pr+m.u)=(q:Nat):=by rw [<-hpr,eq1];exact wrap_small (by omega) (by omega)
     have hq1:q<cols.length:=by rw [HLC.out];omega
     have hq2:q<als.length:=by rw [HLA.out];omega
     obtain ⟨b4,o4,rfl,-,h4,ct⟩:=HC.out.at hq1;obtain ⟨b5,o5,rfl,-,h5,dt⟩:=HA.out.at hq2;have xt:=XW.out.trans hX.out;have ct7:=(xt.cells.1 b4 _ h4).trans ct;have dt7:=(xt.cells.1 b5 _ h5).trans dt
     obtain ⟨cv,hcv⟩:∃c,cols[q]=c:=⟨_,rfl⟩
     obtain ⟨av,hav⟩:∃c,als[q]=c:=⟨_,rfl⟩
     rw [hcv] at ct7;rw [hav] at dt7
     have heq:=hid (show hitM p (k:Nat) cols als m=[⟨depthI m.a m.b m.d p.at,(k:Nat),(q:Nat),cv,av⟩] by
      unfold hitM;rw [if_pos hcov,eq1,Int.toNat_natCast,List.getD_eq_getElem?_getD,List.getD_eq_getElem?_getD,List.getElem?_eq_getElem hq1,List.getElem?_eq_getElem hq2,hcv,hav]
      rfl)
     have z3:=Z3.out
     have g4:b4<W0.heap.size:=by omega
     have g5:b5<W0.heap.size:=by omega
     have g6:w.heap.size+1+1<W0.heap.size:=by omega
     clear z3 hcov b12 e2 y7 x7 hu hvv hnn lu lv hqn hn64 hq eq1 hpr hprb ct dt hcv hav xt h4 h5 hmok c0 c1 c2 c3 c4 c5 c6 c7 c8 c9 c10 c11 s0 s1 l1 glt gcap gcm;go_wp2_with fail;refine wp_region_stagesS [([0,1,2,3,4,5,6,7,8,9,10,11,12,13,14],15),([],16),([],17)] 17 (fun w'=>∃d,w'=lowc (CHt W0.heap.size) _ d) (by kernel_rfl) (by kernel_rfl) (SC.drew _ _) ?_;refine sc_ fun K hK=>?_;go_wp2_with fail;have hsz:=hX.out.size;refine hK _ _ (.inr (SC.blocks fun a ha=>Ext.block (w:=w7) X_ (Nat.lt_of_lt_of_le ha hsz))) ?_;clear hK K;have HB:=hid (Blk.new w7.drew 47 [(depthI m.a m.b m.d p.at),(k:Nat),(q:Nat),cv,av]);have hFA:=hid (hFF.out.ext (show Ext w7 (w7.drew.alloc (.cells #[(depthI m.a m.b m.d p.at),(k:Nat),(q:Nat),cv,av] 47)) from X_));have hMA:=hid (hMM.out.ext (show Ext w7 (w7.drew.alloc (.cells #[(depthI m.a m.b m.d p.at),(k:Nat),(q:Nat),cv,av] 47)) from X_));have hXA:=hid (hX.out.trans (show Ext w7 (w7.drew.alloc (.cells #[(depthI m.a m.b m.d p.at),(k:Nat),(q:Nat),cv,av] 47)) from X_));have hjl:=hitJ_length p (k:Nat) cols als M j;refine sc_ fun K hK=>?_
     refine wpList_append_fr _ rfl _ _ rfl W0.heap.size _ _ rfl hFA.out ⟨depthI m.a m.b m.d p.at,(k:Nat),(q:Nat),cv,av⟩ w7.heap.size rfl (fun q hq=>by
       rcases (show q=0\/q=1\/q=2\/q=3\/q=4 by omega) with rfl|rfl|rfl|rfl|rfl
       ·exact HB.out.cell 0 rfl
       ·exact HB.out.cell 1 rfl
       ·exact HB.out.cell 2 rfl
       ·exact HB.out.cell 3 rfl
       ·exact HB.out.cell 4 rfl) (by have:=HML.out;omega) (by simp;omega) ?_
     intro v2 w9 hown hg;have hrow:=OwnG.rowE hFA.out;have HF9:=hid hown;have HX9:=hid (Ext.grown hXA.out hg (fun k e=>(hrow k e).1));have HM9:=hid (hMA.out.grownE hg (by decide) (fun k e=>(hrow k e).2));have hC9:=hid (fun a:Addr=>fun ha:CHt W0.heap.size a=>show w9.heap[a.block]?=w7.drew.heap[a.block]? from (hg.block _ (by have:a.block<W0.heap.size:=ha;simp;omega) (fun e=>by have h1:=(hrow _ e.symm).1;have h2:a.block<W0.heap.size:=ha;omega)).trans (Ext.block (w:=w7) X_ (Nat.lt_of_lt_of_le ha hsz)));clear hown hg hrow;go_wp2_with fail;refine hK _ _ (.inr (SC.blocks fun a ha=>hC9.out a ha)) ?_;clear hK K;refine sc_ fun K hK=>?_;go_wp2_with fail;refine hK _ _ (.inl trivial) ?_;clear hK K;refine wpStagesS_nil ?_;go_wp2;go_roundw
     case rel=>exact ⟨j+1,by omega,by go_num,HX9.out,HM9.out,by rw [hitJ_succ HMJ.out,heq.out];exact HF9.out⟩
     case measure=>simp [intOf];omega
    ·refine (depthAt_no m.a.x m.a.y m.a.z m.b.x m.b.y m.b.z m.d.x m.d.y m.d.z hmok.a hmok.b hmok.d hmok.z p.x p.y HXY.out (Bool.eq_false_iff.2 hcov) _).mono ?_
     rintro e w7 ⟨rfl,x7⟩;have y7:Ext wr w7:=Ext.trans (show Ext wr (wr.alloc (.cells #[m.a.x,m.a.y,m.a.z,m.b.x,m.b.y,m.b.z,m.d.x,m.d.y,m.d.z,m.u,m.v,m.n] 164)) from X_) x7;have hX:=hid (HX7.out.trans y7);have hMM:=hid (HM7.out.ext y7);have hFF:=hid (HF7.out.ext y7);go_wp2;go_roundw
     case rel=>exact ⟨j+1,by omega,by go_num,hX.out,hMM.out,by rw [hitJ_succ HMJ.out];unfold hitM;rw [if_neg hcov,List.append_nil];exact hFF.out⟩
     case measure=>simp [intOf];omega
   ·obtain rfl:j=M.length:=by omega
    go_wp2;go_ret;refine ⟨_,rfl,?_,XW.out.trans HX7.out⟩;rw [<-hitJ_all];exact OwnG.low HF7.out (by have:=Z3.out;omega)
theorem iRateOk_any (r:Int) (w:World):Calls Tryz.prog 165 #[r] w fun e w'=>e = .returned (.bool (rateB r))/\Ext w w':=by
 unfold rateB;go_enter Tryz.func165,Tryz.ntmps165;go_wp2
 all_goals
  go_ret;exact ⟨by first|rfl|simp [*],X_⟩
theorem iSideOk_any (r:Int) (w:World):Calls Tryz.prog 98 #[r] w fun e w'=>e = .returned (.bool (sideB r))/\Ext w w':=by
 unfold sideB;go_enter Tryz.func98,Tryz.ntmps98;go_wp2
 all_goals
  go_ret;exact ⟨by first|rfl|simp [*],X_⟩
theorem patB_split (f:Nat->Int):patB f=(okVec (f 0) (f 1) (f 2)&&okVec (f 3) (f 4) (f 5)&&okVec (f 6) (f 7) (f 8)&&okVec (f 9) (f 10) (f 11)):=rfl
theorem iIsValidPatch_any (f:Nat->Int) (w:World):Calls Tryz.prog 57 #[.agg #[(f 0),(f 1),(f 2),(f 3),(f 4),(f 5),(f 6),(f 7),(f 8),(f 9),(f 10),(f 11)]] w fun e w'=>e = .returned (.bool (patB f))/\Ext w w':=by
 have j0:=idxP f 0 (by decide);have j1:=idxP f 1 (by decide);have j2:=idxP f 2 (by decide);have j3:=idxP f 3 (by decide);simp only [Nat.mul_zero,Nat.zero_add,Nat.mul_one,Nat.reduceAdd,Nat.reduceMul,Int.cast_ofNat_Int] at j0 j1 j2 j3;have X0:Ext w (w.alloc (.cells #[(f 0),(f 1),(f 2),(f 3),(f 4),(f 5),(f 6),(f 7),(f 8),(f 9),(f 10),(f 11)] 40)):=X_;go_enter Tryz.func57,Tryz.ntmps57;go_wp2_with fail
 obtain ⟨W0,hW0⟩:∃W0,(w.alloc (.cells #[(f 0),(f 1),(f 2),(f 3),(f 4),(f 5),(f 6),(f 7),(f 8),(f 9),(f 10),(f 11)] 40))=W0:=⟨_,rfl⟩
 rw [hW0] at X0 ⊢;clear hW0
 go_loopw [7] (fun i wr=>∃k:Nat,k<=4/\i = .int .i64 (k:Nat)/\Ext w wr/\(0<k->okVec (f 0) (f 1) (f 2)=true)/\(1<k->okVec (f 3) (f 4) (f 5)=true)/\(2<k->okVec (f 6) (f 7) (f 8)=true)/\(3<k->okVec (f 9) (f 10) (f 11)=true)) (fun i _=>4 - (intOf i).toNat)
 case atStart=>exact ⟨0,by omega,rfl,X0,by omega,by omega,by omega,by omega⟩
 case round=>
  obtain ⟨k,hk,rfl,hx,b0,b1,b2,b3⟩:=hrel;have HX:=hid hx;have B0:=hid b0;have B1:=hid b1;have B2:=hid b2;have B3:=hid b3;clear hx b0 b1 b2 b3 X0
  rcases (show k=0\/k=1\/k=2\/k=3\/k=4 by omega) with rfl|rfl|rfl|rfl|rfl
  ·go_wp2_with fail
   refine (iIsValidVec_val _).mono ?_;rintro e w3 ⟨rfl,x3⟩;have y3:Ext wr w3:=Ext.trans (show Ext wr (wr.alloc (.cells #[(f 0),(f 1),(f 2)] 37)) from X_) x3
   cases hb:okVec (f 0) (f 1) (f 2)
   ·go_wp2
    go_ret;exact ⟨by rw [patB_split,hb];simp,HX.out.trans y3⟩
   ·have HB:=hid hb
    clear hb;go_wp2;go_roundw
    case rel=>exact ⟨1,by omega,by go_num,HX.out.trans y3,fun _=>HB.out,fun h=>absurd h (by omega),fun h=>absurd h (by omega),fun h=>absurd h (by omega)⟩
    case measure=>simp [intOf]
  ·go_wp2_with fail
   refine (iIsValidVec_val _).mono ?_;rintro e w3 ⟨rfl,x3⟩;have y3:Ext wr w3:=Ext.trans (show Ext wr (wr.alloc (.cells #[(f 3),(f 4),(f 5)] 37)) from X_) x3
   cases hb:okVec (f 3) (f 4) (f 5)
   ·go_wp2
    go_ret;exact ⟨by rw [patB_split,hb];simp,HX.out.trans y3⟩
   ·have HB:=hid hb
    clear hb;go_wp2;go_roundw
    case rel=>exact ⟨2,by omega,by go_num,HX.out.trans y3,fun h=>B0.out (by omega),fun _=>HB.out,fun h=>absurd h (by omega),fun h=>absurd h (by omega)⟩
    case measure=>simp [intOf]
  ·go_wp2_with fail
   refine (iIsValidVec_val _).mono ?_;rintro e w3 ⟨rfl,x3⟩;have y3:Ext wr w3:=Ext.trans (show Ext wr (wr.alloc (.cells #[(f 6),(f 7),(f 8)] 37)) from X_) x3
   cases hb:okVec (f 6) (f 7) (f 8)
   ·go_wp2
    go_ret;exact ⟨by rw [patB_split,hb];simp,HX.out.trans y3⟩
   ·have HB:=hid hb
    clear hb;go_wp2;go_roundw
    case rel=>exact ⟨3,by omega,by go_num,HX.out.trans y3,fun h=>B0.out (by omega),fun h=>B1.out (by omega),fun _=>HB.out,fun h=>absurd h (by omega)⟩
    case measure=>simp [intOf]
  ·go_wp2_with fail
   refine (iIsValidVec_val _).mono ?_;rintro e w3 ⟨rfl,x3⟩;have y3:Ext wr w3:=Ext.trans (show Ext wr (wr.alloc (.cells #[(f 9),(f 10),(f 11)] 37)) from X_) x3
   cases hb:okVec (f 9) (f 10) (f 11)
   ·go_wp2
    go_ret;exact ⟨by rw [patB_split,hb];simp,HX.out.trans y3⟩
   ·have HB:=hid hb
    clear hb;go_wp2;go_roundw
    case rel=>exact ⟨4,by omega,by go_num,HX.out.trans y3,fun h=>B0.out (by omega),fun h=>B1.out (by omega),fun h=>B2.out (by omega),fun _=>HB.out⟩
    case measure=>simp [intOf]
  ·go_wp2
   go_ret;exact ⟨by rw [patB_split,B0.out (by omega),B1.out (by omega),B2.out (by omega),B3.out (by omega)];rfl,HX.out⟩
theorem iIsValidSurface_any (f g:Nat->Int) (sh rt:Int) (n:Nat) (w:World):Calls Tryz.prog 100 #[.agg #[(f 0),(f 1),(f 2),(f 3),(f 4),(f 5),(f 6),(f 7),(f 8),(f 9),(f 10),(f 11),(g 0),(g 1),(g 2),(g 3),(g 4),(g 5),(g 6),(g 7),(g 8),(g 9),(g 10),(g 11),sh,rt],(n:Nat)] w fun e w'=>e = .returned (.bool (srfB f g sh rt n))/\Ext w w':=by
 have q0:=Blk.new w 42 [(f 0),(f 1),(f 2),(f 3),(f 4),(f 5),(f 6),(f 7),(f 8),(f 9),(f 10),(f 11),(g 0),(g 1),(g 2),(g 3),(g 4),(g 5),(g 6),(g 7),(g 8),(g 9),(g 10),(g 11),sh,rt];have R0:=hid q0;have X0:=hid (show Ext w (w.alloc (.cells #[(f 0),(f 1),(f 2),(f 3),(f 4),(f 5),(f 6),(f 7),(f 8),(f 9),(f 10),(f 11),(g 0),(g 1),(g 2),(g 3),(g 4),(g 5),(g 6),(g 7),(g 8),(g 9),(g 10),(g 11),sh,rt] 42)) from X_);clear q0
 obtain ⟨b1,hb1⟩:∃b,patB f=b:=⟨_,rfl⟩
 obtain ⟨b2,hb2⟩:∃b,patB g=b:=⟨_,rfl⟩
 obtain ⟨b3,hb3⟩:∃b,rateB rt=b:=⟨_,rfl⟩
 have C1:∀W:World,Calls Tryz.prog 57 #[.agg #[(f 0),(f 1),(f 2),(f 3),(f 4),(f 5),(f 6),(f 7),(f 8),(f 9),(f 10),(f 11)]] W fun e w'=>e = .returned (.bool b1)/\Ext W w':=fun W=>hb1▸iIsValidPatch_any f W;have C2:∀W:World,Calls Tryz.prog 57 #[.agg #[(g 0),(g 1),(g 2),(g 3),(g 4),(g 5),(g 6),(g 7),(g 8),(g 9),(g 10),(g 11)]] W fun e w'=>e = .returned (.bool b2)/\Ext W w':=fun W=>hb2▸iIsValidPatch_any g W;have C3:∀W:World,Calls Tryz.prog 165 #[rt] W fun e w'=>e = .returned (.bool b3)/\Ext W w':=fun W=>hb3▸iRateOk_any rt W;have H1:=hid C1;have H2:=hid C2;have H3:=hid C3;unfold YtfjbiifebcfjfaaGreat.srfB;rw [hb1,hb2,hb3];clear hb1 hb2 hb3 C1 C2 C3
 cases b1
 case false=>
  go_enter Tryz.func100,Tryz.ntmps100;go_wp2_with fail;refine (H1.out _).mono ?_;rintro e w1 ⟨rfl,x1⟩;have X1:=hid (X0.out.trans x1);have R1:=hid (R0.out.ext x1);clear x1;go_wp2;go_ret;exact ⟨by simp [*],X1.out⟩
 case true=>
  cases b2
  case false=>
   go_enter Tryz.func100,Tryz.ntmps100;go_wp2_with fail;refine (H1.out _).mono ?_;rintro e w1 ⟨rfl,x1⟩;have X1:=hid (X0.out.trans x1);have R1:=hid (R0.out.ext x1);clear x1;have c12:=R1.out.cell 12 rfl;have c13:=R1.out.cell 13 rfl;have c14:=R1.out.cell 14 rfl;have c15:=R1.out.cell 15 rfl;have c16:=R1.out.cell 16 rfl;have c17:=R1.out.cell 17 rfl;have c18:=R1.out.cell 18 rfl;have c19:=R1.out.cell 19 rfl;have c20:=R1.out.cell 20 rfl;have c21:=R1.out.cell 21 rfl;have c22:=R1.out.cell 22 rfl;have c23:=R1.out.cell 23 rfl;go_wp2_with fail;refine (H2.out _).mono ?_;rintro e w2 ⟨rfl,x2⟩;have X2:=hid (X1.out.trans x2);have R2:=hid (R1.out.ext x2);clear x2;go_wp2;go_ret;exact ⟨by simp [*],X2.out⟩
  case true=>
   rcases Int.lt_or_le sh 0 with h0|h0
   ·have g0:decide (0<=sh)=false:=by simp;omega
    go_enter Tryz.func100,Tryz.ntmps100;go_wp2_with fail;refine (H1.out _).mono ?_;rintro e w1 ⟨rfl,x1⟩;have X1:=hid (X0.out.trans x1);have R1:=hid (R0.out.ext x1);clear x1;have c12:=R1.out.cell 12 rfl;have c13:=R1.out.cell 13 rfl;have c14:=R1.out.cell 14 rfl;have c15:=R1.out.cell 15 rfl;have c16:=R1.out.cell 16 rfl;have c17:=R1.out.cell 17 rfl;have c18:=R1.out.cell 18 rfl;have c19:=R1.out.cell 19 rfl;have c20:=R1.out.cell 20 rfl;have c21:=R1.out.cell 21 rfl;have c22:=R1.out.cell 22 rfl;have c23:=R1.out.cell 23 rfl;go_wp2_with fail;refine (H2.out _).mono ?_;rintro e w2 ⟨rfl,x2⟩;have X2:=hid (X1.out.trans x2);have R2:=hid (R1.out.ext x2);clear x2;have c24:=R2.out.cell 24 rfl;go_wp2;go_ret;exact ⟨by simp [*],X2.out⟩
   ·have g0:decide (0<=sh)=true:=by simp;omega
    rcases Int.lt_or_le sh n with h1|h1
    ·have g1:decide (sh<(n:Int))=true:=by simp;omega
     go_enter Tryz.func100,Tryz.ntmps100;go_wp2_with fail;refine (H1.out _).mono ?_;rintro e w1 ⟨rfl,x1⟩;have X1:=hid (X0.out.trans x1);have R1:=hid (R0.out.ext x1);clear x1;have c12:=R1.out.cell 12 rfl;have c13:=R1.out.cell 13 rfl;have c14:=R1.out.cell 14 rfl;have c15:=R1.out.cell 15 rfl;have c16:=R1.out.cell 16 rfl;have c17:=R1.out.cell 17 rfl;have c18:=R1.out.cell 18 rfl;have c19:=R1.out.cell 19 rfl;have c20:=R1.out.cell 20 rfl;have c21:=R1.out.cell 21 rfl;have c22:=R1.out.cell 22 rfl;have c23:=R1.out.cell 23 rfl;go_wp2_with fail;refine (H2.out _).mono ?_;rintro e w2 ⟨rfl,x2⟩;have X2:=hid (X1.out.trans x2);have R2:=hid (R1.out.ext x2);clear x2;have c24:=R2.out.cell 24 rfl;have c25:=R2.out.cell 25 rfl;go_wp2_with fail;refine (H3.out _).mono ?_;rintro e w3 ⟨rfl,x3⟩;have X3:=hid (X2.out.trans x3);have R3:=hid (R2.out.ext x3);clear x3;go_wp2;go_ret;exact ⟨by simp [*],X3.out⟩
    ·have g1:decide (sh<(n:Int))=false:=by simp;omega
     go_enter Tryz.func100,Tryz.ntmps100;go_wp2_with fail;refine (H1.out _).mono ?_;rintro e w1 ⟨rfl,x1⟩;have X1:=hid (X0.out.trans x1);have R1:=hid (R0.out.ext x1);clear x1;have c12:=R1.out.cell 12 rfl;have c13:=R1.out.cell 13 rfl;have c14:=R1.out.cell 14 rfl;have c15:=R1.out.cell 15 rfl;have c16:=R1.out.cell 16 rfl;have c17:=R1.out.cell 17 rfl;have c18:=R1.out.cell 18 rfl;have c19:=R1.out.cell 19 rfl;have c20:=R1.out.cell 20 rfl;have c21:=R1.out.cell 21 rfl;have c22:=R1.out.cell 22 rfl;have c23:=R1.out.cell 23 rfl;go_wp2_with fail;refine (H2.out _).mono ?_;rintro e w2 ⟨rfl,x2⟩;have X2:=hid (X1.out.trans x2);have R2:=hid (R1.out.ext x2);clear x2;have c24:=R2.out.cell 24 rfl;go_wp2;go_ret;exact ⟨by simp [*],X2.out⟩
theorem flatMap_atG {α β : Type} {cs : α->List β} {sz:Nat} (hc:∀x,(cs x).length=sz):∀{xs:List α} {i:Nat} {x : α},xs[i]?=some x->∀j,j<sz->(xs.flatMap cs)[i*sz+j]?=(cs x)[j]?
 | [],_,_,h,_,_=>by simp at h
 | y::r,0,x,h,j,hj=>by
  simp at h;subst h;rw [List.flatMap_cons,Nat.zero_mul,Nat.zero_add,List.getElem?_append_left (by rw [hc];exact hj)]
 | y::r,i+1,x,h,j,hj=>by
  rw [List.flatMap_cons,Nat.succ_mul,List.getElem?_append_right (by rw [hc];omega),hc,show i*sz+sz+j - sz=i*sz+j by omega];exact flatMap_atG hc (by simpa using h) j hj
theorem OwnG.flatsI {α : Type} {cs : α->List Value} {ls : α->List Int} {lo:Nat} {e:TypeId} {sz:Nat} {w:World} {v:Value} {xs:List α} {F:Nat->Int} (h:OwnG cs lo e sz w v xs) (hsz:0<sz) (hcs:∀x,cs x=(ls x).map (.int .i64)) (hl:∀x,(ls x).length=sz)
  (hI:∀x∈xs,∀n∈ls x,I64 n) (hF:∀i x k,xs[i]?=some x->k<sz->F (i*sz+k)=(ls x).getD k 0):Flats sz lo w.heap.size w v xs.length F:=by
 have hc:∀x,(cs x).length=sz:=fun x=>by rw [hcs,List.length_map,hl]
 have hat:∀i,i<xs.length*sz->∃x,xs[i / sz]?=some x/\F i=(ls x).getD (i % sz) 0/\(ls x)[i % sz]?=some (F i):=fun i hi=>by
  have hk:i / sz<xs.length:=Nat.div_lt_of_lt_mul (by rw [Nat.mul_comm];exact hi)
  obtain ⟨x,hx⟩:∃x,xs[i / sz]?=some x:=⟨_,List.getElem?_eq_getElem hk⟩
  have hm:=Nat.mod_lt i hsz;have e1:=hF (i / sz) x (i % sz) hx hm;rw [Nat.div_add_mod'] at e1;refine ⟨x,hx,e1,?_⟩;rw [e1,List.getD_eq_getElem?_getD,List.getElem?_eq_getElem (by rw [hl];exact hm)]
  rfl
 rcases h.2 with ⟨rfl,h4⟩|⟨g,cap,cur,rfl,hb,hg,hcap,hm,hs,ht⟩
 ·exact ⟨none,0,by rw [h4],by omega,by unfold maxLen;omega,fun i hx=>by rw [h4] at hx;omega⟩
 ·refine ⟨_,cap,rfl,hcap,hm,fun i hx=>?_⟩
  obtain ⟨x,hx1,hx2,hx3⟩:=hat i hx;refine ⟨hI x (List.mem_of_getElem? hx1) _ (List.mem_of_getElem? hx3),g,0,rfl,hb,(Array.getElem?_eq_some_iff.1 hg).1,?_⟩;have e1:=flatMap_at hc hx1 (i % sz) (Nat.mod_lt i hsz);rw [Nat.div_add_mod'] at e1;rw [hcs,List.getElem?_map,hx3] at e1;rw [<-ht,List.getElem?_take,if_pos hx] at e1;rw [Nat.zero_add]
  show w.cell? ⟨g,i,none⟩=some (.int .i64 (F i))
  simp only [Option.map_some] at e1;rw [<-e1];simp only [World.cell?,hg];simp
def TuR (lo:Nat) (w:World) (v:Value) (xs:List Int):Prop:=∃g cs,lo<=g/\Blk w g 3 cs/\∀w',Blk w' g 3 cs->OwnInts lo w' v xs
theorem TuR.ext {lo:Nat} {w w':World} {v:Value} {xs:List Int} (h:TuR lo w v xs) (x:Ext w w'):TuR lo w' v xs:=by
 obtain ⟨g,cs,h1,h2,h3⟩:=h;exact ⟨g,cs,h1,h2.ext x,h3⟩
theorem TuR.low {lo lo':Nat} {w:World} {v:Value} {xs:List Int} (h:TuR lo w v xs) (hl:lo'<=lo):TuR lo' w v xs:=by
 obtain ⟨g,cs,h1,h2,h3⟩:=h;exact ⟨g,cs,by omega,h2,fun w' k=>(h3 w' k).low hl⟩
theorem TuR.own {lo:Nat} {w:World} {v:Value} {xs:List Int} (h:TuR lo w v xs):OwnInts lo w v xs:=by
 obtain ⟨g,cs,h1,h2,h3⟩:=h;exact h3 w h2
theorem OwnInts.tur {lo:Nat} {w:World} {v:Value} {xs:List Int} (h:OwnInts lo w v xs) (h1:1<=xs.length):TuR lo w v xs:=by
 obtain ⟨⟨k1,k2⟩,k3⟩:=h
 rcases k2 with ⟨rfl,h4⟩|⟨g,cap,cur,rfl,hb,hg,hcap,hm,hs,ht⟩
 ·omega
 ·exact ⟨g,cur.toList,hb,hg,fun w' hw=>⟨⟨k1,.inr ⟨g,cap,cur,rfl,hb,hw,hcap,hm,hs,ht⟩⟩,k3⟩⟩
theorem TuR.set {lo:Nat} {w:World} {v:Value} {xs:List Int} (h:TuR lo w v xs) {A:Nat} {t:TypeId} {us:List Value} (hb:Blk w A t us) (ht:t≠3) (i:Nat) (u:Value):TuR lo (w.setCell ⟨A,i,none⟩ u) v xs:=by
 obtain ⟨g,cs,h1,h2,h3⟩:=h;refine ⟨g,cs,h1,h2.other (fun e=>?_) u,h3⟩;simp only at e;subst e;unfold Blk at h2 hb;rw [h2] at hb;simp only [Option.some.injEq,Obj.cells.injEq] at hb;exact ht hb.2.1.symm
theorem sliceNilB (b off n cap:Nat) (w:World):(binOp .eql 25 (.slice (some ⟨b,off,none⟩) n cap) (.slice none 0 0)).run Tryz.prog w = .ok (.bool false) w:=by
 simp only [binOp];simp [Op.equal,Op.maxDepth,Lib.run_equalIn_slice_nil w 9999 25 3 (some ⟨b,off,none⟩) n cap 0 0 Tryz.underlying25]
theorem cloneIntsB (lo hi:Nat) (u:Value) (xs:List Int) (w:World) (hu:Ints lo hi w u xs) (hh:hi<=w.heap.size) (h1:1<=xs.length) (h2:xs.length<=1000) :
  Calls Tryz.prog 61 #[u] w fun e w'=>∃v',e = .returned v'/\OwnInts w.heap.size w' v' xs/\Ext w w':=by
 obtain ⟨a,cap,rfl,HU⟩:=hu.open;obtain ⟨b,off,rfl,hb1,hb2,_⟩:=HU.at (k:=0) (by omega);have l1:=HU.le;have l2:=HU.cap;clear hu;go_enter Tryz.func61,Tryz.ntmps61
 have HC:∀i y,xs[i]?=some y->I64 y/\(w.alloc (.cells #[] 3)).cell? ⟨b,off+i,none⟩=some (.int .i64 y):=by
  intro i y hy;obtain ⟨h3,b',off',e,h4,h5,h6⟩:=HU.cell i y hy;simp only [Option.some.injEq,Addr.mk.injEq,and_true] at e;obtain ⟨rfl,rfl⟩:=e;exact ⟨h3,(((Ext.refl w).alloc _).cells.1 b _ (by omega)).trans h6⟩
 have HC:=hid HC;have hnil:=fun w=>sliceNilB b off xs.length cap w;go_wp2_with (at_builtin;refine wpList_append_ints _ rfl _ _ rfl w.heap.size (.slice (some ⟨w.heap.size,0,none⟩) 0 0) [] xs rfl (OwnInts.fresh0 (Nat.le_refl _) (Blk.new w 3 [])) b off cap rfl HC.out (by simp;omega) (by simp) ?_;intro v' w1 hown hg;obtain ⟨a',c',rfl,_⟩:=hown.form);go_ret;exact ⟨_,rfl,by simpa using hown,((Ext.refl w).alloc _).grown hg (fun k e=>by simp [Value.ownBlock] at e;omega)⟩
theorem setRow_alloc (w:World) (zs cs:Array Value) (t:TypeId):(w.alloc (.cells zs t)).setRow w.heap.size cs=w.alloc (.cells cs t):=by
 unfold World.setRow World.alloc
 congr 1
 apply Array.ext_getElem?;intro k;simp only [Array.getElem?_modify,Array.getElem?_push]
 by_cases hk:k=w.heap.size
 ·subst hk;simp
 ·simp [hk,Ne.symm hk]
theorem wpList_store_fresh {P:Program} {ops:Array Oper} {rest:List Oper} {o:Oper} {a:Act} {Q:Exit->Act->World->Prop} (w0:World) (zs:Array Value) (t:TypeId) (hgd:o.guard=none) (ty:TypeId) (x y:Operand) (ho:o.op = .store ty x y)
  (hd:o.dst=none) (cells:Array Value) (N:Nat) (hN:w0.heap.size=N) (hx:a.eval x = .pointer (some ⟨N,0,none⟩)) (hy:a.eval y = .agg cells)
  (hi:(P.info? ty).map (·.size)=some cells.size) (hold:zs.size=cells.size) (h1:cells.all (·.oneCell')=true)
  (h:wpList P ops Q rest a (w0.alloc (.cells cells t))):wpList P ops Q (o::rest) a (w0.alloc (.cells zs t)):=by
 subst hN;refine wpList_store_rowTo hgd ty x y ho hd w0.heap.size cells hx hy t zs (Go.Deep.blk_alloc_new _ _) hi hold h1 ?_;rw [setRow_alloc];exact h
def CBox (A:Nat):Addr->Prop:=fun a=>a.block=A
@[go_sem] theorem CBox_of {A k o:Nat} (h:k=A):CBox A ⟨k,o,none⟩:=h
theorem Blk.rangeB {w:World} {b:Nat} {t:TypeId} {cs:List Value} (h:Blk w b t cs):w.rangeAt b 0 cs:=fun j v hj=>by rw [Nat.zero_add];exact h.cell j hj
theorem Blk.rowB {w:World} {g:Nat} {t:TypeId} {cs:List Value} (h:Blk w g t cs) (ds:List Value):Blk (w.setRow g ds.toArray) g t ds:=setRow_heap _ _ _ _ _ _ h
theorem size_setRowB (w:World) (g:Nat) (cs:Array Value):(w.setRow g cs).heap.size=w.heap.size:=by simp [World.setRow]
theorem Ext.setRowB {w w1:World} (h:Ext w w1) {g:Nat} (hg:w.heap.size<=g) (cs:Array Value):Ext w (w1.setRow g cs):=
 Below.trans h ⟨rfl,rfl,rfl,by simp,fun k hk=>setRow_other _ _ _ _ (by omega)⟩
theorem ret_box {P:Program} {fn:Func} {R:Ending->World->Prop} {a:Act} {w:World} {p:Tmp} {ty:TypeId} {cs:List Value} {g:Nat} {t:TypeId} (h:fn.results=#[.cell p ty]) (hp:a.tmps.getD p undef = .pointer (some ⟨g,0,none⟩)) (hb:Blk w g t cs)
  (d:TypeDesc) (hu:P.underlying ty=some d) (hd:(match d with | .struct _ | .array _ _=>true|_=>false)=true) (hi:(P.info? ty).map (·.size)=some cs.toArray.size) (hdf:a.defers=[]) (hR:R (.returned (.agg cs.toArray)) w):bodyPost P fn R .ret a w:=
 bodyPost_ret (results_cell_row h _ _ g t cs.toArray (0,0) d hp hb hu hd hi) hdf hR
theorem res_box_tmp {P:Program} {fn:Func} {p u:Tmp} {ty:TypeId} {cs:List Value} {g:Nat} {t:TypeId} (h:fn.results=#[.cell p ty,.tmp u]) (tmps:Array Value) (w:World) (hp:tmps.getD p undef = .pointer (some ⟨g,0,none⟩)) (hb:Blk w g t cs)
  (d:TypeDesc) (hu:P.underlying ty=some d) (hd:(match d with | .struct _ | .array _ _=>true|_=>false)=true) (hi:(P.info? ty).map (·.size)=some cs.toArray.size):(results fn tmps).run P w = .ok (.tuple #[.agg cs.toArray,tmps.getD u undef]) w:=by
 rw [results_cell_tmp h,hp];simp [asAddr,run_loadVar_row w g t ty cs.toArray (0,0) d hb hu hd hi,Result.andThen]
def Byts (hi:Nat) (w:World) (v:Value) (n:Nat):Prop:=
 ∃a cap,v = .slice a n cap/\n<=cap/\cap<=maxLen/\∀i,i<n->∃b off x,a=some ⟨b,off,none⟩/\b<hi/\0<=x/\x<=255/\w.cell? ⟨b,off+i,none⟩=some (.int .u8 x)
theorem Byts.same {hi:Nat} {w w':World} {v:Value} {n:Nat} (h:Byts hi w v n) (s:Same 0 hi w w'):Byts hi w' v n:=by
 obtain ⟨a,cap,h1,h2,h3,h4⟩:=h;refine ⟨a,cap,h1,h2,h3,fun i hx=>?_⟩;obtain ⟨b,off,x,h6,h7,h8,h9,h10⟩:=h4 i hx;exact ⟨b,off,x,h6,h7,h8,h9,by rw [s.cell (Nat.zero_le _) h7];exact h10⟩
theorem Byts.ext {hi:Nat} {w w':World} {v:Value} {n:Nat} (h:Byts hi w v n) (hh:hi<=w.heap.size) (e:Ext w w'):Byts hi w' v n:=h.same (e.same hh)
theorem Byts.open {hi:Nat} {w:World} {v:Value} {n:Nat} (h:Byts hi w v n):∃a cap,v = .slice a n cap/\n<=cap/\cap<=9223372036854775807:=by
 obtain ⟨a,cap,h1,h2,h3,_⟩:=h;exact ⟨a,cap,h1,h2,by unfold maxLen at h3;omega⟩
theorem Byts.at {hi:Nat} {w:World} {a:Option Addr} {cap n:Nat} (h:Byts hi w (.slice a n cap) n) {i:Nat} (hi':i<n):∃b off x,a=some ⟨b,off,none⟩/\b<hi/\0<=x/\x<=255/\w.cell? ⟨b,off+i,none⟩=some (.int .u8 x):=by
 obtain ⟨a',cap',h1,h2,h3,h4⟩:=h;simp only [Value.slice.injEq,true_and] at h1;obtain ⟨rfl,rfl⟩:=h1;exact h4 i hi'
def Cur (hi:Nat) (w:World) (B:Nat):Prop:=
 hi<=B/\∃v n i,∃h:Int,Blk w B 152 [v,(i:Nat),h]/\Byts hi w v n/\i<=n/\n<=1048576/\I64 h
theorem Cur.lt {hi:Nat} {w:World} {B:Nat} (h:Cur hi w B):B<w.heap.size:=by
 obtain ⟨_,v,n,i,q,h1,_⟩:=h;exact h1.lt
theorem Cur.ext {hi:Nat} {w w':World} {B:Nat} (h:Cur hi w B) (e:Ext w w'):Cur hi w' B:=by
 have hl:=h.lt;obtain ⟨h0,v,n,i,q,h1,h2,h3⟩:=h;exact ⟨h0,v,n,i,q,h1.ext e,h2.ext (by omega) e,h3⟩
def Gr (B:Nat) (w w':World):Prop:=w.grownBy w' (some B)
theorem Gr.refl (B:Nat) (w:World):Gr B w w:=World.grownBy.refl w _
theorem Gr.trans {B:Nat} {w w1 w2:World} (h:Gr B w w1) (k:Gr B w1 w2):Gr B w w2:=grownBy.trans h k
theorem Gr.ext {B:Nat} {w w1 w2:World} (h:Gr B w w1) (k:Ext w1 w2):Gr B w w2:=h.trans (k.gr _)
theorem Gr.size {B:Nat} {w w1:World} (h:Gr B w w1):w.heap.size<=w1.heap.size:=World.grownBy.size h
theorem Gr.set {B:Nat} {w w1:World} (h:Gr B w w1) (i:Nat) (u:Value):Gr B w (w1.setCell ⟨B,i,none⟩ u):=
 ⟨h.os,h.tape,h.output,by rw [World.size_setCell];exact h.size,fun k hk hne=>(Below.heap_setCell _ _ _ _ (fun e=>hne (by simp only at e;rw [e]))).trans (h.block k hk hne)⟩
theorem Gr.up {B:Nat} {w0 w w1:World} (h:Gr B w w1) (e:Ext w0 w) (hB:w0.heap.size<=B):Ext w0 w1:=Ext.grown e h (fun k hk=>by simp only [Option.some.injEq] at hk;omega)
theorem Gr.blk {B:Nat} {w w1:World} (h:Gr B w w1) {g:Nat} {t:TypeId} {cs:List Value} (k:Blk w g t cs) (ne:g≠B):Blk w1 g t cs:=k.grown h (fun e=>ne (by simpa using e))
theorem Gr.step {B:Nat} {wa w w':World} {row:Option Nat} (h:Gr B wa w) (hg:w.grownBy w' row) (hr:∀k,row=some k->wa.heap.size<=k):Gr B wa w':=
 ⟨hg.os.trans h.os,hg.tape.trans h.tape,hg.output.trans h.output,Nat.le_trans h.size hg.size,fun k hk hne=>(hg.block k (Nat.lt_of_lt_of_le hk h.size) (fun e=>by have:=hr k e.symm;omega)).trans (h.block k hk hne)⟩
theorem Gr.setNew {B:Nat} {wa w:World} (h:Gr B wa w) {b:Nat} (hb:wa.heap.size<=b) (i:Nat) (u:Value):Gr B wa (w.setCell ⟨b,i,none⟩ u):=
 ⟨h.os,h.tape,h.output,by rw [World.size_setCell];exact h.size,fun k hk hne=>(Below.heap_setCell _ _ _ _ (by simp only;omega)).trans (h.block k hk hne)⟩
theorem Cur.keep {hi:Nat} {w w':World} {B:Nat} (h:Cur hi w B) (e:∀b,b<=B->w'.heap[b]?=w.heap[b]?):Cur hi w' B:=by
 obtain ⟨h0,v,n,i,q,h1,h2,h3⟩:=h;exact ⟨h0,v,n,i,q,h1.of (e _ (Nat.le_refl _)),h2.same (fun b _ hb=>e b (by omega)),h3⟩
theorem Cur.setNew {hi:Nat} {w:World} {B b:Nat} (h:Cur hi w B) (hb:B<b) (i:Nat) (u:Value):Cur hi (w.setCell ⟨b,i,none⟩ u) B:=h.keep fun k hk=>Below.heap_setCell _ _ _ _ (by simp only;omega)
theorem and_mask (z:Int) (m:Nat) (hm:m<4611686018427387904):0<=bits .and .i64 z (m:Int)/\bits .and .i64 z (m:Int)<=m:=by
 have h2:(BitVec.ofInt 64 (m:Int)).toNat=m:=by
  rw [BitVec.ofInt_natCast,BitVec.toNat_ofNat];exact Nat.mod_eq_of_lt (by omega)
 have h3:(BitVec.ofInt 64 z &&& BitVec.ofInt 64 (m:Int)).toNat<=m:=by
  rw [BitVec.toNat_and,h2];exact Nat.and_le_right
 show 0<=IntKind.i64.wrap ((BitVec.ofInt 64 z &&& BitVec.ofInt 64 (m:Int)).toNat:Int)/\IntKind.i64.wrap ((BitVec.ofInt 64 z &&& BitVec.ofInt 64 (m:Int)).toNat:Int)<=m
 rw [IntWalk.i64_in _ ⟨by omega,by omega⟩];omega
theorem wrap64_i64 (n:Int):I64 (wrap64 n):=by unfold wrap64;exact ⟨by omega,by omega⟩
theorem mask255 (z:Int):0<=bits .and .i64 z 255/\bits .and .i64 z 255<=255:=and_mask z 255 (by decide)
theorem l01Byte_any (hi B:Nat) (w:World) (hc:Cur hi w B) :
  Calls Tryz.prog 47 #[.pointer (some ⟨B,0,none⟩)] w fun e w'=>∃x:Int,e = .returned (.int .i64 x)/\(0<=x/\x<=255)/\Cur hi w' B/\Gr B w w':=by
 obtain ⟨h0,v,n,i,q,h1,h2,h3,h4,h5⟩:=hc;obtain ⟨a,cap,rfl,k1,k2⟩:=h2.open;obtain ⟨c0,c1,c2⟩:=h1.q3;have f0:=h1.free 0;have f1:=h1.free 1;have f2:=h1.free 2;have z:=h1.lt;have H1:=hid h1;have H2:=hid h2;clear h1 h2;go_enter Tryz.func47,Tryz.ntmps47;go_wp2
 go_quiet (fail)
 go_wp2
 obtain ⟨q1,hq1⟩:∃r,wrap64 (wrap64 (q*6364136223846793005)+1442695040888963407)=r:=⟨_,rfl⟩
 have i1:I64 q1:=hq1▸wrap64_i64 _;rw [hq1];clear hq1
 obtain ⟨x1,hx1⟩:∃x,bits .and .i64 (bits .xor .i64 (q1 / 8589934592) (q1 / 35184372088832)) 255=x:=⟨_,rfl⟩
 have b1:0<=x1/\x1<=255:=hx1▸mask255 _;rw [hx1];clear hx1;have B1:=H1.out.set 2 (.int .i64 q1);have G1:=(Gr.refl B w).set 2 (.int .i64 q1);clear c0 c1 c2 f0 f1 f2 z;have G2:Gr B w ((w.setCell ⟨B,2,none⟩ q1).drewN nq):=G1.ext X_;have B2:Blk ((w.setCell ⟨B,2,none⟩ q1).drewN nq) B 152 [.slice a n cap,(i:Nat),q1]:=B1;have H3:Byts hi ((w.setCell ⟨B,2,none⟩ q1).drewN nq) (.slice a n cap) n:=H2.out.same (fun b _ hb=>G2.block b (by have:=H1.out.lt;omega) (fun e=>by simp only [Option.some.injEq] at e;omega));have hz:w.heap.size<=((w.setCell ⟨B,2,none⟩ q1).drewN nq).heap.size:=G2.size
 obtain ⟨w1,hw1⟩:∃w1,(w.setCell ⟨B,2,none⟩ q1).drewN nq=w1:=⟨_,rfl⟩
 rw [hw1] at G2 B2 H3 hz ⊢;obtain ⟨c0,c1⟩:=B2.q2;have z:=B2.lt;clear hw1 B1 G1
 by_cases hlt:i<n
 ·obtain ⟨b,off,y,rfl,hb,y0,y1,hcy⟩:=H3.at hlt
  have f1:=B2.free 1
  have hb2:b<w1.heap.size:=by omega
  replace H3:=hid H3
  go_quiet (fail)
  go_wp2
  go_quiet (fail)
  go_wp2;go_ret;refine ⟨_,rfl,mask255 _,⟨h0,_,n,i+1,q1,?_,H3.out.same (fun b _ hb=>Below.heap_setCell _ _ _ _ (by simp;omega)),by omega,h4,i1⟩,?_⟩
  ·have B3:=B2.set 1 (.int .i64 ((i:Int)+1))
   have e:((i:Int)+1)=((i+1:Nat):Int):=by omega
   rw [<-e];exact B3
  ·exact (G2.ext (show Ext w1 (w1.drewN _) from X_)).set 1 _
 ·go_quiet (fail)
  go_wp2;go_ret;exact ⟨x1,rfl,b1,⟨h0,_,n,i,q1,B2,H3,h3,h4,i1⟩,G2.ext X_⟩
theorem l01Below_any (hi B:Nat) (n:Int) (w:World) (hc:Cur hi w B) (h0:0<n) (hn:I64 n) :
  Calls Tryz.prog 88 #[.pointer (some ⟨B,0,none⟩),n] w fun e w'=>∃x:Int,e = .returned (.int .i64 x)/\(0<=x/\x<n)/\Cur hi w' B/\Gr B w w':=by
 have HC:=hid hc;have HN:=hid hn;clear hc hn
 have hn0 : ¬n<=0:=by omega
 by_cases h1:n<=256
 ·go_enter Tryz.func88,Tryz.ntmps88
  go_wp2_with fail;refine (l01Byte_any hi B _ HC.out).mono ?_;rintro e w1 ⟨x,rfl,⟨x0,x1⟩,C1,G1⟩;go_wp2;go_ret;exact ⟨x % n,rfl,⟨Int.emod_nonneg _ (by omega),Int.emod_lt_of_pos _ h0⟩,C1,G1⟩
 ·go_enter Tryz.func88,Tryz.ntmps88
  go_wp2_with fail;refine (l01Byte_any hi B _ HC.out).mono ?_;rintro e w1 ⟨x,rfl,⟨x0,x1⟩,C1,G1⟩;go_wp2_with fail;refine (l01Byte_any hi B _ C1).mono ?_;rintro e w2 ⟨y,rfl,⟨y0,y1⟩,C2,G2⟩;go_wp2_with fail;refine (l01Byte_any hi B _ C2).mono ?_;rintro e w3 ⟨z,rfl,⟨z0,z1⟩,C3,G3⟩;go_wp2_with fail;refine (l01Byte_any hi B _ C3).mono ?_;rintro e w4 ⟨v,rfl,⟨v0,v1⟩,C4,G4⟩;go_wp2;go_ret;exact ⟨_,rfl,⟨Int.emod_nonneg _ (by omega),Int.emod_lt_of_pos _ h0⟩,C4,((G1.trans G2).trans G3).trans G4⟩
theorem mask30 (z:Int):0<=bits .and .i64 z 1073741823/\bits .and .i64 z 1073741823<=1073741823:=and_mask z 1073741823 (by decide)
theorem l01New_any (hi:Nat) (v:Value) (n:Nat) (w:World) (hv:Byts hi w v n) (hh:hi<=w.heap.size) (hn:n<=1048576) :
  Calls Tryz.prog 34 #[v] w fun e w'=>∃B,e = .returned (.pointer (some ⟨B,0,none⟩))/\w.heap.size<=B/\Cur hi w' B/\Ext w w':=by
 have HV:=hid hv;obtain ⟨a,cap,rfl,k1,k2⟩:=hv.open;clear hv;go_enter Tryz.func34,Tryz.ntmps34;go_wp2
 go_loop [3,4] (fun h i=>∃(x:Int) (k:Nat),h = .int .i64 x/\i = .int .i64 k/\(0<=x/\x<=1100000000)/\k<=n) (fun _ i=>n - (intOf i).toNat)
 case atStart=>exact ⟨1953+(n:Int),0,rfl,rfl,⟨by omega,by omega⟩,by omega⟩
 case round=>
  obtain ⟨x,k,rfl,rfl,⟨x0,x1⟩,hk⟩:=hrel
  by_cases hlt:k<n
  ·obtain ⟨b,off,y,rfl,hb,y0,y1,hcy⟩:=HV.out.at hlt
   have hb2:b<w.heap.size:=by omega
   by_cases h4:k<4000
   ·have e4:decide ((k:Int)<4000)=true:=decide_eq_true (by omega)
    go_wp2
    go_round
    case rel=>exact ⟨_,k+1,rfl,by go_num,⟨(mask30 _).1,Int.le_trans (mask30 _).2 (by decide)⟩,by omega⟩
    case measure=>simp [intOf];omega
   ·have e4:decide ((k:Int)<4000)=false:=decide_eq_false (by omega)
    go_wp2;go_ret;exact ⟨w.heap.size,rfl,Nat.le_refl _,⟨hh,_,n,0,x,Blk.new _ _ _,HV.out.ext hh X_,by omega,hn,⟨by omega,by omega⟩⟩,X_⟩
  ·obtain rfl:k=n:=by omega
   go_wp2;go_ret;exact ⟨w.heap.size,rfl,Nat.le_refl _,⟨hh,_,k,0,x,Blk.new _ _ _,HV.out.ext hh X_,by omega,hn,⟨by omega,by omega⟩⟩,X_⟩
theorem l32New_any (hi:Nat) (v:Value) (n m:Nat) (w:World) (hv:Byts hi w v n) (hh:hi<=w.heap.size) (hn:n<=1048576) (hm:m<=1000) :
  Calls Tryz.prog 36 #[v,m] w fun e w'=>∃B,e = .returned (.pointer (some ⟨B,0,none⟩))/\w.heap.size<=B/\Cur hi w' B/\Ext w w':=by
 have HV:=hid hv;obtain ⟨a,cap,rfl,k1,k2⟩:=hv.open;clear hv;go_enter Tryz.func36,Tryz.ntmps36;go_wp2_with fail;refine (l01New_any hi _ n _ HV.out hh hn).mono ?_;rintro e w1 ⟨B,rfl,hB,C1,x1⟩;have HC:=hid C1;have HX:=hid x1;clear C1 x1;go_wp2
 go_loopw [6] (fun i wr=>∃k:Nat,i = .int .i64 k/\k<=m/\Cur hi wr B/\Gr B w1 wr) (fun i _=>m - (intOf i).toNat)
 case atStart=>exact ⟨0,rfl,by omega,HC.out,Gr.refl _ _⟩
 case round=>
  obtain ⟨k,rfl,hk,C2,G2⟩:=hrel
  by_cases hlt:k<m
  ·go_wp2_with fail
   refine (l01Byte_any hi B _ C2).mono ?_;rintro e w3 ⟨x,rfl,hx,C3,G3⟩;have HC3:=hid C3;have HG3:=hid (G2.trans G3);clear C2 G2 C3 G3 hx;go_wp2;go_roundw
   case rel=>exact ⟨k+1,by go_num,by omega,HC3.out,HG3.out⟩
   case measure=>simp [intOf];omega
  ·obtain rfl:k=m:=by omega
   have HC2:=hid C2;have HG2:=hid G2;clear C2 G2;go_wp2;go_ret;exact ⟨B,rfl,hB,HC2.out,HG2.out.up HX.out hB⟩
theorem l01Pick_any (hi B g n:Nat) (xs:List Int) (w:World) (hc:Cur hi w B) (hg:Blk w g 3 (xs.map (Value.int .i64))) (hne:g≠B) (hn:xs.length=n) (h1:1<=n) (h2:n<=1000) :
  Calls Tryz.prog 139 #[.pointer (some ⟨B,0,none⟩),.slice (some ⟨g,0,none⟩) n n] w fun e w'=>∃x:Int,e = .returned (.int .i64 x)/\x∈xs/\Cur hi w' B/\Gr B w w':=by
 have HC:=hid hc;have HG:=hid hg;have HN:=hid hn;clear hc hg hn;go_enter Tryz.func139,Tryz.ntmps139;go_wp2_with fail;refine (l01Below_any hi B n _ HC.out (by omega) ⟨by omega,by omega⟩).mono ?_;rintro e w1 ⟨x,rfl,⟨x0,x1⟩,C1,G1⟩
 obtain ⟨k,rfl⟩:∃k:Nat,x=k:=⟨x.toNat,by omega⟩
 have B1:=G1.blk HG.out hne
 have hk:k<xs.length:=by rw [HN.out];omega
 have c0:=B1.cell k (v:=.int .i64 xs[k]) (by simp [hk]);have hm:xs[k]∈xs:=List.getElem_mem hk
 obtain ⟨y,hy⟩:∃y,xs[k]=y:=⟨_,rfl⟩
 rw [hy] at c0 hm;have z1:=B1.lt
 have hkn:k<n:=by omega
 clear hy hk;go_wp2;go_ret;exact ⟨y,rfl,hm,C1,G1⟩
structure TSt (hi B:Nat) (wa wr:World) (g:Nat) (L:Int) (v:Value) (px:List Int):Prop where
 gr:Gr B wa wr
 low:wa.heap.size<=g
 cur:Cur hi wr B
 box:Blk wr g 27 [L,v]
 own:OwnInts (g+1) wr v px
 all:∀p∈px,0<=p/\p<=256
theorem TSt.to {hi B:Nat} {wa wr w':World} {g:Nat} {L:Int} {v:Value} {px:List Int} (h:TSt hi B wa wr g L v px) (e:Ext wr w'):TSt hi B wa w' g L v px:=
 ⟨h.gr.ext e,h.low,h.cur.ext e,h.box.ext e,h.own.ext e,h.all⟩
theorem l15Draw_any (hi B:Nat) (w:World) (hc:Cur hi w B) :
  Calls Tryz.prog 138 #[.pointer (some ⟨B,0,none⟩)] w fun e w'=>∃(v:Value) (t:Tex),e = .returned v/\OwnTex w.heap.size w' v t/\t.Ok/\Cur hi w' B/\Gr B w w':=by
 have HC:=hid hc;have hB:=hc.lt;clear hc;go_enter Tryz.func138,Tryz.ntmps138;go_wp2_with fail;refine (l01Below_any hi B 4 _ (HC.out.ext X_) (by decide) ⟨by decide,by decide⟩).mono ?_;rintro e w1 ⟨L,rfl,⟨L0,L1⟩,C1,G1⟩
 have hL4:L<=4:=by omega
 obtain ⟨m,hm⟩:∃m:Nat,2 ^ L.toNat=m:=⟨_,rfl⟩
 have hm16:m<=8:=by
  have:L=0\/L=1\/L=2\/L=3:=by omega
  rcases this with h|h|h|h <;> subst h <;> simp at hm <;> omega
 have hm1:1<=m:=hm▸Nat.one_le_two_pow
 obtain ⟨P,hP⟩:∃P:Nat,m*m=P:=⟨_,rfl⟩
 have hP64:P<=64:=by rw [<-hP];exact Nat.mul_le_mul hm16 hm16
 have hP1:1<=P:=by rw [<-hP];exact Nat.mul_le_mul hm1 hm1
 have hmm:wrap64 ((m:Int)*(m:Int))=(P:Int):=by rw [<-Int.natCast_mul,hP];exact I64.wrap ⟨by omega,by omega⟩
 have S0:TSt hi B (w.alloc (.cells #[(),.slice none 0 0] 27)) (w1.alloc (.cells #[L,.slice none 0 0] 27)) w1.heap.size L (.slice none 0 0) []:=
  ⟨G1.ext X_,G1.size,C1.ext X_,Blk.new w1 _ [L,.slice none 0 0],OwnInts.nil _ _,fun p h=>by cases h⟩
 have hsz:=hid (fun w=>hm▸l15Size_tex (t:=⟨L,[]⟩) L0 hL4 w:∀w,Calls Tryz.prog 185 #[L] w fun e w'=>e = .returned (.int .i64 (m:Nat))/\w=w');replace S0:=hid S0;replace hm:=hid hm;replace hP:=hid hP;have c0:=S0.out.box.cell 0 rfl;have z0:=S0.out.box.lt;clear C1 G1 hm16 hm1;go_wp2
 go_quiet ((go_at_call 185;exact quiet_same (hsz.out _)))
 go_wp2;rw [hmm];clear c0 z0 hmm
 go_loopg [4] P (fun k p wr=>∃(v:Value) (px:List Int),p = .int .i64 k/\px.length+k=P/\TSt hi B (w.alloc (.cells #[(),.slice none 0 0] 27)) wr w1.heap.size L v px)
 case atStart=>exact ⟨_,[],rfl,by simp,S0.out.to X_⟩
 case round=>
  obtain ⟨v,px,rfl,hk,hst⟩:=hrel;obtain ⟨av,cv,ev,-⟩:=hst.own.form
  obtain ⟨n,hn⟩:∃n,px.length=n:=⟨_,rfl⟩
  rw [hn] at ev hk;subst ev;have b1:=hst.box.cell 1 rfl;have z0:=hst.box.lt;have HN:=hid hn;have HST:=hid hst
  have hgB:w1.heap.size≠B:=by have:=hst.low;simp at this;omega
  clear hst hn
  by_cases hlt:0<gk
  ·go_wp2
   refine wp_region_stagesX [([0,1,2,3],4),([],5),([],6),([],7),([],8),([9],10)] 10 (w1.heap.size+1) B (by kernel_rfl) (by kernel_rfl) ?_;refine wpStagesX_cons ?_;simp only [List.filterMap_cons,List.filterMap_nil,List.getElem?_toArray,List.getElem?_cons_zero,List.getElem?_cons_succ]
   show wpQuiet _ _ _ _ [_,_,_,_] _
   repeat (go_big_quiet_step (fail))
   refine wpQuiet_nil ⟨_,rfl,fun K hK=>?_⟩;go_wp2_with fail;refine (l01Below_any hi B 257 _ (HST.out.cur.ext X_) (by decide) ⟨by decide,by decide⟩).mono ?_;rintro e w3 ⟨p,rfl,⟨p0,p1⟩,C3,G3⟩;have G3':Gr B wr w3:=((Gr.refl B wr).ext X_).trans G3;go_wp2_with fail;refine hK _ _ (.inr (SameX.gr G3' (by omega))) ?_;clear hK K;refine wpStagesX_cons ?_;simp only [List.filterMap_nil]
   show wpQuiet _ _ _ _ [] _
   try simp only [Act.put,List.getElem_toArray,List.getElem_cons_succ,List.getElem_cons_zero,List.setIfInBounds_toArray,List.set_cons_succ,List.set_cons_zero]
   refine wpQuiet_nil ⟨_,rfl,fun K hK=>?_⟩;go_wp2_with fail;have y4:Ext w3 (w3.alloc (.cells #[(),.int .i64 256,p] 3)):=X_;have G4:=G3'.ext y4;have C4:=C3.ext y4;have B4:=Blk.new w3 3 ([0,256,p].map (Value.int .i64));have z3:=G3'.size;refine hK _ _ (.inr (SameX.gr G4 (by omega))) ?_;clear hK K;refine wpStagesX_cons ?_;simp only [List.filterMap_nil]
   show wpQuiet _ _ _ _ [] _
   try simp only [Act.put,List.getElem_toArray,List.getElem_cons_succ,List.getElem_cons_zero,List.setIfInBounds_toArray,List.set_cons_succ,List.set_cons_zero]
   refine wpQuiet_nil ⟨_,rfl,fun K hK=>?_⟩;go_wp2_with fail;refine (l01Pick_any hi B _ 3 [0,256,p] _ C4 B4 (by have:=HST.out.low;simp at this;omega) rfl (by decide) (by decide)).mono ?_;rintro e w5 ⟨q,rfl,hq,C5,G5⟩
   have hq256:0<=q/\q<=256:=by
    simp only [List.mem_cons,List.not_mem_nil,or_false] at hq
    rcases hq with rfl|rfl|rfl <;> omega
   have G5':=G4.trans G5;go_wp2_with fail;refine hK _ _ (.inr (SameX.gr G5' (by omega))) ?_;clear hK K hq;refine wpStagesX_cons ?_;simp only [List.filterMap_nil]
   show wpQuiet _ _ _ _ [] _
   try simp only [Act.put,List.getElem_toArray,List.getElem_cons_succ,List.getElem_cons_zero,List.setIfInBounds_toArray,List.set_cons_succ,List.set_cons_zero]
   refine wpQuiet_nil ⟨_,rfl,fun K hK=>?_⟩;go_wp2_with fail;have y6:Ext w5 (w5.alloc (.cells #[q] 3)):=X_;have z5:=G5'.size;refine hK _ _ (.inr (SameX.gr (G5'.ext y6) (by omega))) ?_;clear hK K;refine wpStagesX_cons ?_;simp only [List.filterMap_nil]
   show wpQuiet _ _ _ _ [] _
   try simp only [Act.put,List.getElem_toArray,List.getElem_cons_succ,List.getElem_cons_zero,List.setIfInBounds_toArray,List.set_cons_succ,List.set_cons_zero]
   refine wpQuiet_nil ⟨_,rfl,fun K hK=>?_⟩;have hlow:=HST.out.low;rw [World.size_alloc] at hlow;have own5:OwnInts (w1.heap.size+1) w5 (.slice av n cv) px:=HST.out.own.kept (fun b hb hb'=>G5'.block b hb' (fun e=>by simp only [Option.some.injEq] at e;omega));refine wpList_append1 _ rfl _ _ rfl (w1.heap.size+1) (.slice av n cv) px rfl (own5.alloc _) q ⟨by omega,by omega⟩ w5.heap.size rfl (by simp [go_sem]) (by rw [HN.out];omega) (by simp;omega) ?_;intro v' w6 hown hg;obtain ⟨a4,c4,e4,-⟩:=hown.form;rw [show (px++[q]).length=n+1 by rw [List.length_append,HN.out];rfl] at e4;subst e4;have hz4:=hg.size;rw [World.size_alloc] at hz4;have hv3:∀k,(Value.slice av n cv).ownBlock=some k->w1.heap.size+1<=k:=fun k hk=>(own5.lt k hk).1;have hkeep:∀b,b<w1.heap.size+1->w6.heap[b]?=w5.heap[b]?:=fun b hb=>(hg.block b (by simp;omega) (fun e=>by have:=hv3 b e.symm;omega)).trans (y6.block (by omega));have X6:SameX (w1.heap.size+1) B wr w6:=(SameX.gr G5' (by omega)).trans (SameX.of (fun b _ hb=>hkeep b hb));have B6:=(G5'.blk HST.out.box hgB).of (hkeep _ (by omega));have HC6:=hid (C5.keep (fun b hb=>hkeep b (by omega)):Cur hi w6 B);have HG6:=hid (((HST.out.gr.trans G5').ext y6).step hg (fun k hk=>by have:=hv3 k hk;simp;omega):Gr B (w.alloc (.cells #[(),.slice none 0 0] 27)) w6);have HO6:=hid hown;have c2':=B6.cell 1 rfl;have f2':=B6.free 1;have z4:=B6.lt;have HB6:=hid B6;clear hg hown own5 B6 hv3 hkeep C3 G3 G3' C4 G4 B4 y4 C5 G5 G5' y6;go_wp2_with fail;refine hK _ _ (.inr X6) ?_;clear hK K X6;refine wpStagesX_cons ?_;simp only [List.filterMap_cons,List.filterMap_nil,List.getElem?_toArray,List.getElem?_cons_zero,List.getElem?_cons_succ]
   show wpQuiet _ _ _ _ [_] _
   try simp only [Act.put,List.getElem_toArray,List.getElem_cons_succ,List.getElem_cons_zero,List.setIfInBounds_toArray,List.set_cons_succ,List.set_cons_zero]
   repeat (go_big_quiet_step (fail))
   refine wpQuiet_nil ⟨_,rfl,fun K hK=>?_⟩;go_wp2;refine hK _ _ (.inl (by trivial)) (wpStagesX_nil ?_);clear hK K;go_wp2
   go_roundg (gk - 1)
   case measure=>omega
   case rel=>
    refine ⟨_,px++[q],by go_num,by rw [List.length_append,HN.out];simp;omega,⟨HG6.out.setNew (by simp;omega) _ _,HST.out.low,HC6.out.setNew (by omega) _ _,HB6.out.set 1 _,HO6.out.setLow (by simp) _,?_⟩⟩;intro y hy
    rcases List.mem_append.1 hy with h|h
    ·exact HST.out.all y h
    ·simp at h;subst h;exact hq256
  ·have hst:=HST.out
   have R0:=hst.gr.blk (Blk.new w 27 [(),.slice none 0 0]) (by omega);obtain ⟨r0,r1⟩:=R0.q2;have f0:=R0.free 0;have f1:=R0.free 1;have zr:=R0.lt;have b0:=hst.box.cell 0 rfl;have hgl:=hst.low;rw [World.size_alloc] at hgl
   have iL:I64 L:=⟨by omega,by omega⟩
   obtain rfl:n=px.length:=HN.out.symm
   have hgk:gk=0:=by omega
   have HK:=hid hgk;have HPx:=hid (by omega:px.length=P);clear hst hgk hk;go_wp2;refine bodyPost_ret (v:=.agg #[L,.slice av px.length cv]) (by simp [results,Tryz.results138,go_sem, *]) rfl ⟨_,rfl,⟨L,px⟩,⟨_,rfl,iL,?_⟩,⟨L0,hL4,?_,HST.out.all⟩,?_,?_⟩
   ·exact ((HST.out.own.setLow (by simp;omega) _).setLow (by simp;omega) _).low (by omega)
   ·show px.length=2 ^ L.toNat*2 ^ L.toNat
    rw [hm.out,hP.out,HPx.out]
   ·exact (HST.out.cur.setNew (by omega) _ _).setNew (by omega) _ _
   ·exact ((((Gr.refl B w).ext (show Ext w (w.alloc (.cells #[(),.slice none 0 0] 27)) from X_)).trans HST.out.gr).setNew (Nat.le_refl _) _ _).setNew (Nat.le_refl _) _ _
def SmF (f:Nat->Int):Prop:=∀i,-1000<=f i/\f i<=1000
theorem SmF.put {f:Nat->Int} (h:SmF f) (i:Nat) {x:Int} (hx : -1000<=x/\x<=1000):SmF (fun j=>if j=i then x else f j):=fun j=>by
 show -1000<=(if j=i then x else f j)/\(if j=i then x else f j)<=1000
 split
 ·exact hx
 ·exact h j
def Z60 (k:Nat) (f:Nat->Int):Prop:=∀i,i<k->60<=f (3*i+2)
theorem Z60.put3 {k:Nat} {f:Nat->Int} (h:Z60 k f) {p q r:Nat} {a b z:Int} (h0:p=3*k) (h1:q=3*k+1) (h2:r=3*k+2) (hz:60<=z):Z60 (k+1) (fun j=>if j=r then z else (fun j=>if j=q then b else (fun j=>if j=p then a else f j) j) j):=fun i hi=>by
 by_cases e:i=k
 ·subst e
  show 60<=(if 3*i+2=r then z else _)
  rw [if_pos h2.symm];exact hz
 ·show 60<=(if 3*i+2=r then z else if 3*i+2=q then b else if 3*i+2=p then a else f (3*i+2))
  rw [if_neg (by omega),if_neg (by omega),if_neg (by omega)];exact h i (by omega)
theorem RowI.put1 {w:World} {b:Nat} {t:TypeId} {n:Nat} {f:Nat->Int} (h:RowI w b t n f) (i:Nat) (x:Int):RowI (w.setCell ⟨b,i,none⟩ x) b t n (fun j=>if j=i then x else f j):=by
 have:=World.rowIs.set h i (.int .i64 x);refine World.rowIs.congr this fun j hj=>?_
 show _=Value.int .i64 (if j=i then x else f j)
 split <;> rfl
theorem twelve1 {i:Nat} (h:i<12):i=0\/i=1\/i=2\/i=3\/i=4\/i=5\/i=6\/i=7\/i=8\/i=9\/i=10\/i=11:=by omega
theorem row12_zero {w:World} {b:Nat} {t:TypeId} (hb:w.heap.size=b):RowI (w.alloc (.cells #[(),(),(),(),(),(),(),(),(),(),(),()] t)) b t 12 (fun _=>0):=
 hb▸World.rowIs_alloc _ _ _ _ fun i hi=>by rcases twelve1 hi with h|h|h|h|h|h|h|h|h|h|h|h <;> subst h <;> rfl
theorem l05Draw_z (hi B:Nat) (w:World) (hc:Cur hi w B):Calls Tryz.prog 141 #[.pointer (some ⟨B,0,none⟩)] w fun e w'=>∃f:Nat->Int,e = .returned (.agg #[(f 0),(f 1),(f 2),(f 3),(f 4),(f 5),(f 6),(f 7),(f 8),(f 9),(f 10),(f 11)])/\SmF f/\Z60 4 f/\Cur hi w' B/\Gr B w w':=by
 have HC0:=hid hc;have zB:=hc.lt;have A0:=row12_zero (w:=w) (t:=40) rfl;have A1:=row12_zero (w:=w.alloc (.cells #[(),(),(),(),(),(),(),(),(),(),(),()] 40)) (t:=40) (b:=w.heap.size+1) (World.size_alloc _ _);have HA0:=hid (A0.alloc (.cells #[(),(),(),(),(),(),(),(),(),(),(),()] 40));have HA1:=hid A1;have x1:Ext w ((w.alloc (.cells #[(),(),(),(),(),(),(),(),(),(),(),()] 40)).alloc (.cells #[(),(),(),(),(),(),(),(),(),(),(),()] 40)):=X_;have HX1:=hid x1;have HC1:=hid (hc.ext x1);clear hc A0 A1 x1;go_enter Tryz.func141,Tryz.ntmps141;go_wp2_with fail;refine (l01Below_any hi B 160 _ HC1.out (by decide) ⟨by decide,by decide⟩).mono ?_;rintro e w3 ⟨x,rfl,hx,C3,G3⟩;go_wp2_with fail;refine (l01Below_any hi B 160 _ C3 (by decide) ⟨by decide,by decide⟩).mono ?_;rintro e w4 ⟨y,rfl,hy,C4,G4⟩;go_wp2_with fail;refine (l01Below_any hi B 200 _ C4 (by decide) ⟨by decide,by decide⟩).mono ?_;rintro e w5 ⟨z,rfl,hz,C5,G5⟩;have G6:=(G3.trans G4).trans G5;have HG6:=hid ((Gr.refl B w).ext HX1.out |>.trans G6);have HR6:=hid (HA1.out.of (G6.block _ HA1.out.lt (by simp;omega)));have HQ6:=hid (HA0.out.of (G6.block _ HA0.out.lt (by simp;omega)));have HC6:=hid C5;clear C3 G3 C4 G4 C5 G5 G6 HC1 HX1 HA0 HA1 HC0;go_wp2_with fail
 go_loopw [18] (fun i wr=>∃k:Nat,k<=4/\i = .int .i64 (k:Nat)/\∃f,RowI wr w.heap.size 40 12 (fun _=>0)/\RowI wr (w.heap.size+1) 40 12 f/\SmF f/\Z60 k f/\Cur hi wr B/\Gr B w wr) (fun i _=>4 - (intOf i).toNat)
 case atStart=>exact ⟨0,by omega,rfl,fun _=>0,HQ6.out,HR6.out,(fun i=>⟨by show (-1000:Int)<=0;decide,by show (0:Int)<=1000;decide⟩),(fun i hi=>absurd hi (by omega)),HC6.out,HG6.out⟩
 case round=>
  obtain ⟨k,hk,rfl,f,hq,hr,hf,hz6,C,G⟩:=hrel;have HQ:=hid hq;have HR:=hid hr;have HC:=hid C;have HG:=hid G;clear hq hr C G HR6 HC6 HG6 HQ6
  by_cases hlt:k<4
  ·have hk4:k=0\/k=1\/k=2\/k=3:=by omega
   rcases hk4 with h|h|h|h <;> subst h
   ·go_wp2_with fail
    refine (l01Below_any hi B 60 _ HC.out (by decide) ⟨by decide,by decide⟩).mono ?_;rintro e w3 ⟨a3,rfl,ha3,C3,G3⟩;go_wp2_with fail;refine (l01Below_any hi B 60 _ C3 (by decide) ⟨by decide,by decide⟩).mono ?_;rintro e w4 ⟨a4,rfl,ha4,C4,G4⟩;go_wp2_with fail;refine (l01Below_any hi B 30 _ C4 (by decide) ⟨by decide,by decide⟩).mono ?_;rintro e w5 ⟨a5,rfl,ha5,C5,G5⟩;have G6:=(G3.trans G4).trans G5;have HC6:=hid C5;have HG6:=hid (HG.out.trans G6);have HR6:=hid (HR.out.of (G6.block _ HR.out.lt (by simp;omega)));have HQ6:=hid (HQ.out.of (G6.block _ HQ.out.lt (by simp;omega)));have e0:=HR6.out.frozen 0;have e1:=HR6.out.frozen 1;have e2:=HR6.out.frozen 2;have d0:=HR6.out.cell (i:=0) (by decide);have d1:=HR6.out.cell (i:=1) (by decide);have d2:=HR6.out.cell (i:=2) (by decide);have s6:=HR6.out.lt;clear C3 G3 C4 G4 C5 G5 G6 HC HG HR HQ;go_wp2;go_roundw
    case rel=>exact ⟨1,by omega,by go_num,_,((HQ6.out.other (by simp) _).other (by simp) _).other (by simp) _,((HR6.out.put1 0 _).put1 1 _).put1 2 _,((hf.put 0 (by omega)).put 1 (by omega)).put 2 (by omega),hz6.put3 (by omega) (by omega) (by omega) (by omega),((HC6.out.setNew (by omega) _ _).setNew (by omega) _ _).setNew (by omega) _ _,((HG6.out.setNew (by omega) _ _).setNew (by omega) _ _).setNew (by omega) _ _⟩
    case measure=>simp [intOf]
   ·go_wp2_with fail
    refine (l01Below_any hi B 60 _ HC.out (by decide) ⟨by decide,by decide⟩).mono ?_;rintro e w3 ⟨a3,rfl,ha3,C3,G3⟩;go_wp2_with fail;refine (l01Below_any hi B 60 _ C3 (by decide) ⟨by decide,by decide⟩).mono ?_;rintro e w4 ⟨a4,rfl,ha4,C4,G4⟩;go_wp2_with fail;refine (l01Below_any hi B 30 _ C4 (by decide) ⟨by decide,by decide⟩).mono ?_;rintro e w5 ⟨a5,rfl,ha5,C5,G5⟩;have G6:=(G3.trans G4).trans G5;have HC6:=hid C5;have HG6:=hid (HG.out.trans G6);have HR6:=hid (HR.out.of (G6.block _ HR.out.lt (by simp;omega)));have HQ6:=hid (HQ.out.of (G6.block _ HQ.out.lt (by simp;omega)));have e0:=HR6.out.frozen 3;have e1:=HR6.out.frozen 4;have e2:=HR6.out.frozen 5;have d0:=HR6.out.cell (i:=3) (by decide);have d1:=HR6.out.cell (i:=4) (by decide);have d2:=HR6.out.cell (i:=5) (by decide);have s6:=HR6.out.lt;clear C3 G3 C4 G4 C5 G5 G6 HC HG HR HQ;go_wp2;go_roundw
    case rel=>exact ⟨2,by omega,by go_num,_,((HQ6.out.other (by simp) _).other (by simp) _).other (by simp) _,((HR6.out.put1 3 _).put1 4 _).put1 5 _,((hf.put 3 (by omega)).put 4 (by omega)).put 5 (by omega),hz6.put3 (by omega) (by omega) (by omega) (by omega),((HC6.out.setNew (by omega) _ _).setNew (by omega) _ _).setNew (by omega) _ _,((HG6.out.setNew (by omega) _ _).setNew (by omega) _ _).setNew (by omega) _ _⟩
    case measure=>simp [intOf]
   ·go_wp2_with fail
    refine (l01Below_any hi B 60 _ HC.out (by decide) ⟨by decide,by decide⟩).mono ?_;rintro e w3 ⟨a3,rfl,ha3,C3,G3⟩;go_wp2_with fail;refine (l01Below_any hi B 60 _ C3 (by decide) ⟨by decide,by decide⟩).mono ?_;rintro e w4 ⟨a4,rfl,ha4,C4,G4⟩;go_wp2_with fail;refine (l01Below_any hi B 30 _ C4 (by decide) ⟨by decide,by decide⟩).mono ?_;rintro e w5 ⟨a5,rfl,ha5,C5,G5⟩;have G6:=(G3.trans G4).trans G5;have HC6:=hid C5;have HG6:=hid (HG.out.trans G6);have HR6:=hid (HR.out.of (G6.block _ HR.out.lt (by simp;omega)));have HQ6:=hid (HQ.out.of (G6.block _ HQ.out.lt (by simp;omega)));have e0:=HR6.out.frozen 6;have e1:=HR6.out.frozen 7;have e2:=HR6.out.frozen 8;have d0:=HR6.out.cell (i:=6) (by decide);have d1:=HR6.out.cell (i:=7) (by decide);have d2:=HR6.out.cell (i:=8) (by decide);have s6:=HR6.out.lt;clear C3 G3 C4 G4 C5 G5 G6 HC HG HR HQ;go_wp2;go_roundw
    case rel=>exact ⟨3,by omega,by go_num,_,((HQ6.out.other (by simp) _).other (by simp) _).other (by simp) _,((HR6.out.put1 6 _).put1 7 _).put1 8 _,((hf.put 6 (by omega)).put 7 (by omega)).put 8 (by omega),hz6.put3 (by omega) (by omega) (by omega) (by omega),((HC6.out.setNew (by omega) _ _).setNew (by omega) _ _).setNew (by omega) _ _,((HG6.out.setNew (by omega) _ _).setNew (by omega) _ _).setNew (by omega) _ _⟩
    case measure=>simp [intOf]
   ·go_wp2_with fail
    refine (l01Below_any hi B 60 _ HC.out (by decide) ⟨by decide,by decide⟩).mono ?_;rintro e w3 ⟨a3,rfl,ha3,C3,G3⟩;go_wp2_with fail;refine (l01Below_any hi B 60 _ C3 (by decide) ⟨by decide,by decide⟩).mono ?_;rintro e w4 ⟨a4,rfl,ha4,C4,G4⟩;go_wp2_with fail;refine (l01Below_any hi B 30 _ C4 (by decide) ⟨by decide,by decide⟩).mono ?_;rintro e w5 ⟨a5,rfl,ha5,C5,G5⟩;have G6:=(G3.trans G4).trans G5;have HC6:=hid C5;have HG6:=hid (HG.out.trans G6);have HR6:=hid (HR.out.of (G6.block _ HR.out.lt (by simp;omega)));have HQ6:=hid (HQ.out.of (G6.block _ HQ.out.lt (by simp;omega)));have e0:=HR6.out.frozen 9;have e1:=HR6.out.frozen 10;have e2:=HR6.out.frozen 11;have d0:=HR6.out.cell (i:=9) (by decide);have d1:=HR6.out.cell (i:=10) (by decide);have d2:=HR6.out.cell (i:=11) (by decide);have s6:=HR6.out.lt;clear C3 G3 C4 G4 C5 G5 G6 HC HG HR HQ;go_wp2;go_roundw
    case rel=>exact ⟨4,by omega,by go_num,_,((HQ6.out.other (by simp) _).other (by simp) _).other (by simp) _,((HR6.out.put1 9 _).put1 10 _).put1 11 _,((hf.put 9 (by omega)).put 10 (by omega)).put 11 (by omega),hz6.put3 (by omega) (by omega) (by omega) (by omega),((HC6.out.setNew (by omega) _ _).setNew (by omega) _ _).setNew (by omega) _ _,((HG6.out.setNew (by omega) _ _).setNew (by omega) _ _).setNew (by omega) _ _⟩
    case measure=>simp [intOf]
  ·obtain rfl:k=4:=by omega
   have d0:=HR.out.cell (i:=0) (by decide);have e0:=HQ.out.frozen 0;have q0:=HQ.out.cell (i:=0) (by decide);have d1:=HR.out.cell (i:=1) (by decide);have e1:=HQ.out.frozen 1;have q1:=HQ.out.cell (i:=1) (by decide);have d2:=HR.out.cell (i:=2) (by decide);have e2:=HQ.out.frozen 2;have q2:=HQ.out.cell (i:=2) (by decide);have d3:=HR.out.cell (i:=3) (by decide);have e3:=HQ.out.frozen 3;have q3:=HQ.out.cell (i:=3) (by decide);have d4:=HR.out.cell (i:=4) (by decide);have e4:=HQ.out.frozen 4;have q4:=HQ.out.cell (i:=4) (by decide);have d5:=HR.out.cell (i:=5) (by decide);have e5:=HQ.out.frozen 5;have q5:=HQ.out.cell (i:=5) (by decide);have d6:=HR.out.cell (i:=6) (by decide);have e6:=HQ.out.frozen 6;have q6:=HQ.out.cell (i:=6) (by decide);have d7:=HR.out.cell (i:=7) (by decide);have e7:=HQ.out.frozen 7;have q7:=HQ.out.cell (i:=7) (by decide);have d8:=HR.out.cell (i:=8) (by decide);have e8:=HQ.out.frozen 8;have q8:=HQ.out.cell (i:=8) (by decide);have d9:=HR.out.cell (i:=9) (by decide);have e9:=HQ.out.frozen 9;have q9:=HQ.out.cell (i:=9) (by decide);have d10:=HR.out.cell (i:=10) (by decide);have e10:=HQ.out.frozen 10;have q10:=HQ.out.cell (i:=10) (by decide);have d11:=HR.out.cell (i:=11) (by decide);have e11:=HQ.out.frozen 11;have q11:=HQ.out.cell (i:=11) (by decide);have zq:=HQ.out.lt;have zr:=HR.out.lt;go_wp2;refine bodyPost_ret (v:=.agg #[(f 0),(f 1),(f 2),(f 3),(f 4),(f 5),(f 6),(f 7),(f 8),(f 9),(f 10),(f 11)]) (by simp [results,Tryz.results141,go_sem, *]) rfl ?_;exact ⟨f,rfl,hf,hz6,((((((((((((HC.out.setNew (by omega) _ _).setNew (by omega) _ _).setNew (by omega) _ _).setNew (by omega) _ _).setNew (by omega) _ _).setNew (by omega) _ _).setNew (by omega) _ _).setNew (by omega) _ _).setNew (by omega) _ _).setNew (by omega) _ _).setNew (by omega) _ _).setNew (by omega) _ _),((((((((((((HG.out.setNew (Nat.le_refl _) _ _).setNew (Nat.le_refl _) _ _).setNew (Nat.le_refl _) _ _).setNew (Nat.le_refl _) _ _).setNew (Nat.le_refl _) _ _).setNew (Nat.le_refl _) _ _).setNew (Nat.le_refl _) _ _).setNew (Nat.le_refl _) _ _).setNew (Nat.le_refl _) _ _).setNew (Nat.le_refl _) _ _).setNew (Nat.le_refl _) _ _).setNew (Nat.le_refl _) _ _)⟩
structure Pt where
 u:Int
 v:Int
 x:Int
 y:Int
 z:Int
def Pt.ls (p:Pt):List Int:=[p.u,p.v,p.x,p.y,p.z]
def Pt.cs (p:Pt):List Value:=[p.u,p.v,p.x,p.y,p.z]
def Pt.Sm (p:Pt):Prop:=∀x∈p.ls,-1000<=x/\x<=1000
def OwnPts (lo:Nat) (w:World) (v:Value) (xs:List Pt):Prop:=OwnG Pt.cs lo 200 5 w v xs
theorem info_PointT:(Tryz.prog.info? 200).map (fun i=>(i.zero,i.size,i.bytes))=some (some (.agg #[(),(),(),(),()]),5,40):=by kernel_rfl
theorem wpList_append_pt (w:World) {ops:Array Oper} {rest:List Oper} {o:Oper} {a:Act} {Q:Exit->Act->World->Prop} (hg:o.guard=none) (s x:Operand)
  (hop:o.op=Op.call { callee:=Callee.builtin Builtin.append,args:=#[s,x],argTypes:=#[133,133] }) (lo:Nat) (v:Value) (xs:List Pt) (hs:a.eval s=v) (hown:OwnPts lo w v xs)
  (y:Pt) (b:Nat) (hx:a.eval x = .slice (some ⟨b,0,none⟩) 1 1) (hcell:∀j,j<5->w.cell? ⟨b,j,none⟩=y.cs[j]?) (hlen:xs.length<1000000) (hlo:lo<=w.heap.size)
  (hK:∀v' w',OwnPts lo w' v' (xs++[y])->w.grownBy w' v.ownBlock->wpList Tryz.prog ops Q rest (a.put o.dst v') w'):wpList Tryz.prog ops Q (o::rest) a w:=by
 refine wpList_append_elt Pt.cs 200 5 40 _ w hg s x 133 hop Tryz.underlying133 info_PointT rfl (by decide) (by decide) (fun _=>rfl) lo v xs hs hown y b hx hcell ?_ hlen hlo hK;intro u hu;simp only [Pt.cs,List.mem_cons,List.not_mem_nil,or_false] at hu
 rcases hu with rfl|rfl|rfl|rfl|rfl <;> rfl
def ptF (ps:List Pt) (k:Nat):Int:=match ps[k / 5]? with|some p=>p.ls.getD (k % 5) 0|none=>0
theorem ptF_small {ps:List Pt} (h:∀p∈ps,p.Sm) (k:Nat) : -1000<=ptF ps k/\ptF ps k<=1000:=by
 unfold ptF
 cases hp:ps[k / 5]? with
 | none=>exact ⟨show (-1000:Int)<=0 by decide,show (0:Int)<=1000 by decide⟩
 | some p=>
  have hm:=h p (List.mem_of_getElem? hp)
  have hl:k % 5<p.ls.length:=by
   have:=Nat.mod_lt k (show 0<5 by decide);exact this
  show -1000<=p.ls.getD (k % 5) 0/\p.ls.getD (k % 5) 0<=1000
  rw [List.getD_eq_getElem?_getD,List.getElem?_eq_getElem hl];exact hm _ (List.getElem_mem hl)
theorem Pt.cs_at (p:Pt) {j:Nat} (hj:j<5):p.cs[j]?=some (.int .i64 (p.ls.getD j 0)):=by
 rcases (show j=0\/j=1\/j=2\/j=3\/j=4 by omega) with rfl|rfl|rfl|rfl|rfl <;> rfl
theorem OwnPts.flats {lo:Nat} {w:World} {v:Value} {ps:List Pt} (h:OwnPts lo w v ps) (hs:∀p∈ps,p.Sm):Flats 5 lo w.heap.size w v ps.length (ptF ps):=by
 obtain ⟨a,c,rfl,_⟩:=OwnG.form h
 have hc:ps.length<=c/\c<=maxLen:=by
  rcases h.2 with ⟨e,h4⟩|⟨g,cap,cur,e,hb,hh,hc,hm,_⟩
  ·simp only [Value.slice.injEq] at e
   obtain ⟨rfl,e2,rfl⟩:=e;exact ⟨by omega,by unfold maxLen;omega⟩
  ·simp only [Value.slice.injEq] at e
   obtain ⟨rfl,e2,rfl⟩:=e;exact ⟨hc,hm⟩
 refine ⟨a,c,rfl,hc.1,hc.2,fun i hi=>?_⟩
 have hk:i / 5<ps.length:=by omega
 obtain ⟨g,cap,e,g1,g2,_,_,_,hcell⟩:=OwnG.at h (fun _=>rfl) (List.getElem?_eq_getElem hk);simp only [Value.slice.injEq] at e;obtain ⟨rfl,_,rfl⟩:=e;have hm:=Nat.mod_lt i (show 0<5 by decide);have hb:=ptF_small hs i;refine ⟨⟨by omega,by omega⟩,g,0,rfl,g1,g2,?_⟩;have h1:=hcell (i % 5) hm;rw [Pt.cs_at _ hm] at h1
 have e1:i / 5*5+i % 5=0+i:=by omega
 rw [e1] at h1;rw [h1];unfold ptF;rw [List.getElem?_eq_getElem hk]
section
open Go.RowKit Go.Shelf
attribute [local go_sem] Oper.semAt_some
def ptG (f:Nat->Int) (n i j:Nat):Pt:=⟨(i:Int)*256 / (n:Int),(j:Int)*256 / (n:Int),(evP f i j n).x,(evP f i j n).y,(evP f i j n).z⟩
def ptsG (f:Nat->Int) (n:Nat) (pre:List (Fin n×Fin n)):List Pt:=pre.map fun p=>ptG f n p.1 p.2
theorem ptsG_snoc (f:Nat->Int) (n:Nat) (pre:List (Fin n×Fin n)) (x:Fin n×Fin n):ptsG f n (pre++[x])=ptsG f n pre++[ptG f n x.1 x.2]:=by
 unfold ptsG;rw [List.map_append,List.map_singleton]
theorem ptsG_all (f:Nat->Int) (n:Nat) (hn:0<n) {i:Nat} {x:Pt} (h:(ptsG f n (cellsTo n hn (n*n)))[i]?=some x):x=ptG f n (i % n) (i / n):=by
 unfold ptsG cellsTo at h;rw [List.map_map,List.getElem?_map] at h;obtain ⟨q,hq,rfl⟩:=Option.map_eq_some_iff.1 h;obtain ⟨hl,rfl⟩:=List.getElem?_eq_some_iff.1 hq;rw [List.length_range] at hl;rw [List.getElem_range];have hd:i / n<n:=Nat.div_lt_of_lt_mul hl
 show ptG f n (i % n) (i / n % n)=_
 rw [Nat.mod_eq_of_lt hd]
theorem gridF_at (f:Nat->Int) (n q k:Nat) (hk:k<5):gridF f n (q*5+k)=(ptG f n (q % n) (q / n)).ls.getD k 0:=by
 have e1:(q*5+k) / 5=q:=by omega
 have e2:(q*5+k) % 5=k:=by omega
 unfold gridF;rw [e1,e2]
 rcases (show k=0\/k=1\/k=2\/k=3\/k=4 by omega) with rfl|rfl|rfl|rfl|rfl <;> rfl
theorem evC_bd {a b c d i j n:Int} (hn:1<=n) (hi:0<=i/\i<=n) (hj:0<=j/\j<=n) : -1000000<=evC a b c d i j n/\evC a b c d i j n<=1000000:=
 ⟨evC_lo hn hi hj (cl_bd _).1 (cl_bd _).1 (cl_bd _).1 (cl_bd _).1,evC_hi hn hi hj (cl_bd _).2 (cl_bd _).2 (cl_bd _).2 (cl_bd _).2⟩
theorem uv_bd {i n:Nat} (h1:1<=n) (h:i<n):0<=((i:Int)*256 / (n:Int))/\((i:Int)*256 / (n:Int))<=256:=
 ⟨Int.ediv_nonneg (by omega) (by omega),Int.ediv_le_of_le_mul (by omega) (by omega)⟩
theorem ptG_bd (f:Nat->Int) {n i j:Nat} (h1:1<=n) (hi:i<n) (hj:j<n):∀x∈(ptG f n i j).ls,-1000000<=x/\x<=1000000:=by
 intro x hx;have u:=uv_bd h1 hi;have v:=uv_bd h1 hj;simp only [ptG,Pt.ls,evP,List.mem_cons,List.not_mem_nil,or_false] at hx
 rcases hx with rfl|rfl|rfl|rfl|rfl
 ·omega
 ·omega
 ·exact evC_bd (by omega) (by omega) (by omega)
 ·exact evC_bd (by omega) (by omega) (by omega)
 ·exact evC_bd (by omega) (by omega) (by omega)
theorem gridP_ok {f:Nat->Int} {n:Nat} {t:Tex} (hn:1<=n/\n<=8) (ht:t.okB=true):(gridP f n t).okB=true:=by
 unfold Grd.okB gridP;simp only [Bool.and_eq_true,inB_iff,decide_eq_true_eq,List.all_eq_true,List.mem_range];refine ⟨⟨⟨⟨⟨by omega,by omega⟩,by rw [Int.natCast_mul]⟩,by decide,by decide⟩,ht⟩,fun q hq=>?_⟩;unfold ptB;rw [List.all_eq_true];intro x hx;have hu:q % n<n:=Nat.mod_lt _ (by omega);have hv:q / n<n:=Nat.div_lt_of_lt_mul hq;refine inB_iff.2 (ptG_bd f hn.1 hu hv x ?_);have e0:=gridF_at f n q 0 (by decide);have e1:=gridF_at f n q 1 (by decide);have e2:=gridF_at f n q 2 (by decide);have e3:=gridF_at f n q 3 (by decide);have e4:=gridF_at f n q 4 (by decide);simp only [ptL,List.mem_cons,List.not_mem_nil,or_false] at hx;simp only [Pt.ls,List.getD_cons_zero,List.getD_cons_succ,Nat.add_zero] at e0 e1 e2 e3 e4;simp only [Pt.ls,List.mem_cons,List.not_mem_nil,or_false]
 rcases hx with rfl|rfl|rfl|rfl|rfl
 ·exact .inl e0
 ·exact .inr (.inl e1)
 ·exact .inr (.inr (.inl e2))
 ·exact .inr (.inr (.inr (.inl e3)))
 ·exact .inr (.inr (.inr (.inr e4)))
theorem tex_len {t:Tex} (h:t.okB=true):1<=t.px.length/\t.px.length<=1000:=by
 have h:=Tex.okB_iff.1 h;obtain ⟨h0,h4,hl,-⟩:=h;have h1:=h0;rw [hl];unfold Tex.n
 have:t.log=0\/t.log=1\/t.log=2\/t.log=3\/t.log=4:=by omega
 rcases this with e|e|e|e|e <;> rw [e] <;> decide
theorem cloneIntsL (l1 lo hi:Nat) (u:Value) (xs:List Int) (w:World) (hu:Ints lo hi w u xs) (hh:hi<=w.heap.size) (h1:1<=xs.length) (h2:xs.length<=1000) (hl:l1<=w.heap.size) :
  Calls Tryz.prog 61 #[u] w fun e w'=>∃v',e = .returned v'/\OwnInts l1 w' v' xs/\Ext w w':=(cloneIntsB lo hi u xs w hu hh h1 h2).mono (by rintro e w' ⟨v',h1,h2,h3⟩;exact ⟨v',h1,h2.low hl,h3⟩)
theorem info_GridB:(Tryz.prog.info? 135).map (fun i=>i.size)=some 5:=by kernel_rfl
theorem TuR.open {lo:Nat} {w:World} {v:Value} {xs:List Int} (h:TuR lo w v xs):∃g cs,Blk w g 3 cs/\∀w',Blk w' g 3 cs->OwnInts lo w' v xs:=by
 obtain ⟨g,cs,_,h2,h3⟩:=h;exact ⟨g,cs,h2,h3⟩
def CGr (w A m:Nat):Addr->Prop:=fun a=>a.block=w+1\/a.block=A\/a.block=m
@[go_sem] theorem CGr_of {w A m k o:Nat} (h:k=w+1\/k=A\/k=m):CGr w A m ⟨k,o,none⟩:=h
def grF (f:Nat->Int) (n:Nat) (t:Tex) (a:Option Addr) (cap w g:Nat) (cs:List Value) (nb:Nat):List (Nat×TypeId×List Value):=
 [(w,40,[(f 0),(f 1),(f 2),(f 3),(f 4),(f 5),(f 6),(f 7),(f 8),(f 9),(f 10),(f 11)]),(w+1,3,[(n:Nat)]),(w+1+1,27,[t.log,.slice a t.px.length cap]),(w+1+1+1,135,[(),.slice none 0 0,(),(),.slice none 0 0]),(g,3,cs),(nb,3,[(n:Nat)])]
theorem grF_ne {f:Nat->Int} {n:Nat} {t:Tex} {a:Option Addr} {cap w g:Nat} {cs:List Value} {nb A:Nat} (h1:w+4<=A) (h2:g≠A) (h3:nb≠A):∀p∈grF f n t a cap w g cs nb,p.2.1≠200/\p.1≠A:=by
 intro p hp;simp only [grF,List.mem_cons,List.not_mem_nil,or_false] at hp
 rcases hp with rfl|rfl|rfl|rfl|rfl|rfl <;> exact ⟨by simp,by simp only [ne_eq];omega⟩
theorem iGridOf_any (lo hi:Nat) (f:Nat->Int) (hf:patB f=true) (n:Nat) (hn:1<=n/\n<=8) (tv:Value) (t:Tex) (w:World) (ht:TexR lo hi w tv t) (hh:hi<=w.heap.size) (hok:t.okB=true) :
  Calls Tryz.prog 95 #[.agg #[(f 0),(f 1),(f 2),(f 3),(f 4),(f 5),(f 6),(f 7),(f 8),(f 9),(f 10),(f 11)],(n:Nat),(),tv] w fun e w'=>∃v,e = .returned (.tuple #[v,.bool true])/\(gridP f n t).R w.heap.size w'.heap.size w' v/\Ext w w':=by
 obtain ⟨tu,rfl,tlog,hu⟩:=ht;have HU:=hid hu;obtain ⟨a,cap,rfl,HA⟩:=hu.open;have hpx:=(tex_len hok).1;have hpx2:=(tex_len hok).2;have HOK:=hid hok;have HF:=hid hf;have HTL:=hid tlog;clear hu HA hf hok tlog;have C0:∀W:World,Calls Tryz.prog 157 #[(n:Nat)] W fun e w'=>e = .returned (.func (.func 219) #[] #[.pointer (some ⟨W.heap.size,0,none⟩)])/\w'=W.alloc (.cells #[(n:Nat)] 3):=fun W=>(callsIn_wide (n:=0)).1 (cells_val n 0 W);have C2:=hid C0;clear C0;have I1:=hid (inB_iff.2 (show (1:Int)<=(n:Int)/\(n:Int)<=8 by omega))
 have hn0:0<n:=by omega
 have q0:=Blk.new w 40 [(f 0),(f 1),(f 2),(f 3),(f 4),(f 5),(f 6),(f 7),(f 8),(f 9),(f 10),(f 11)];have q1:=Blk.new (w.alloc (.cells #[(f 0),(f 1),(f 2),(f 3),(f 4),(f 5),(f 6),(f 7),(f 8),(f 9),(f 10),(f 11)] 40)) 3 [(n:Nat)];have q2:=Blk.new ((w.alloc (.cells #[(f 0),(f 1),(f 2),(f 3),(f 4),(f 5),(f 6),(f 7),(f 8),(f 9),(f 10),(f 11)] 40)).alloc (.cells #[(n:Nat)] 3)) 27 [t.log,.slice a t.px.length cap];have q3:=Blk.new (((w.alloc (.cells #[(f 0),(f 1),(f 2),(f 3),(f 4),(f 5),(f 6),(f 7),(f 8),(f 9),(f 10),(f 11)] 40)).alloc (.cells #[(n:Nat)] 3)).alloc (.cells #[t.log,.slice a t.px.length cap] 27)) 135 [(),.slice none 0 0,(),(),.slice none 0 0];simp only [World.size_alloc] at q1 q2 q3;have r0:=q0.ext (show Ext (w.alloc (.cells #[(f 0),(f 1),(f 2),(f 3),(f 4),(f 5),(f 6),(f 7),(f 8),(f 9),(f 10),(f 11)] 40)) ((((w.alloc (.cells #[(f 0),(f 1),(f 2),(f 3),(f 4),(f 5),(f 6),(f 7),(f 8),(f 9),(f 10),(f 11)] 40)).alloc (.cells #[(n:Nat)] 3)).alloc (.cells #[t.log,.slice a t.px.length cap] 27)).alloc (.cells #[(),.slice none 0 0,(),(),.slice none 0 0] 135)) from X_);have R0:=hid r0;have r1:=q1.ext (show Ext ((w.alloc (.cells #[(f 0),(f 1),(f 2),(f 3),(f 4),(f 5),(f 6),(f 7),(f 8),(f 9),(f 10),(f 11)] 40)).alloc (.cells #[(n:Nat)] 3)) ((((w.alloc (.cells #[(f 0),(f 1),(f 2),(f 3),(f 4),(f 5),(f 6),(f 7),(f 8),(f 9),(f 10),(f 11)] 40)).alloc (.cells #[(n:Nat)] 3)).alloc (.cells #[t.log,.slice a t.px.length cap] 27)).alloc (.cells #[(),.slice none 0 0,(),(),.slice none 0 0] 135)) from X_);have R1:=hid r1;have r2:=q2.ext (show Ext (((w.alloc (.cells #[(f 0),(f 1),(f 2),(f 3),(f 4),(f 5),(f 6),(f 7),(f 8),(f 9),(f 10),(f 11)] 40)).alloc (.cells #[(n:Nat)] 3)).alloc (.cells #[t.log,.slice a t.px.length cap] 27)) ((((w.alloc (.cells #[(f 0),(f 1),(f 2),(f 3),(f 4),(f 5),(f 6),(f 7),(f 8),(f 9),(f 10),(f 11)] 40)).alloc (.cells #[(n:Nat)] 3)).alloc (.cells #[t.log,.slice a t.px.length cap] 27)).alloc (.cells #[(),.slice none 0 0,(),(),.slice none 0 0] 135)) from X_);have R2:=hid r2;have r3:=q3.ext (show Ext ((((w.alloc (.cells #[(f 0),(f 1),(f 2),(f 3),(f 4),(f 5),(f 6),(f 7),(f 8),(f 9),(f 10),(f 11)] 40)).alloc (.cells #[(n:Nat)] 3)).alloc (.cells #[t.log,.slice a t.px.length cap] 27)).alloc (.cells #[(),.slice none 0 0,(),(),.slice none 0 0] 135)) ((((w.alloc (.cells #[(f 0),(f 1),(f 2),(f 3),(f 4),(f 5),(f 6),(f 7),(f 8),(f 9),(f 10),(f 11)] 40)).alloc (.cells #[(n:Nat)] 3)).alloc (.cells #[t.log,.slice a t.px.length cap] 27)).alloc (.cells #[(),.slice none 0 0,(),(),.slice none 0 0] 135)) from X_);have R3:=hid r3;have X0:=hid (show Ext w ((((w.alloc (.cells #[(f 0),(f 1),(f 2),(f 3),(f 4),(f 5),(f 6),(f 7),(f 8),(f 9),(f 10),(f 11)] 40)).alloc (.cells #[(n:Nat)] 3)).alloc (.cells #[t.log,.slice a t.px.length cap] 27)).alloc (.cells #[(),.slice none 0 0,(),(),.slice none 0 0] 135)) from X_)
 have z0:((((w.alloc (.cells #[(f 0),(f 1),(f 2),(f 3),(f 4),(f 5),(f 6),(f 7),(f 8),(f 9),(f 10),(f 11)] 40)).alloc (.cells #[(n:Nat)] 3)).alloc (.cells #[t.log,.slice a t.px.length cap] 27)).alloc (.cells #[(),.slice none 0 0,(),(),.slice none 0 0] 135)).heap.size=w.heap.size+4:=by simp
 have Z0:=hid z0;clear q0 q1 q2 q3 r0 r1 r2 r3 z0;refine (callsIn_wide (n:=3)).1 ?_;refine callsIn_of_wp_marks Tryz.func95 rfl trivial ?_ rfl;simp only [Tryz.ntmps95,List.size_toArray,List.length_cons,List.length_nil,Nat.reduceAdd,Nat.reduceSub,Array.replicate_succ,Array.replicate_zero,List.push_toArray,List.append_toArray,List.nil_append,List.cons_append];refine wpIn_wide.2 ?_;go_wp2_with fail;refine (iIsValidPatch_any f _).mono ?_;rw [HF.out];rintro e w1 ⟨rfl,x1⟩;have S0:=R0.out.ext x1;have S1:=R1.out.ext x1;have S2:=R2.out.ext x1;have S3:=R3.out.ext x1;have X1:=hid (X0.out.trans x1);have Z1:=hid (show w.heap.size+4<=w1.heap.size by have:=x1.size;have:=Z0.out;omega);have n0:=S1.cell 0 rfl;have l1:=S1.lt;obtain ⟨t0,t1⟩:=S2.q2;have l2:=S2.lt;have H0:=hid S0;have H1:=hid S1;have H2:=hid S2;have H3:=hid S3;clear S0 S1 S2 S3 x1 R0 R1 R2 R3 X0 Z0;go_upto_region 3 with (go_at_call 54;refine (within_val I1.out _).mono ?_;rintro e w2 ⟨rfl,rfl⟩)
 go_cut [10] from 23 to 31 (fun q wx=>∃A sa sc,q = .pointer (some ⟨A,0,none⟩)/\w1.heap.size<=A/\Blk wx A 135 [(n:Nat),.slice none 0 0,(),t.log,.slice sa t.px.length sc]/\TuR w1.heap.size wx (.slice sa t.px.length sc) t.px/\Ext w1 wx)
 case first=>
  refine wp_region_Z 10 w1.heap.size (by kernel_rfl) ?_;refine z2_ (fuel:=4) [0,1,2,3,4,5] 6 9 (fun b _ hb=>rfl) (fun K hK=>?_) fun K hK=>?_
  ·go_wp2_with fail
   refine (cloneIntsL w1.heap.size lo hi _ t.px _ (HU.out.ext hh (X1.out.trans (Ext.drew (Ext.refl _)))) (Nat.le_trans hh (X1.out.trans (Ext.drew (Ext.refl _))).size) hpx hpx2 (Ext.size (Ext.drew (Ext.refl _)))).mono ?_;rintro e a0 ⟨v0,rfl,o0,y0⟩;have u0:Ext w1 a0:=Ext.trans X_ y0;obtain ⟨sa0,sc0,rfl,_⟩:=o0.form;have T0:=o0.tur hpx;clear o0;go_wp2_with fail;refine hK _ _ (.inr (fun b _ hb=>u0.block (by omega))) ?_;clear hK K;refine z1_ (fuel:=1) [7,8] 9 (fun b _ hb=>u0.block (by omega)) fun K hK=>?_;go_wp2;have hA0A:w1.heap.size<=a0.heap.size:=u0.size;refine hK _ _ (.inr (fun b _ hb=>(Ext.block (w:=a0) X_ (by omega)).trans (u0.block (by omega)))) ?_;clear hK K;have yy0A:Ext a0 (a0.alloc (.cells #[(),.slice none 0 0,(),(),.slice none 0 0] 135)):=X_;have b0A:Blk (a0.alloc (.cells #[(),.slice none 0 0,(),(),.slice none 0 0] 135)) (a0.heap.size) 135 [(),.slice none 0 0,(),(),.slice none 0 0]:=Blk.new _ _ _
   obtain ⟨d0A,hd0A⟩:∃d,a0.alloc (.cells #[(),.slice none 0 0,(),(),.slice none 0 0] 135)=d:=⟨_,rfl⟩
   rw [hd0A] at yy0A b0A ⊢;have u0A:Ext w1 d0A:=u0.trans yy0A;have T0A:=T0.ext yy0A;clear hd0A;refine z1_ (fuel:=0) [] 10 (fun b _ hb=>u0A.block (by omega)) fun K hK=>?_;have z0:=b0A.cell 0 rfl;have zf0:=b0A.free 0;have z1:=b0A.cell 1 rfl;have zf1:=b0A.free 1;have z2:=b0A.cell 2 rfl;have zf2:=b0A.free 2;have z3:=b0A.cell 3 rfl;have zf3:=b0A.free 3;have z4:=b0A.cell 4 rfl;have zf4:=b0A.free 4;have zl:=b0A.lt;go_wp2;refine hK _ _ (.inl (by trivial)) ?_;clear hK K;refine wpZ_end (by kernel_rfl) ?_;go_wp2_with fail
   go_meet
   have hlt:=hA0A;exact ⟨a0.heap.size,_,_,rfl,hlt,(((((b0A.set 0 _).set 1 _).set 2 _).set 3 _).set 4 _),(((((T0A.set b0A (by decide) 0 _).set (b0A.set 0 _) (by decide) 1 _).set ((b0A.set 0 _).set 1 _) (by decide) 2 _).set (((b0A.set 0 _).set 1 _).set 2 _) (by decide) 3 _).set ((((b0A.set 0 _).set 1 _).set 2 _).set 3 _) (by decide) 4 _),(Ext.setCell (Ext.setCell (Ext.setCell (Ext.setCell (Ext.setCell u0A (p:=⟨a0.heap.size,0,none⟩) hlt _) (p:=⟨a0.heap.size,1,none⟩) hlt _) (p:=⟨a0.heap.size,2,none⟩) hlt _) (p:=⟨a0.heap.size,3,none⟩) hlt _) (p:=⟨a0.heap.size,4,none⟩) hlt _)⟩
  ·go_wp2
   have hAA:w1.heap.size<=w1.heap.size:=Nat.le_refl _;refine hK _ _ (.inr (fun b _ hb=>Ext.block (w:=w1) X_ (by omega))) ?_;clear hK K;have yyA:Ext w1 ((w1.alloc (.cells #[(),.slice none 0 0,(),(),.slice none 0 0] 135)).drew):=X_;have bA:Blk ((w1.alloc (.cells #[(),.slice none 0 0,(),(),.slice none 0 0] 135)).drew) (w1.heap.size) 135 [(),.slice none 0 0,(),(),.slice none 0 0]:=(Blk.new _ _ _).ext (Ext.drew (Ext.refl _))
   obtain ⟨dA,hdA⟩:∃d,(w1.alloc (.cells #[(),.slice none 0 0,(),(),.slice none 0 0] 135)).drew=d:=⟨_,rfl⟩
   rw [hdA] at yyA bA ⊢;have uA:Ext w1 dA:=yyA;clear hdA;refine z1_ (fuel:=3) [] 6 (fun b _ hb=>uA.block (by omega)) fun K hK=>?_;go_wp2_with fail;refine (cloneIntsL w1.heap.size lo hi _ t.px _ (HU.out.ext hh (X1.out.trans uA)) (Nat.le_trans hh (X1.out.trans uA).size) hpx hpx2 (Ext.size uA)).mono ?_;rintro e aA0 ⟨vA0,rfl,oA0,yA0⟩;have uA0:Ext w1 aA0:=uA.trans yA0;have bA0:=bA.ext yA0;obtain ⟨saA0,scA0,rfl,_⟩:=oA0.form;have TA0:=oA0.tur hpx;clear oA0;go_wp2_with fail;refine hK _ _ (.inr (fun b _ hb=>uA0.block (by omega))) ?_;clear hK K;refine z1_ (fuel:=0) [7,8] 10 (fun b _ hb=>uA0.block (by omega)) fun K hK=>?_;have z0:=bA0.cell 0 rfl;have zf0:=bA0.free 0;have z1:=bA0.cell 1 rfl;have zf1:=bA0.free 1;have z2:=bA0.cell 2 rfl;have zf2:=bA0.free 2;have z3:=bA0.cell 3 rfl;have zf3:=bA0.free 3;have z4:=bA0.cell 4 rfl;have zf4:=bA0.free 4;have zl:=bA0.lt;go_wp2;refine hK _ _ (.inl (by trivial)) ?_;clear hK K;refine wpZ_end (by kernel_rfl) ?_;go_wp2_with fail
   go_meet
   have hlt:=hAA;exact ⟨w1.heap.size,_,_,rfl,hlt,(((((bA0.set 0 _).set 1 _).set 2 _).set 3 _).set 4 _),(((((TA0.set bA0 (by decide) 0 _).set (bA0.set 0 _) (by decide) 1 _).set ((bA0.set 0 _).set 1 _) (by decide) 2 _).set (((bA0.set 0 _).set 1 _).set 2 _) (by decide) 3 _).set ((((bA0.set 0 _).set 1 _).set 2 _).set 3 _) (by decide) 4 _),(Ext.setCell (Ext.setCell (Ext.setCell (Ext.setCell (Ext.setCell uA0 (p:=⟨w1.heap.size,0,none⟩) hlt _) (p:=⟨w1.heap.size,1,none⟩) hlt _) (p:=⟨w1.heap.size,2,none⟩) hlt _) (p:=⟨w1.heap.size,3,none⟩) hlt _) (p:=⟨w1.heap.size,4,none⟩) hlt _)⟩
 case rest=>
  obtain ⟨A,sa,sc,rfl,hA,bA,tA,xa⟩:=hcut;obtain ⟨g,cs,bg,gown⟩:=tA.open
  have hgA:g≠A:=fun e=>by
   subst e;unfold Blk at bg bA;rw [bg] at bA;simp only [Option.some.injEq,Obj.cells.injEq] at bA;exact absurd bA.2.1 (by decide)
  have la:=xa.size;have e1:=H1.out.ext xa;have n1:=e1.cell 0 rfl;have ll1:=e1.lt;have K0:=hid (H0.out.ext xa);have K1:=hid e1;have K2:=hid (H2.out.ext xa);have K3:=hid (H3.out.ext xa);have KA:=hid bA;have KG:=hid bg;have KO:=hid gown;have XC:=hid (X1.out.trans xa);clear e1 bA tA bg gown xa H0 H1 H2 H3 n0 l1 t0 t1 l2;go_wp2_with fail;refine (C2.out _).mono ?_;rintro e w6 ⟨rfl,rfl⟩;go_wp2_with fail
  obtain ⟨W0,hW0⟩:∃W0,wc.alloc (.cells #[(n:Nat)] 3)=W0:=⟨_,rfl⟩
  have xx:Ext wc W0:=hW0▸X_;have z0:W0.heap.size=wc.heap.size+1:=hW0▸World.size_alloc _ _;have r9:Blk W0 wc.heap.size 3 [(n:Nat)]:=hW0▸Blk.new wc 3 [(n:Nat)];rw [hW0];clear hW0;have hlA:=KA.out.lt
  have z6:w.heap.size+4<=A:=by have:=Z1.out;omega
  have NE:=hid (grF_ne (f:=f) (n:=n) (t:=t) (a:=a) (cap:=cap) (w:=w.heap.size) (g:=g) (cs:=cs) (nb:=wc.heap.size) z6 hgA (by omega))
  have HRB:RB Pt.cs 200 5 135 (fun v=>[(n:Nat),v,(),t.log,.slice sa t.px.length sc]) w A (grF f n t a cap w.heap.size g cs wc.heap.size) W0 (ptsG f n []):=by
   refine ⟨XC.out.trans xx,fun p hp=>?_,by omega,_,KA.out.ext xx,OwnG.nil _ _ _ _ _⟩;simp only [grF,List.mem_cons,List.not_mem_nil,or_false] at hp
   rcases hp with rfl|rfl|rfl|rfl|rfl|rfl
   ·exact K0.out.ext xx
   ·exact K1.out.ext xx
   ·exact K2.out.ext xx
   ·exact K3.out.ext xx
   ·exact KG.out.ext xx
   ·exact r9
  have HRB:=hid HRB;have NB:=r9.cell 0 rfl;clear r9 xx K0 K1 K2 K3 KA KG XC C2 n1 ll1 X1;refine (wpIn_wide (n:=3)).1 ?_
  refine' wpIn_rangeFunc_ownG rfl (by omega) (gf:=219) (lb:=#[.pointer (some ⟨wc.heap.size,0,none⟩)]) rfl trivial (enters_of Tryz.func219 (by kernel_rfl) rfl)
   (cells_stops n hn0 (by omega) _ wc.heap.size W0 (by omega) NB) (fun h k=>KB.trans h k) ?hKb (Below.refl _ _) (fun _=>rfl)
   (fun pre W=>RB Pt.cs 200 5 135 (fun v=>[(n:Nat),v,(),t.log,.slice sa t.px.length sc]) w A (grF f n t a cap w.heap.size g cs wc.heap.size) W (ptsG f n pre))
   (fun cd pre W=>False) ?owns ?ownsx HRB.out _ ?assign ?body ?done ?stop
  case hKb=>exact fun W l o o' hl ho _ _=>World.putObj_heap_other (by omega)
  case assign=>
   intro l x W K hK
   gi_wp2
   exact hK
  case owns=>exact fun pre A' B row h hg hr=>RB.owns (by omega) (ptsG f n) pre A' B row h hg hr
  case ownsx=>exact fun cd pre A B row h hg hr=>h
  case stop=>
   rintro D cd pre W hD - h hK;exact h.elim
  case body=>
   intro l pre x W hI hpre;have HI:=hid hI
   obtain ⟨i,hxi⟩:∃i:Nat,(x.1:Nat)=i:=⟨_,rfl⟩
   obtain ⟨j,hxj⟩:∃i:Nat,(x.2:Nat)=i:=⟨_,rfl⟩
   have hi2:i<n:=hxi▸x.1.2;have hj2:j<n:=hxj▸x.2.2
   obtain ⟨X,Y,Z,hE⟩:∃X Y Z,evP f (i:Int) (j:Int) (n:Int)=⟨X,Y,Z⟩:=⟨_,_,_,rfl⟩
   have HEV:=hid hE;have N1:=hid (show (1:Int)<=n/\(n:Int)<=64 by omega);have N2:=hid (show (0:Int)<=(i:Int)/\(i:Int)<=(n:Int) by omega);have N3:=hid (show (0:Int)<=(j:Int)/\(j:Int)<=(n:Int) by omega);obtain ⟨tv,tb1,tb2⟩:=hI.tb;obtain ⟨ta,tc,rfl,tlen⟩:=OwnG.form tb2;have T1:=hid tb1;have T2:=hid tb2;have m0:=hI.fx _ (.head _);have m1:=hI.fx _ (.tail _ (.head _));have M1:=hid m1;obtain ⟨m0c0,m0c1,m0c2,m0c3,m0c4,m0c5,m0c6,m0c7,m0c8,m0c9,m0c10,m0c11⟩:=m0.q12;have m1c0:=m1.cell 0 rfl;have m0l:=m0.lt;have m1l:=m1.lt
   try simp only [grF] at m0l m1l
   rw [hxi,hxj];clear hE hI tb1 tb2 m0 m1;refine wpIn_block ?_;refine wpIn_seq_k fun K1 HK1=>?_;refine wpIn_region_plain (by kernel_rfl) (fun ⟨_,_,h⟩=>h) ?_;go_wp2_with fail;refine (evalPatch_val HEV.out N1.out N2.out N3.out _).mono ?_;rintro e w5 ⟨rfl,x5⟩;have Y5:=hid x5;clear x5 m0c0 m0c1 m0c2 m0c3 m0c4 m0c5 m0c6 m0c7 m0c8 m0c9 m0c10 m0c11 m1c0 m0l m1l;go_wp2_with fail;have xv:Ext w5 (w5.alloc (.cells #[X,Y,Z] 37)):=X_;have bV:=Blk.new w5 37 [X,Y,Z];have zV:(w5.alloc (.cells #[X,Y,Z] 37)).heap.size=w5.heap.size+1:=World.size_alloc _ _
   obtain ⟨WV,hWV⟩:∃WV,w5.alloc (.cells #[X,Y,Z] 37)=WV:=⟨_,rfl⟩
   rw [hWV] at xv bV zV ⊢;have ZV:=hid zV;clear hWV zV;have YV:=hid (Y5.out.trans xv);have U1:=hid (T1.out.ext YV.out);have U2:=hid (OwnG.ext T2.out YV.out);have UN:=hid (M1.out.ext YV.out);have UV:=hid bV;have c1:=U1.out.cell 1 rfl;have al:=U1.out.lt;have n0:=UN.out.cell 0 rfl;have nl:=UN.out.lt;obtain ⟨v0,v1,v2⟩:=bV.q3;have vl:=bV.lt
   try simp only [grF] at nl n0
   have hnz:(n:Int)≠0:=by omega
   clear bV xv;refine wpIn_region_ZS 20 (fun w'=>∃d,w'=lowc (CGr w.heap.size A w5.heap.size) WV d) (by kernel_rfl) (by kernel_rfl) (fun ⟨_,_,h⟩=>h) ?_;refine wpZS_stage (fuel:=3) [0,1,2,3,4,5,6,7,8,9,10,11,12,13,14,15,16] [17] (by kernel_rfl) (SC.drew _ _) ?_
   try simp only [Act.put,List.setIfInBounds_toArray,List.set_cons_succ,List.set_cons_zero]
   simp only [List.filterMap_cons,List.filterMap_nil,List.getElem?_toArray,List.getElem?_cons_zero,List.getElem?_cons_succ]
   show wpQuiet _ _ _ _ [_,_,_,_,_,_,_,_,_,_,_,_,_,_,_,_,_] _
   repeat (go_big_quiet_step (fail))
   refine wpQuiet_nil ?_;intro e he;simp only [List.mem_cons,List.not_mem_nil,or_false] at he;subst he
   (unfold wpComesS;simp only [List.getElem?_toArray,List.getElem?_cons_succ,List.getElem?_cons_zero,Option.some.injEq];refine ⟨_,rfl,fun K hK=>?_⟩)
   go_wp2;have CL:=hid (show ∀q:Addr,CGr w.heap.size A w5.heap.size q->q.block<WV.heap.size from fun q hq=>by have hz:=ZV.out;rcases hq with h|h|h <;> omega);refine hK _ _ (.inr (SC.blocks fun q hq=>Ext.block (w:=WV) X_ (CL.out q hq))) ?_;clear hK K
   obtain ⟨U,hU⟩:∃U,(i:Int)*256 / (n:Int)=U:=⟨_,rfl⟩
   obtain ⟨V,hV⟩:∃V,(j:Int)*256 / (n:Int)=V:=⟨_,rfl⟩
   rw [hU,hV]
   have hpt:ptG f n i j=⟨U,V,X,Y,Z⟩:=by unfold ptG;rw [hU,hV,HEV.out]
   have HPT:=hid hpt;clear hpt hU hV;have xP:Ext WV ((WV.alloc (.cells #[U,V,X,Y,Z] 200)).drew):=X_;have bP:Blk ((WV.alloc (.cells #[U,V,X,Y,Z] 200)).drew) WV.heap.size 200 [U,V,X,Y,Z]:=(Blk.new WV 200 [U,V,X,Y,Z]).ext (Ext.drew (Ext.refl _))
   obtain ⟨WP,hWP⟩:∃WP,(WV.alloc (.cells #[U,V,X,Y,Z] 200)).drew=WP:=⟨_,rfl⟩
   rw [hWP] at xP bP ⊢;clear hWP;have XP:=hid xP;have BP:=hid bP
   have hplen:(ptsG f n pre).length<1000000:=by
    have h1:(ptsG f n pre).length=pre.length:=by unfold ptsG;rw [List.length_map]
    have h2:n*n<=64:=Nat.mul_le_mul (by omega:n<=8) (by omega:n<=8);omega
   have hwP:w.heap.size<=WP.heap.size:=by have:=XP.out.size;omega
   have HPL:=hid hplen;clear xP bP hplen v0 v1 v2 c1 n0;refine wpZS_stage (fuel:=2) [] [18] (by kernel_rfl) (SC.blocks fun q hq=>XP.out.block (CL.out q hq)) ?_;refine wpQuiet_nil ?_;intro e he;simp only [List.mem_cons,List.not_mem_nil,or_false] at he;subst he
   (unfold wpComesS;simp only [List.getElem?_toArray,List.getElem?_cons_succ,List.getElem?_cons_zero,Option.some.injEq];refine ⟨_,rfl,fun K hK=>?_⟩)
   refine wpList_append_pt _ rfl _ _ rfl w.heap.size (.slice ta (ptsG f n pre).length tc) (ptsG f n pre) rfl (OwnG.ext U2.out XP.out) ⟨U,V,X,Y,Z⟩ WV.heap.size rfl (fun q hq=>by
    rcases (show q=0\/q=1\/q=2\/q=3\/q=4 by omega) with rfl|rfl|rfl|rfl|rfl
    ·exact BP.out.cell 0 rfl
    ·exact BP.out.cell 1 rfl
    ·exact BP.out.cell 2 rfl
    ·exact BP.out.cell 3 rfl
    ·exact BP.out.cell 4 rfl) HPL.out hwP ?_
   intro v8 w8 hown hg;obtain ⟨va,vc,rfl,_⟩:=OwnG.form hown
   have HCC:=hid (show ∀q:Addr,CGr w.heap.size A w5.heap.size q->w8.heap[q.block]?=WV.heap[q.block]? from fun q hq=>by
    have hl:=CL.out q hq
    have hr:some q.block≠(Value.slice ta (ptsG f n pre).length tc).ownBlock:=by
     rcases hq with h|h|h
     ·rw [h];exact blk_not_row UN.out (by decide) U2.out
     ·rw [h];exact blk_not_row U1.out (by decide) U2.out
     ·rw [h];exact blk_not_row UV.out (by decide) U2.out
    exact (hg.block _ (Nat.lt_of_lt_of_le hl XP.out.size) hr).trans (XP.out.block hl))
   have G1:=(U1.out.ext XP.out).grown hg (blk_not_row U1.out (by decide) U2.out);have c1:=G1.cell 1 rfl;have f1:=G1.free 1;have gl:=G1.lt;have HO:=hid hown;have HG:=hid hg;clear hown hg G1;go_wp2_with fail;refine hK _ _ (.inr (SC.blocks HCC.out)) ?_;clear hK K;refine wpZS_stage (fuel:=0) [19] [20] (by kernel_rfl) (SC.blocks HCC.out) ?_
   try simp only [Act.put,List.setIfInBounds_toArray,List.set_cons_succ,List.set_cons_zero]
   simp only [List.filterMap_cons,List.filterMap_nil,List.getElem?_toArray,List.getElem?_cons_zero,List.getElem?_cons_succ]
   show wpQuiet _ _ _ _ [_] _
   repeat (go_big_quiet_step (fail))
   refine wpQuiet_nil ?_;intro e he;simp only [List.mem_cons,List.not_mem_nil,or_false] at he;subst he
   (unfold wpComesS;simp only [List.getElem?_toArray,List.getElem?_cons_succ,List.getElem?_cons_zero,Option.some.injEq];refine ⟨_,rfl,fun K hK=>?_⟩)
   go_wp2;refine hK _ _ (.inl (by trivial)) ?_;clear hK K;refine wpZS_end (by kernel_rfl) ?_;have T4:=HI.out.push NE.out (by decide) 1 rfl T1.out T2.out (YV.out.trans XP.out) HG.out HO.out;simp only [List.length_append,List.length_cons,List.length_nil,Nat.zero_add] at T4;refine ⟨(((Ext.others (YV.out.trans XP.out)).trans (KeepsOthers.of_grownBy HG.out (own_blk (YV.out.trans XP.out) T2.out))).trans (KeepsOthers.setCell _ _ _)).from _,(T4.fx _ (.tail _ (.tail _ (.tail _ (.tail _ (.tail _ (.head _))))))).trans (HI.out.fx _ (.tail _ (.tail _ (.tail _ (.tail _ (.tail _ (.head _))))))).symm,?_⟩
   show RB _ _ _ _ _ _ _ _ _ (ptsG f n (pre++[x]))
   rw [ptsG_snoc,hxi,hxj,HPT.out];exact T4
  case done=>
   rintro D ys W hD rfl hI hK;obtain ⟨tv,tb1,tb2⟩:=hI.tb;obtain ⟨ta,tc,rfl,tlen⟩:=OwnG.form tb2
   have hlen:(ptsG f n (cellsTo n hn0 (n*n))).length=n*n:=by unfold ptsG;rw [List.length_map,cellsTo_length]
   have HRW:=hid (show ∀W2:World,OwnG Pt.cs w.heap.size 200 5 W2 (.slice ta (ptsG f n (cellsTo n hn0 (n*n))).length tc) (ptsG f n (cellsTo n hn0 (n*n)))->OwnInts w1.heap.size W2 (.slice sa t.px.length sc) t.px->(gridP f n t).R w.heap.size W2.heap.size W2 (.agg #[(n:Nat),.slice ta (ptsG f n (cellsTo n hn0 (n*n))).length tc,(),t.log,.slice sa t.px.length sc]) from fun W2 o1 o2=>by
    refine ⟨_,_,rfl,⟨by show -9223372036854775808<=(n:Int);omega,by show (n:Int)<=9223372036854775807;omega⟩,⟨by show (-9223372036854775808:Int)<=0;decide,by show (0:Int)<=9223372036854775807;decide⟩,HTL.out,?_,?_⟩
    ·have h:=OwnG.flatsI (ls:=Pt.ls) (F:=gridF f n) o1 (by decide) (fun _=>rfl) (fun _=>rfl) (fun p hp y hy=>by
      obtain ⟨q,hq,rfl⟩:=List.getElem_of_mem hp;have e:=ptsG_all f n hn0 (List.getElem?_eq_getElem hq);rw [hlen] at hq;rw [e] at hy;have:=ptG_bd f (n:=n) (i:=q % n) (j:=q / n) (by omega) (Nat.mod_lt _ hn0) (Nat.div_lt_of_lt_mul hq) y hy
      exact ⟨by omega,by omega⟩) (fun q p k hq hk=>by rw [ptsG_all f n hn0 hq];exact gridF_at f n q k hk)
     rw [hlen] at h ⊢;exact h
    ·exact o2.ints.wide (by have:=Z1.out;omega) (Nat.le_refl _))
   have hR:=HRW.out W tb2 (KO.out W (hI.fx _ (.tail _ (.tail _ (.tail _ (.tail _ (.head _)))))));have TB2:=hid tb2;have KG:=hid (hI.fx _ (.tail _ (.tail _ (.tail _ (.tail _ (.head _))))));have HR:=hid hR;have k3:=hI.fx _ (.tail _ (.tail _ (.tail _ (.head _))));have K3:=hid k3;have KA:=hid tb1;have HEX:=hid hI.ext;have HD:=hid hK;obtain ⟨a0,a1,a2,a3,a4⟩:=tb1.q5;have al:=tb1.lt;clear hR hI tb1 tb2 k3 hK hlen;go_wp2_with fail;refine (iIsValidGrid_any w.heap.size W.heap.size _ (gridP f n t) _ HR.out (Nat.le_refl _)).mono ?_;rw [gridP_ok hn HOK.out];rintro e w9 ⟨rfl,x9⟩;have A9:=KA.out.ext x9;have B9:=K3.out.ext x9;have X9:=hid x9;clear x9 a0 a1 a2 a3 a4 al;obtain ⟨a0,a1,a2,a3,a4⟩:=A9.q5;have al:=A9.lt;obtain ⟨b0,b1,b2,b3,b4⟩:=B9.q5;have f0:=B9.free 0;have f1:=B9.free 1;have f2:=B9.free 2;have f3:=B9.free 3;have f4:=B9.free 4;have bl:=B9.lt
   try simp only [grF] at b0 b1 b2 b3 b4 f0 f1 f2 f3 f4 bl
   have BB:Blk w9 (w.heap.size+1+1+1) 135 [(),.slice none 0 0,(),(),.slice none 0 0]:=B9
   have hgB:g≠w.heap.size+1+1+1:=fun e=>by
    have h:Blk w9 g 3 cs:=KG.out.ext X9.out;rw [e] at h;unfold Blk at h BB;rw [h] at BB;simp only [Option.some.injEq,Obj.cells.injEq] at BB;exact absurd BB.2.1 (by decide)
   have HBB:=hid BB;clear A9 B9 BB;go_wp2_with fail
   have oF:=(OwnG.setBlk (OwnG.setBlk (OwnG.setBlk (OwnG.setBlk (OwnG.setBlk (OwnG.ext TB2.out X9.out) HBB.out (by decide) 0 (.int .i64 (n:Nat))) (HBB.out.set 0 (.int .i64 (n:Nat))) (by decide) 1 (.slice ta (ptsG f n (cellsTo n hn0 (n*n))).length tc)) ((HBB.out.set 0 (.int .i64 (n:Nat))).set 1 (.slice ta (ptsG f n (cellsTo n hn0 (n*n))).length tc)) (by decide) 2 (.int .i64 0)) (((HBB.out.set 0 (.int .i64 (n:Nat))).set 1 (.slice ta (ptsG f n (cellsTo n hn0 (n*n))).length tc)).set 2 (.int .i64 0)) (by decide) 3 (.int .i64 t.log)) ((((HBB.out.set 0 (.int .i64 (n:Nat))).set 1 (.slice ta (ptsG f n (cellsTo n hn0 (n*n))).length tc)).set 2 (.int .i64 0)).set 3 (.int .i64 t.log)) (by decide) 4 (.slice sa t.px.length sc))
   have gF:=((((((KG.out.ext X9.out).other (a:=⟨w.heap.size+1+1+1,0,none⟩) hgB (.int .i64 (n:Nat))).other (a:=⟨w.heap.size+1+1+1,1,none⟩) hgB (.slice ta (ptsG f n (cellsTo n hn0 (n*n))).length tc)).other (a:=⟨w.heap.size+1+1+1,2,none⟩) hgB (.int .i64 0)).other (a:=⟨w.heap.size+1+1+1,3,none⟩) hgB (.int .i64 t.log)).other (a:=⟨w.heap.size+1+1+1,4,none⟩) hgB (.slice sa t.px.length sc))
   have eF:=(Ext.setCell (Ext.setCell (Ext.setCell (Ext.setCell (Ext.setCell (HEX.out.trans X9.out) (p:=⟨w.heap.size+1+1+1,0,none⟩) (by simp only;omega) (.int .i64 (n:Nat))) (p:=⟨w.heap.size+1+1+1,1,none⟩) (by simp only;omega) (.slice ta (ptsG f n (cellsTo n hn0 (n*n))).length tc)) (p:=⟨w.heap.size+1+1+1,2,none⟩) (by simp only;omega) (.int .i64 0)) (p:=⟨w.heap.size+1+1+1,3,none⟩) (by simp only;omega) (.int .i64 t.log)) (p:=⟨w.heap.size+1+1+1,4,none⟩) (by simp only;omega) (.slice sa t.px.length sc))
   have bF:=(((((HBB.out.set 0 (.int .i64 (n:Nat))).set 1 (.slice ta (ptsG f n (cellsTo n hn0 (n*n))).length tc)).set 2 (.int .i64 0)).set 3 (.int .i64 t.log)).set 4 (.slice sa t.px.length sc))
   have hlW:=lt_of_block HD.out
   have dF:((((((w9.setCell ⟨w.heap.size+1+1+1,0,none⟩ (.int .i64 (n:Nat))).setCell ⟨w.heap.size+1+1+1,1,none⟩ (.slice ta (ptsG f n (cellsTo n hn0 (n*n))).length tc)).setCell ⟨w.heap.size+1+1+1,2,none⟩ ()).setCell ⟨w.heap.size+1+1+1,3,none⟩ t.log).setCell ⟨w.heap.size+1+1+1,4,none⟩ (.slice sa t.px.length sc))).heap[D]?=some (.deferred (some [])):=by
    rw [Below.heap_setCell _ _ _ _ (by simp only;omega),Below.heap_setCell _ _ _ _ (by simp only;omega),Below.heap_setCell _ _ _ _ (by simp only;omega),Below.heap_setCell _ _ _ _ (by simp only;omega),Below.heap_setCell _ _ _ _ (by simp only;omega)];exact (X9.out.block hlW).trans HD.out
   obtain ⟨WF,hWF⟩:∃WF,(((((w9.setCell ⟨w.heap.size+1+1+1,0,none⟩ (.int .i64 (n:Nat))).setCell ⟨w.heap.size+1+1+1,1,none⟩ (.slice ta (ptsG f n (cellsTo n hn0 (n*n))).length tc)).setCell ⟨w.heap.size+1+1+1,2,none⟩ ()).setCell ⟨w.heap.size+1+1+1,3,none⟩ t.log).setCell ⟨w.heap.size+1+1+1,4,none⟩ (.slice sa t.px.length sc))=WF:=⟨_,rfl⟩
   rw [hWF] at oF gF eF bF dF ⊢;clear hWF
   have kk:∀r,some D=some r->∃o:Obj,WF.heap[r]?=some o/\o.isCells=false:=fun r e=>by cases e;exact ⟨_,dF,rfl⟩
   refine ⟨by simp,.inl ⟨_,_,rfl,run_takeDeferred dF,?_⟩⟩;refine ⟨_,res_box_tmp rfl _ _ rfl (kept_blk (grownBy_putObj' WF D _) kk bF) _ Tryz.underlying135 rfl info_GridB,_,rfl,?_,?_⟩
   ·exact HRW.out _ (OwnG.owns oF (grownBy_putObj' WF D _) kk) (KO.out _ (kept_blk (grownBy_putObj' WF D _) kk gF))
   ·exact eF.grown (grownBy_putObj' WF D _) (fun k e=>by cases e;omega)
end
end Go.Proofs.YtfjbiifebcfjfaaGreat
