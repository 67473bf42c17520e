/- Texts of this claim, one behind another: Mc6, Rg1, Rg2, Rg3, Ex2H, LawKitH, Blk0, Lk8, Df1, Fl1, Ap1, Ap2, Sr1, Sr3, Sr2, Lk9, Sg1, Sg2, Sg3. -/
import Derived.Test.YtdkohjeobjejeaaGreatP19Y1
import Derived.Test.YtdkohjeobjejeaaGreatEx2M
import Derived.Test.YtdkohjeobjejeaaGreatLawKit
import Derived.Test.YtdkohjeobjejeaaGreatL01
import Derived.Test.YtdkohjeobjejeaaGreatEx1
import Derived.Test.YtdkohjeobjejeaaGreatEx2
import Derived.Test.YtdkohjeobjejeaaGreatFlat
import Derived.Test.YtdkohjeobjejeaaGreatSh17
section
/- This text proves the other instructions of the grid's machine: local, store, unary, binary. -/
namespace Go.Proofs.YtdkohjeobjejeaaGreat
open Go.RowKit

def CMl (mb xb lb : Nat) : Addr → Prop := fun a => a.block = lb ∨ CMx mb xb a
@[go_sem] theorem CMl_l (mb xb lb o : Nat) : CMl mb xb lb ⟨lb, o, none⟩ := .inl rfl
@[go_sem] theorem CMl_x (mb xb lb o : Nat) : CMl mb xb lb ⟨xb, o, none⟩ := .inr (CMx_x _ _ _)
@[go_sem] theorem CMl_6 (mb xb lb : Nat) : CMl mb xb lb ⟨mb, 6, none⟩ := .inr (CMx_6 _ _)
theorem CMl_of {mb xb lb : Nat} {w w' : World} (h : SC (CMx mb xb) w w') (hl : w'.heap[lb]? = w.heap[lb]?) : SC (CMl mb xb lb) w w' := SC.of fun a ha => by
  rcases ha with ha | ha
  · have h : w'.heap[a.block]? = w.heap[a.block]? := by rw [ha]; exact hl
    exact ⟨World.cell?_of_block h, World.frozen?_of_block h⟩
  · exact h.get a ha
set_option maxRecDepth 100000 in
set_option maxHeartbeats 3200000 in
theorem exec3 {lo lo2 : Nat} {w : World} {mb n m : Nat} {pu tu : Value} {tm lg : Int} {sv lv : Value} {vs us : List Value} {S L : List (List Int)} (M : Mach lo lo2 w mb n pu tu tm lg sv lv vs us S L) (s : ByteArray) (j : Nat) (xs : List Int) (hx : L[j]? = some xs) (h1 : 1 ≤ xs.length) (h2 : xs.length ≤ 64) (hS : S.length ≤ 1000) :
    Calls Tryz.prog 39 #[.pointer (some ⟨mb, 0, none⟩), .agg #[.int .i64 3, .string s, .int .i64 j]] w fun e w' => e = .returned (.tuple #[]) ∧ (∃ sv' vs', Mach lo lo2 w' mb n pu tu tm lg sv' lv vs' us (S ++ [xs]) L) ∧ Step lo w w' := by
  have hR := Rws.right M.sl M.rows
  have hjL := (List.getElem?_eq_some_iff.1 hx).1
  have hul := hR.len
  have hju : j < us.length := by omega
  obtain ⟨v, hv⟩ : ∃ v, us[j]? = some v := ⟨us[j], by simp [hju]⟩
  have hown := hR.own j v xs hv hx
  obtain ⟨va, vc, rfl, _⟩ := hown.form
  obtain ⟨lb, lc, rfl, hlb1, hlb2⟩ := ownsRow.form1 M.lo' (by omega)
  obtain ⟨k1, k2⟩ := ownsRow.caps M.lo'
  have hbl := M.sep lb rfl
  have hvl := M.sl
  have hb := M.lt
  have c6 := cell_of_cells M.box 6
  simp at c6
  have r0 := World.ownsRow.cellAt M.lo' j (by omega)
  rw [hv] at r0
  have hlw : lo ≤ w.heap.size := Nat.le_trans M.hl M.hl2
  have hsv := World.ownsRow.lt M.so
  have hsl := M.so
  have hbm : lb ≠ mb := fun e => by
    have := ownsRow.not M.lo' M.box (by decide)
    exact this (by rw [← e]; rfl)
  have x0 : Ext w (w.alloc (.cells #[.int .i64 3, .string s, .int .i64 j] 64)) := (by repeat (with_reducible (first | assumption | exact Ext.refl _ | apply Ext.alloc | apply Ext.drew | apply Ext.drewN)))
  have HM := hid (M.ext x0)
  have HO := hid (hown.ints.ext (Nat.le_refl _) x0)
  have hxb : w.heap.size < (w.alloc (.cells #[.int .i64 3, .string s, .int .i64 j] 64)).heap.size := by simp
  have hlo2 := M.hl2
  clear M hown hv hx hR hsl
  go_enter Tryz.func39, Tryz.ntmps39
  go_wp2_with fail
  refine wp_region_stagesS [([0, 1, 2, 3, 4, 5, 6, 7, 8], 9), ([], 10)] 99 (fun w' => ∃ d, w' = lowc (CMl mb w.heap.size lb) _ d) (by kernel_rfl) (by kernel_rfl) (SC.drew _ _) ?_
  refine wpStagesS_cons ?_
  simp only [List.filterMap_cons, List.filterMap_nil, List.getElem?_toArray, List.getElem?_cons_zero, List.getElem?_cons_succ]
  show wpQuiet _ _ _ _ [_, _, _, _, _, _, _, _, _] _
  repeat (go_big_quiet_step (fail))
  refine wpQuiet_nil ⟨_, rfl, fun K hK => ?_⟩
  go_wp2_with fail
  refine (cloneInts2_any lo w.heap.size _ xs _ (HO.out.ext (Nat.le_of_lt hxb) (Ext.drew (Ext.refl _))) (Nat.le_of_lt hxb) h1 (by omega)).mono ?_
  rintro e w2 ⟨y, rfl, hy, x2⟩
  obtain ⟨ya, yc, rfl, _⟩ := hy.form
  have X2 : Ext (w.alloc (.cells #[.int .i64 3, .string s, .int .i64 j] 64)) w2 := Ext.trans (Ext.drew (Ext.refl _)) x2
  have M2 := HM.out.ext X2
  have SC2 := CMl_of (CMx_of HM.out M2 (X2.block hxb)) (X2.block (k := lb) (by omega))
  go_wp2_with fail
  refine hK _ _ (.inr (SC2)) ?_
  clear hK K
  refine wpStagesS_cons ?_
  simp only [List.filterMap_nil]
  show wpQuiet _ _ _ _ [] _
  try simp only [Act.put, List.setIfInBounds_toArray, List.set_cons_succ, List.set_cons_zero]
  repeat (go_big_quiet_step (fail))
  refine wpQuiet_nil ⟨_, rfl, fun K hK => ?_⟩
  go_wp2_with fail
  have hlone := Lone.of (M := (w.alloc (.cells #[.int .i64 3, .string s, .int .i64 j] 64)).heap.size) HM.out.rows (Nat.le_refl _) (fun k hk => (hy.lt k hk).1)
  refine (push_any M2 (hy.low (by have := x0.size; simp; omega)) hlone (by omega)).mono ?_
  rintro e w3 ⟨rfl, ⟨sv3, M3⟩, st3, fr3⟩
  have hz2 := X2.size
  have SC3 := CMl_of (CMx_of HM.out M3 ((fr3 w.heap.size (by omega) (by omega) (fun e => by have := (hsv _ e).2; omega)).trans (X2.block hxb))) ((fr3 lb (by omega) hbm (fun e => by have := (hsv _ e).1; omega)).trans (X2.block (k := lb) (by omega)))
  go_wp2_with fail
  refine hK _ _ (.inr (SC3)) ?_
  clear hK K
  refine wpStagesS_nil ?_
  go_wp2
  go_end0
  exact ⟨rfl, ⟨sv3, _, M3⟩, ((x0.trans X2).step hlw).trans st3⟩

set_option maxRecDepth 100000 in
set_option maxHeartbeats 3200000 in
theorem exec5 {lo lo2 : Nat} {w : World} {mb n m : Nat} {pu tu : Value} {tm lg : Int} {sv lv : Value} {vs us : List Value} {S L : List (List Int)} (M : Mach lo lo2 w mb n pu tu tm lg sv lv vs us S L) (s : ByteArray) (q : Nat) (op : Int) (hop : opsOk op) (hq : q + 1 = S.length) (hS : S.length ≤ 1000) (hg : ∀ r ∈ S, good m r) (hm : m ≤ 64) :
    Calls Tryz.prog 39 #[.pointer (some ⟨mb, 0, none⟩), .agg #[.int .i64 5, .string s, .int .i64 op]] w fun e w' => e = .returned (.tuple #[]) ∧ (∃ sv' vs', Mach lo lo2 w' mb n pu tu tm lg sv' lv vs' us (S.take q ++ [List.zipWith (arithI op) (S.getD q []) (S.getD q [])]) L) ∧ Step lo w w' := by
  have hlw : lo ≤ w.heap.size := Nat.le_trans M.hl M.hl2
  have x0 : Ext w (w.alloc (.cells #[.int .i64 5, .string s, .int .i64 op] 64)) := (by repeat (with_reducible (first | assumption | exact Ext.refl _ | apply Ext.alloc | apply Ext.drew | apply Ext.drewN)))
  have HC := hid (unary_any (M.ext x0) q m op hop hq hS hg hm)
  clear M hop hq
  go_enter Tryz.func39, Tryz.ntmps39
  go_wp2_with fail
  refine HC.out.mono ?_
  rintro e w2 ⟨rfl, h1, h2⟩
  go_wp2
  go_end0
  exact ⟨rfl, h1, (x0.step hlw).trans h2⟩
set_option maxRecDepth 100000 in
set_option maxHeartbeats 3200000 in
theorem exec6 {lo lo2 : Nat} {w : World} {mb n m : Nat} {pu tu : Value} {tm lg : Int} {sv lv : Value} {vs us : List Value} {S L : List (List Int)} (M : Mach lo lo2 w mb n pu tu tm lg sv lv vs us S L) (s : ByteArray) (q : Nat) (op : Int) (hop : opsOk op) (hq : q + 2 = S.length) (hS : S.length ≤ 1000) (hg : ∀ r ∈ S, good m r) (hm : m ≤ 64) :
    Calls Tryz.prog 39 #[.pointer (some ⟨mb, 0, none⟩), .agg #[.int .i64 6, .string s, .int .i64 op]] w fun e w' => e = .returned (.tuple #[]) ∧ (∃ sv' vs', Mach lo lo2 w' mb n pu tu tm lg sv' lv vs' us (S.take q ++ [List.zipWith (arithI op) (S.getD q []) (S.getD (q + 1) [])]) L) ∧ Step lo w w' := by
  have hlw : lo ≤ w.heap.size := Nat.le_trans M.hl M.hl2
  have x0 : Ext w (w.alloc (.cells #[.int .i64 6, .string s, .int .i64 op] 64)) := (by repeat (with_reducible (first | assumption | exact Ext.refl _ | apply Ext.alloc | apply Ext.drew | apply Ext.drewN)))
  have HC := hid (binary_any (M.ext x0) q m op hop hq hS hg hm)
  clear M hop hq
  go_enter Tryz.func39, Tryz.ntmps39
  go_wp2_with fail
  refine HC.out.mono ?_
  rintro e w2 ⟨rfl, h1, h2⟩
  go_wp2
  go_end0
  exact ⟨rfl, h1, (x0.step hlw).trans h2⟩
set_option maxRecDepth 100000 in
set_option maxHeartbeats 3200000 in
theorem exec4 {lo lo2 : Nat} {w : World} {mb n : Nat} {pu tu : Value} {tm lg : Int} {sv lv : Value} {vs us : List Value} {S L : List (List Int)} (M : Mach lo lo2 w mb n pu tu tm lg sv lv vs us S L) (s : ByteArray) (j q : Nat) (hj : j < L.length) (hq : q + 1 = S.length) (hS : S.length ≤ 1000) (hne : ∀ r ∈ S, r ≠ []) :
    Calls Tryz.prog 39 #[.pointer (some ⟨mb, 0, none⟩), .agg #[.int .i64 4, .string s, .int .i64 j]] w fun e w' => e = .returned (.tuple #[]) ∧ (∃ sv' vs' us', Mach lo lo2 w' mb n pu tu tm lg sv' lv vs' us' (S.take q) (L.set j (S.getD q []))) ∧ Step lo w w' := by
  have hR := Rws.right M.sl M.rows
  have hul := hR.len
  have hju : j < us.length := by omega
  have hvl := M.sl
  obtain ⟨x, hx1, hx2⟩ := snoc_drop vs q (by omega)
  obtain ⟨xs, hs1, hs2⟩ := snoc_drop S q hq
  have hRl := Rws.left M.sl M.rows
  have hown : OwnInts lo w x xs := by
    have := (hRl.drop q).own 0 x xs (by rw [hx1]; rfl) (by rw [hs1]; rfl)
    exact this
  have hnx : xs ≠ [] := hne xs (List.mem_of_mem_drop (by rw [hs1]; exact List.mem_singleton.2 rfl))
  have hxs : S.getD q [] = xs := by
    have h1 : S[q]? = (S.drop q)[0]? := by rw [List.getElem?_drop, Nat.add_zero]
    rw [List.getD, h1, hs1]
    rfl
  rw [hxs]
  obtain ⟨xa, xc, rfl, _⟩ := hown.form
  obtain ⟨lb, lc, rfl, hlb1, hlb2⟩ := ownsRow.form1 M.lo' (by omega)
  obtain ⟨k1, k2⟩ := ownsRow.caps M.lo'
  have hbl := M.sep lb rfl
  have hb := M.lt
  have c6 := cell_of_cells M.box 6
  simp at c6
  have hlw : lo ≤ w.heap.size := Nat.le_trans M.hl M.hl2
  have hsv := World.ownsRow.lt M.so
  have hlo2 := M.hl2
  have hapt : Apt ((vs.take q ++ [.slice xa xs.length xc]) ++ us) := by rw [← hx2]; exact M.apt
  have x0 : Ext w (w.alloc (.cells #[.int .i64 4, .string s, .int .i64 j] 64)) := (by repeat (with_reducible (first | assumption | exact Ext.refl _ | apply Ext.alloc | apply Ext.drew | apply Ext.drewN)))
  have HM := hid (M.ext x0)
  have HO := hid hown
  have HA := hid hapt
  have hxb : w.heap.size < (w.alloc (.cells #[.int .i64 4, .string s, .int .i64 j] 64)).heap.size := by simp
  replace hx1 := hid hx1
  clear M hown hR hRl hapt hx2 hs1 hs2 hxs
  go_enter Tryz.func39, Tryz.ntmps39
  go_wp2_with fail
  refine wp_region_stagesS [([0, 1, 2, 3, 4, 5, 6], 7), ([], 8), ([], 9), ([], 10), ([], 11)] 11 (fun w' => ∃ d, w' = lowc (CMx mb w.heap.size) _ d) (by kernel_rfl) (by kernel_rfl) (SC.drew _ _) ?_
  refine wpStagesS_cons ?_
  simp only [List.filterMap_cons, List.filterMap_nil, List.getElem?_toArray, List.getElem?_cons_zero, List.getElem?_cons_succ]
  show wpQuiet _ _ _ _ [_, _, _, _, _, _, _] _
  repeat (go_big_quiet_step (fail))
  refine wpQuiet_nil ⟨_, rfl, fun K hK => ?_⟩
  go_wp2_with fail
  have X1 : Ext (w.alloc (.cells #[.int .i64 4, .string s, .int .i64 j] 64)) (w.alloc (.cells #[.int .i64 4, .string s, .int .i64 j] 64)).drew := Ext.drew (Ext.refl _)
  have M1 := HM.out.ext X1
  refine (pop_any M1 1 q (Nat.le_refl _) (by omega) (by omega)).mono ?_
  rintro e w2 ⟨r, rfl, hr, ⟨sv2, M2, hsv2⟩, st2, fr2⟩
  obtain ⟨rb, rc, rfl, hrb1, hrb2⟩ := ownsRow.form1 hr (Nat.le_refl _)
  rw [hx1.out] at hr
  have r0 := World.ownsRow.cellAt hr 0 (by omega)
  simp at r0
  have SC2 := CMx_of HM.out M2 ((fr2 w.heap.size (by have := X1.size; omega) (by omega)).trans (X1.block hxb))
  have hlt2 := (World.ownsRow.lt M2.lo' lb rfl).2
  obtain ⟨y0, hy0⟩ : ∃ y, us[j]? = some y := ⟨us[j], by simp [hju]⟩
  have t0 := World.ownsRow.cellAt M2.lo' j (by omega)
  rw [hy0] at t0
  have t1 := World.ownsRow.frozenAt M2.lo' j
  have HM2 := hid M2
  have HST := hid st2
  have HX := hid (HO.out.keepI ((x0.trans X1).keepI.trans st2.keep))
  clear M2 hr st2 fr2 hy0
  go_wp2_with fail
  refine hK _ _ (.inr (SC2)) ?_
  clear hK K
  refine wpStagesS_cons ?_
  simp only [List.filterMap_nil]
  show wpQuiet _ _ _ _ [] _
  try simp only [Act.put, List.setIfInBounds_toArray, List.set_cons_succ, List.set_cons_zero]
  repeat (go_big_quiet_step (fail))
  refine wpQuiet_nil ⟨_, rfl, fun K hK => ?_⟩
  go_wp2_with fail
  go_wp2_with fail
  refine hK _ _ (.inr (SC2)) ?_
  clear hK K
  refine wpStagesS_cons ?_
  simp only [List.filterMap_nil]
  show wpQuiet _ _ _ _ [] _
  try simp only [Act.put, List.setIfInBounds_toArray, List.set_cons_succ, List.set_cons_zero]
  repeat (go_big_quiet_step (fail))
  refine wpQuiet_nil ⟨_, rfl, fun K hK => ?_⟩
  go_wp2_with fail
  go_wp2_with fail
  refine hK _ _ (.inr (SC2)) ?_
  clear hK K
  refine wpStagesS_cons ?_
  simp only [List.filterMap_nil]
  show wpQuiet _ _ _ _ [] _
  try simp only [Act.put, List.setIfInBounds_toArray, List.set_cons_succ, List.set_cons_zero]
  repeat (go_big_quiet_step (fail))
  refine wpQuiet_nil ⟨_, rfl, fun K hK => ?_⟩
  go_wp2_with fail
  go_wp2_with fail
  refine hK _ _ (.inr (SC2)) ?_
  clear hK K
  refine wpStagesS_cons ?_
  simp only [List.filterMap_nil]
  show wpQuiet _ _ _ _ [] _
  try simp only [Act.put, List.setIfInBounds_toArray, List.set_cons_succ, List.set_cons_zero]
  repeat (go_big_quiet_step (fail))
  refine wpQuiet_nil ⟨_, rfl, fun K hK => ?_⟩
  go_wp2_with fail
  go_wp2_with fail
  refine hK _ _ (.inl (by trivial)) ?_
  clear hK K
  refine wpStagesS_nil ?_
  go_wp2
  go_end0
  have M2 := HM2.out
  have hsto := World.ownsRow.stored M2.lo' j (.slice xa xs.length xc)
  have hbm : lb ≠ mb := fun e => ownsRow.not M2.lo' M2.box (by decide) (by rw [← e]; rfl)
  have kk : KeepI w2 (w2.setCell ⟨lb, j, none⟩ (.slice xa xs.length xc)) := KeepI.setCell _ (fun cur fr => ownsRow.int M2.lo' (by decide) lb cur fr rfl)
  have hsl2 := World.ownsRow.lt M2.so
  have hl2 : (us.set j (.slice xa xs.length xc)).length = us.length := by simp
  refine ⟨rfl, ⟨sv2, vs.take q, us.set j (.slice xa xs.length xc), ⟨?_, M2.low, ?_, ?_, M2.sep, M2.hl, by have := M2.hl2; simpa using this, M2.sl, ?_, HA.out.store j, M2.nls.set j hnx⟩⟩, (((x0.trans X1).step hlw).trans HST.out).trans ⟨Below.setCell (Below.refl _ _) hlb1 _, kk⟩⟩
  · exact (Below.heap_setCell _ _ _ _ (fun e => hbm e.symm)).trans M2.box
  · refine M2.so.kept hsto.2 ?_
    cases hk : sv2.ownBlock with
    | none => exact .inl rfl
    | some k => exact .inr (fun e => by have := (hsl2 k hk).1; injection e with e; omega)
  · rw [hl2]
    exact hsto.1
  · exact (Rws.left M2.sl M2.rows).keepI kk |>.app (((Rws.right M2.sl M2.rows).keepI kk).set j (HX.out.keepI kk))
end Go.Proofs.YtdkohjeobjejeaaGreat
end

section
/- This text says what the grid's machine computes, in plain numbers, and proves that its rows stay in range; it walks no function. -/
namespace Go.Proofs.YtdkohjeobjejeaaGreat
open Go.RowKit

/-- the row that an instruction other than a store pushes -/
def rowI (n m : Nat) (f : Nat → Int) (tm : Int) (t : Tex) (op : Int) (s : ByteArray) (num : Int) (args L : List (List Int)) : List Int :=
  if op = 1 then List.replicate m num else if op = 2 then (List.range m).map (varL s.toList f tm) else if op = 3 then L.getD num.toNat [] else if op = 5 then List.zipWith (arithI num) (args.getD 0 []) (args.getD 0 [])
  else if op = 6 then List.zipWith (arithI num) (args.getD 0 []) (args.getD 1 []) else callRow n m t s.toList args
/-- where the operands of an instruction begin -/
def cutI (op : Int) (s : ByteArray) (S : List (List Int)) : Nat := S.length - (popsI op s).toNat
def nextS (n m : Nat) (f : Nat → Int) (tm : Int) (t : Tex) (x : Ins) (S L : List (List Int)) : List (List Int) :=
  if x.op = 4 then S.take (cutI x.op x.name S) else S.take (cutI x.op x.name S) ++ [rowI n m f tm t x.op x.name x.num (S.drop (cutI x.op x.name S)) L]
def nextL (x : Ins) (S L : List (List Int)) : List (List Int) := if x.op = 4 then L.set x.num.toNat (S.getD (cutI x.op x.name S) []) else L
/-- the locals behind the instructions -/
def runG (n m : Nat) (f : Nat → Int) (tm : Int) (t : Tex) : List Ins → List (List Int) → List (List Int) → List (List Int)
  | [], _, L => L
  | x :: r, S, L => runG n m f tm t r (nextS n m f tm t x S L) (nextL x S L)
theorem zip_good {m : Nat} {op : Int} {a b : List Int} (ha : a.length = m) (hb : b.length = m) : good m (List.zipWith (arithI op) a b) := by
  refine ⟨by simp; omega, fun x hx => ?_⟩
  obtain ⟨i, hi, rfl⟩ := List.getElem_of_mem hx
  simp
  exact satI_S9 _
theorem varL_S9 {f : Nat → Int} {tm : Int} {m q : Nat} (l : List UInt8) (hf : ∀ i, i < m * 5 → S9 (f i)) (ht : S9 tm) (hq : q < m) : S9 (varL l f tm q) := by
  unfold varL
  split
  · exact hf _ (by omega)
  split
  · exact hf _ (by omega)
  split
  · exact hf _ (by omega)
  split
  · exact hf _ (by omega)
  split
  · exact hf _ (by omega)
  · exact ht
theorem call_good {n m : Nat} (hm : n * n = m) (t : Tex) (l : List UInt8) (S : List (List Int)) : good m (callRow n m t l S) := by
  have hd : ∀ xs rows, good m (diffs xs n rows) := fun xs rows => ⟨by rw [diffs_length, hm], fun x hx => by
    obtain ⟨i, hi, rfl⟩ := List.getElem_of_mem hx
    rw [diffs_at]
    exact dVal_i64 _ _ _ _⟩
  unfold callRow
  split
  · exact hd _ _
  split
  · exact hd _ _
  · refine ⟨by simp, fun x hx => ?_⟩
    obtain ⟨i, hi, rfl⟩ := List.mem_map.1 hx
    exact satI_S9 _
/-- the state of the machine ahead of the instructions xs -/
structure Okst (L0 m : Nat) (xs : List Ins) (S L : List (List Int)) : Prop where
  run : ∃ d st, (runD L0 xs S.length d st).isSome = true ∧ ∀ j r, L[j]? = some r → (st j = true ∧ good m r) ∨ (st j = false ∧ r = [])
  len : L.length = L0
  rows : ∀ r ∈ S, good m r
theorem Okst.wf {L0 m : Nat} {x : Ins} {r : List Ins} {S L : List (List Int)} (h : Okst L0 m (x :: r) S L) : wfI x.op x.name x.num L0 = true := by
  obtain ⟨d, st, h1, _⟩ := h.run
  exact runD_wf _ _ _ _ h1 x (List.mem_cons_self)
theorem Okst.pops {L0 m : Nat} {x : Ins} {r : List Ins} {S L : List (List Int)} (h : Okst L0 m (x :: r) S L) : ∃ p : Nat, popsI x.op x.name = p ∧ cutI x.op x.name S + p = S.length := by
  obtain ⟨d, st, h1, _⟩ := h.run
  have hb := pops_bd h.wf
  unfold runD at h1
  split at h1
  · rename_i hc
    refine ⟨(popsI x.op x.name).toNat, by omega, ?_⟩
    unfold cutI
    omega
  · simp at h1
/-- a local that is read is stored -/
theorem Okst.local {L0 m : Nat} {x : Ins} {r : List Ins} {S L : List (List Int)} (h : Okst L0 m (x :: r) S L) (h3 : x.op = 3) : ∃ xs, L[x.num.toNat]? = some xs ∧ good m xs := by
  obtain ⟨d, st, h1, h2⟩ := h.run
  obtain ⟨j, hj, hjL⟩ := wf_at h.wf (.inl h3)
  unfold runD at h1
  split at h1
  · rename_i hc
    have hs := hc.2.1 h3
    rw [hj] at hs ⊢
    simp only [Int.toNat_natCast] at hs ⊢
    have hl := h.len
    have hx : L[j]? = some (L[j]'(by omega)) := by simp [show j < L.length by omega]
    rcases h2 j _ hx with h4 | h4
    · exact ⟨_, hx, h4.2⟩
    · rw [hs] at h4; cases h4.1
  · simp at h1
theorem Okst.next {L0 n m : Nat} {f : Nat → Int} {tm : Int} {t : Tex} {x : Ins} {r : List Ins} {S L : List (List Int)} (h : Okst L0 m (x :: r) S L) (hm : n * n = m) (hn : numB x = true) (hf : ∀ i, i < m * 5 → S9 (f i)) (ht : S9 tm) : Okst L0 m r (nextS n m f tm t x S L) (nextL x S L) := by
  obtain ⟨p, hp, hc⟩ := h.pops
  have hwf := h.wf
  have hloc := h.local
  have hrows := h.rows
  obtain ⟨d, st, h1, h2⟩ := h.run
  have hlen := h.len
  have hd : ∀ y ∈ S.drop (cutI x.op x.name S), good m y := fun y hy => hrows y (List.mem_of_mem_drop hy)
  have htk : ∀ y ∈ S.take (cutI x.op x.name S), good m y := fun y hy => hrows y (List.mem_of_mem_take hy)
  have hdl : (S.drop (cutI x.op x.name S)).length = p := by simp; omega
  have hga : ∀ i, i < p → good m ((S.drop (cutI x.op x.name S)).getD i []) := fun i hi => by
    have e : (S.drop (cutI x.op x.name S)).getD i [] = (S.drop (cutI x.op x.name S))[i]'(by omega) := by rw [List.getD, List.getElem?_eq_getElem (show i < (S.drop (cutI x.op x.name S)).length by omega)]; rfl
    rw [e]
    exact hd _ (List.getElem_mem _)
  unfold runD at h1
  split at h1
  case isFalse => simp at h1
  rename_i hcond
  generalize (if (S.length : Int) - popsI x.op x.name + pushI x.op > d then (S.length : Int) - popsI x.op x.name + pushI x.op else d) = d2 at h1
  by_cases h4 : x.op = 4
  · have hp1 : p = 1 := by
      rw [h4] at hp
      have : popsI 4 x.name = 1 := rfl
      omega
    have hq0 : pushI x.op = 0 := by rw [h4]; rfl
    obtain ⟨j, hj, hjL⟩ := wf_at hwf (.inr h4)
    refine ⟨⟨d2, markSt x.op x.num st, ?_, ?_⟩, ?_, ?_⟩
    · unfold nextS
      rw [if_pos h4, List.length_take, Nat.min_eq_left (by omega)]
      have e : ((S.length : Int) - popsI x.op x.name + pushI x.op) = (cutI x.op x.name S : Nat) := by rw [hp, hq0]; omega
      rw [e] at h1
      exact h1
    · intro i y hy
      unfold nextL at hy
      rw [if_pos h4, hj, Int.toNat_natCast] at hy
      unfold markSt
      rw [if_pos h4, hj, Int.toNat_natCast]
      rw [List.getElem?_set] at hy
      by_cases hij : j = i
      · subst hij
        rw [if_pos rfl, if_pos (by omega)] at hy
        injection hy with hy
        subst hy
        refine .inl ⟨by simp, ?_⟩
        have := hga 0 (by omega)
        rw [List.getD, List.getElem?_drop, Nat.add_zero] at this
        exact this
      · rw [if_neg hij] at hy
        have := h2 i y hy
        rw [if_neg (fun e => hij e.symm)]
        exact this
    · unfold nextL
      rw [if_pos h4, List.length_set]
      exact hlen
    · intro y hy
      unfold nextS at hy
      rw [if_pos h4] at hy
      exact htk y hy
  · have hq1 : pushI x.op = 1 := by unfold pushI; rw [if_neg h4]
    have hmk : markSt x.op x.num st = st := by unfold markSt; rw [if_neg h4]
    have hL : nextL x S L = L := by unfold nextL; rw [if_neg h4]
    have hrow : good m (rowI n m f tm t x.op x.name x.num (S.drop (cutI x.op x.name S)) L) := by
      unfold rowI
      split
      · have hb := inB_iff.1 (show inB x.num (-1000000000) 1000000000 = true from hn)
        refine ⟨by simp, fun y hy => ?_⟩
        rw [List.eq_of_mem_replicate hy]
        exact hb
      split
      · refine ⟨by simp, fun y hy => ?_⟩
        obtain ⟨i, hi, rfl⟩ := List.mem_map.1 hy
        exact varL_S9 _ hf ht (List.mem_range.1 hi)
      split
      · rename_i h3
        obtain ⟨xs, hx, hg⟩ := hloc h3
        rw [List.getD, hx]
        exact hg
      split
      · rename_i h5
        have hp5 : p = 1 := by
          rw [h5] at hp
          have : popsI 5 x.name = 1 := rfl
          omega
        exact zip_good (hga 0 (by omega)).1 (hga 0 (by omega)).1
      split
      · rename_i h6
        have hp6 : p = 2 := by
          rw [h6] at hp
          have : popsI 6 x.name = 2 := rfl
          omega
        exact zip_good (hga 0 (by omega)).1 (hga 1 (by omega)).1
      · exact call_good hm t _ _
    refine ⟨⟨d2, st, ?_, ?_⟩, by rw [hL]; exact hlen, ?_⟩
    · unfold nextS
      rw [if_neg h4, List.length_append, List.length_take, Nat.min_eq_left (by omega), List.length_singleton]
      rw [hmk] at h1
      have e : ((S.length : Int) - popsI x.op x.name + pushI x.op) = ((cutI x.op x.name S + 1 : Nat) : Int) := by rw [hp, hq1]; omega
      rw [e] at h1
      exact h1
    · rw [hL]
      exact h2
    · intro y hy
      unfold nextS at hy
      rw [if_neg h4] at hy
      rcases List.mem_append.1 hy with hy | hy
      · exact htk y hy
      · simp at hy
        subst hy
        exact hrow
end Go.Proofs.YtdkohjeobjejeaaGreat
end

section
/- This text proves the program's RunGrid. -/
namespace Go.Proofs.YtdkohjeobjejeaaGreat
open Go.RowKit

theorem opsOk_of {num : Int} (h : inB num 4 7 = true) : opsOk num := by
  have := inB_iff.1 h
  unfold opsOk
  omega
theorem execute_any {lo lo2 : Nat} {w : World} {mb n m : Nat} {pu tu : Value} {f : Nat → Int} {tm : Int} {t : Tex} {sv lv : Value} {vs us : List Value} {S L : List (List Int)} {x : Ins} {r : List Ins} {L0 : Nat} (M : Mach lo lo2 w mb n pu tu tm t.log sv lv vs us S L) (G : GridIn lo w n m pu tu f tm t) (ok : Okst L0 m (x :: r) S L) (hn : numB x = true) (hS : S.length ≤ 1000) :
    Calls Tryz.prog 39 #[.pointer (some ⟨mb, 0, none⟩), .agg #[.int .i64 x.op, .string x.name, .int .i64 x.num]] w fun e w' => e = .returned (.tuple #[]) ∧ (∃ sv' vs' us', Mach lo lo2 w' mb n pu tu tm t.log sv' lv vs' us' (nextS n m f tm t x S L) (nextL x S L)) ∧ Step lo w w' := by
  have hwf := ok.wf
  obtain ⟨p, hp, hc⟩ := ok.pops
  obtain ⟨q1, q2, q3⟩ := G.hmi
  have hloc := ok.local
  have hrows := ok.rows
  have hlen := ok.len
  clear ok
  obtain ⟨op, s, num⟩ := x
  simp only at hwf hp hc hloc ⊢
  have hop : 1 ≤ op ∧ op ≤ 7 := by
    by_cases h : 1 ≤ op ∧ op ≤ 7
    · exact h
    · unfold wfI at hwf
      rw [if_neg (by omega), if_neg (by omega), if_neg (by omega), if_neg (by omega), if_neg (by omega), if_neg (by omega), if_neg (by omega)] at hwf
      cases hwf
  have hnum := inB_iff.1 (show inB num (-1000000000) 1000000000 = true from hn)
  have wrap : ∀ {e : Ending} {w' : World} {S' L' : List (List Int)}, (nextS n m f tm t ⟨op, s, num⟩ S L = S') → (nextL ⟨op, s, num⟩ S L = L') → (e = .returned (.tuple #[]) ∧ (∃ sv' vs', Mach lo lo2 w' mb n pu tu tm t.log sv' lv vs' us S' L') ∧ Step lo w w') → (e = .returned (.tuple #[]) ∧ (∃ sv' vs' us', Mach lo lo2 w' mb n pu tu tm t.log sv' lv vs' us' (nextS n m f tm t ⟨op, s, num⟩ S L) (nextL ⟨op, s, num⟩ S L)) ∧ Step lo w w') := by
    intro e w' S' L' h1 h2 ⟨h3, ⟨sv', vs', h4⟩, h5⟩
    subst h1 h2
    exact ⟨h3, ⟨sv', vs', us, h4⟩, h5⟩
  rcases (show op = 1 ∨ op = 2 ∨ op = 3 ∨ op = 4 ∨ op = 5 ∨ op = 6 ∨ op = 7 by omega) with rfl | rfl | rfl | rfl | rfl | rfl | rfl
  · have h0 : p = 0 := by have : popsI 1 s = 0 := rfl; omega
    refine (exec1 M G s num ⟨by omega, by omega⟩ hS _ rfl).mono fun e w' h => wrap ?_ rfl h
    unfold nextS
    rw [if_neg (by simp), show cutI 1 s S = S.length by omega, List.take_length]
    rfl
  · have h0 : p = 0 := by have : popsI 2 s = 0 := rfl; omega
    refine (exec2 M G s num hS _ rfl).mono fun e w' h => wrap ?_ rfl h
    unfold nextS
    rw [if_neg (by simp), show cutI 2 s S = S.length by omega, List.take_length]
    rfl
  · have h0 : p = 0 := by have : popsI 3 s = 0 := rfl; omega
    obtain ⟨j, rfl, hj⟩ := wf_at hwf (.inl rfl)
    obtain ⟨xs, hx, hg⟩ := hloc rfl
    simp only [Int.toNat_natCast] at hx
    refine (exec3 (m := m) M s j xs hx (by rw [hg.1]; omega) (by rw [hg.1]; omega) hS).mono fun e w' h => wrap ?_ rfl h
    unfold nextS
    rw [if_neg (by simp), show cutI 3 s S = S.length by omega, List.take_length]
    unfold rowI
    rw [if_neg (by simp), if_neg (by simp), if_pos rfl, Int.toNat_natCast, List.getD, hx]
    rfl
  · have h0 : p = 1 := by have : popsI 4 s = 1 := rfl; omega
    obtain ⟨j, rfl, hj⟩ := wf_at hwf (.inr rfl)
    have h4 := exec4 M s j (cutI 4 s S) (by omega) (by omega) hS (fun r hr e => by have := (hrows r hr).1; rw [e] at this; simp at this; omega)
    unfold nextS nextL
    rw [if_pos rfl, if_pos rfl]
    exact h4
  · have h0 : p = 1 := by have : popsI 5 s = 1 := rfl; omega
    have hn3 : num = 3 := by simp [wfI] at hwf; exact hwf.2
    refine (exec5 (m := m) M s (cutI 5 s S) num (by subst hn3; unfold opsOk; omega) (by omega) hS hrows q3).mono fun e w' h => wrap ?_ rfl h
    unfold nextS
    rw [if_neg (by simp)]
    unfold rowI
    rw [if_neg (by simp), if_neg (by simp), if_neg (by simp), if_pos rfl]
    simp only [List.getD, List.getElem?_drop, Nat.add_zero]
  · have h0 : p = 2 := by have : popsI 6 s = 2 := rfl; omega
    have hn4 : inB num 4 7 = true := by simp [wfI] at hwf; exact hwf.2
    refine (exec6 (m := m) M s (cutI 6 s S) num (opsOk_of hn4) (by omega) hS hrows q3).mono fun e w' h => wrap ?_ rfl h
    unfold nextS
    rw [if_neg (by simp)]
    unfold rowI
    rw [if_neg (by simp), if_neg (by simp), if_neg (by simp), if_neg (by simp), if_pos rfl]
    simp only [List.getD, List.getElem?_drop, Nat.add_zero]
  · have hp7 : arity s = p := by have : popsI 7 s = arity s := rfl; omega
    have hab := arity_bd s
    refine (exec7 M G s num hS _ p (cutI 7 s S) hp7 (by omega) hc hrows rfl).mono fun e w' h => wrap ?_ rfl h
    unfold nextS
    rw [if_neg (by simp)]
    unfold rowI
    rw [if_neg (by simp), if_neg (by simp), if_neg (by simp), if_neg (by simp), if_neg (by simp)]
end Go.Proofs.YtdkohjeobjejeaaGreat
end

section
/- This text proves the program's RunGrid. -/
namespace Go.Proofs.YtdkohjeobjejeaaGreat
open Go.RowKit

/-- the slice value v owns rows that hold S, apart from one another -/
def OwnSS (lo : Nat) (w : World) (v : Value) (S : List (List Int)) : Prop := ∃ us, w.ownsRow lo 27 1 v us.length us ∧ Rws lo w us S ∧ Apt us ∧ Nls us S
/-- what RunGrid hands back, where it runs -/
def Cod.out (c : Cod) (g : Grd) : List (List Int) := runG g.n.toNat g.m g.f g.tm g.t c.xs [] (List.replicate c.ls.length [])
theorem iValid_val {g : Grd} {r : Bool} (h : g.okB = r) (lo hi : Nat) (v : Value) (w : World) (hv : g.R lo hi w v) (hh : hi ≤ w.heap.size) :
    Calls Tryz.prog 38 #[v] w fun e w' => e = .returned (.bool r) ∧ Ext w w' := h ▸ iIsValidGrid_any lo hi v g w hv hh
theorem sValid_val {g : Grd} {r : Bool} (h : g.okB = r) (lo hi : Nat) (v : Value) (w : World) (hv : g.R lo hi w v) (hh : hi ≤ w.heap.size) :
    Calls Tryz.prog 29 #[v] w fun e w' => e = .returned (.bool r) ∧ Ext w w' := h ▸ sIsValidGrid_any lo hi v g w hv hh
theorem Grd.parts {g : Grd} (h : g.okB = true) : ∃ n : Nat, g.n = n ∧ n * n = g.m ∧ 1 ≤ n ∧ n ≤ 8 ∧ g.t.okB = true ∧ S9 g.tm ∧ ∀ i, i < g.m * 5 → S9 (g.f i) := by
  unfold Grd.okB at h
  simp only [Bool.and_eq_true, decide_eq_true_eq, List.all_eq_true, List.mem_range] at h
  obtain ⟨⟨⟨⟨h1, h2⟩, h3⟩, h4⟩, h5⟩ := h
  have h1 := inB_iff.1 h1
  have h3 := inB_iff.1 h3
  obtain ⟨n, hn⟩ : ∃ n : Nat, g.n = n := ⟨g.n.toNat, by omega⟩
  rw [hn] at h1 h2
  have h6 : ((n * n : Nat) : Int) = (g.m : Int) := by rw [h2]; simp
  refine ⟨n, hn, by omega, by omega, by omega, h4, ⟨by omega, by omega⟩, fun i hi => ?_⟩
  have h7 := h5 (i / 5) (by omega)
  unfold ptB ptL at h7
  simp only [List.all_cons, List.all_nil, Bool.and_true, Bool.and_eq_true] at h7
  obtain ⟨a0, a1, a2, a3, a4⟩ := h7
  have hi5 : i = i / 5 * 5 + i % 5 := by omega
  have hlt : i % 5 < 5 := Nat.mod_lt _ (by decide)
  have key : inB (g.f i) (-1000000) 1000000 = true := by
    rcases (show i % 5 = 0 ∨ i % 5 = 1 ∨ i % 5 = 2 ∨ i % 5 = 3 ∨ i % 5 = 4 by omega) with e | e | e | e | e <;> rw [e] at hi5 <;> rw [hi5]
    · exact a0
    · exact a1
    · exact a2
    · exact a3
    · exact a4
  have := inB_iff.1 key
  exact ⟨by omega, by omega⟩
theorem Okst.start {c : Cod} {m : Nat} (h : c.depth.isSome = true) : Okst c.ls.length m c.xs [] (List.replicate c.ls.length []) := by
  unfold Cod.depth at h
  split at h
  · refine ⟨⟨0, fun _ => false, h, fun j r hj => .inr ⟨rfl, ?_⟩⟩, by simp, fun r hr => by cases hr⟩
    exact List.eq_of_mem_replicate (List.mem_of_getElem? hj)
  · simp at h
theorem Rws.nils (lo : Nat) (w : World) (k : Nat) : Rws lo w (List.replicate k (.slice none 0 0)) (List.replicate k []) := by
  refine ⟨by simp, fun i v xs h1 h2 => ?_⟩
  rw [List.eq_of_mem_replicate (List.mem_of_getElem? h1), List.eq_of_mem_replicate (List.mem_of_getElem? h2)]
  exact OwnInts.nil lo w
theorem Apt.nils (k : Nat) : Apt (List.replicate k (.slice none 0 0)) := by
  unfold Apt
  induction k with
  | zero => simp
  | succ k ih =>
    rw [List.replicate_succ, List.pairwise_cons]
    refine ⟨fun b hb j hj => ?_, ih⟩
    simp [Value.ownBlock] at hj
theorem ownsRow.fresh (w : World) (lo k : Nat) (hl : lo ≤ w.heap.size) (hk : k ≤ 2000000) : (w.alloc (.cells (madeCells #[.slice none 0 0] k) 27)).ownsRow lo 27 1 (.slice (some ⟨w.heap.size, 0, none⟩) k k) (List.replicate k (Value.slice none 0 0)).length (List.replicate k (.slice none 0 0)) := by
  have h := World.ownsRow_lit (size := 1) (e := 27) w (madeCells #[Value.slice none 0 0] k) k hl (by unfold maxLen; omega) (by rw [Nat.mul_one]; exact size_madeCells _ _)
  rw [toList_madeCells_one] at h
  simpa using h

set_option maxRecDepth 100000 in
set_option maxHeartbeats 6400000 in
theorem iRunGrid_no (lo hi lo' hi' : Nat) (v u : Value) (c : Cod) (g : Grd) (w : World) (hv : c.R lo hi w v) (hh : hi ≤ w.heap.size) (hu : g.R lo' hi' w u) (hh' : hi' ≤ w.heap.size) (hL : c.ls.length ≤ 2000000) (hno : (c.runB && g.okB) = false) :
    Calls Tryz.prog 10 #[v, u] w fun e w' => e = .returned (.tuple #[.slice none 0 0, .bool false]) ∧ Ext w w' := by
  have HV := hid hv
  have HU := hid hu
  obtain ⟨a1, c1, a2, c2, rfl, -, -⟩ := hv.form
  obtain ⟨pu, tu, rfl, -, -, -, -, -⟩ := hu
  clear hv
  cases h1 : c.runB
  · go_enter Tryz.func10, Tryz.ntmps10
    go_wp2_with (go_at_call 37; refine (iRunnable_val h1 lo hi _ _ (HV.out.ext hh (by repeat (with_reducible (first | assumption | exact Ext.refl _ | apply Ext.alloc | apply Ext.drew | apply Ext.drewN)))) (by simp; omega) hL).mono ?_; rintro e w1 ⟨rfl, x1⟩)
    refine bodyPost_ret (v := .tuple #[.slice none 0 0, .bool false]) (by simp [results, Tryz.results10, go_sem]) rfl ⟨rfl, Ext.trans (by repeat (with_reducible (first | assumption | exact Ext.refl _ | apply Ext.alloc | apply Ext.drew | apply Ext.drewN))) x1⟩
  · have h2 : g.okB = false := by rw [h1] at hno; simpa using hno
    have hbx := hid (show ∀ w1, Ext ((w.alloc (.cells #[.slice a1 c.xs.length c1, .slice a2 c.ls.length c2] 39)).alloc (.cells #[.int .i64 g.n, pu, .int .i64 g.tm, .int .i64 g.t.log, tu] 44)) w1 → w.heap.size + 1 < w1.heap.size ∧ w1.cell? ⟨w.heap.size + 1, 0, none⟩ = some (.int .i64 g.n) ∧ w1.cell? ⟨w.heap.size + 1, 1, none⟩ = some pu ∧ w1.cell? ⟨w.heap.size + 1, 2, none⟩ = some (.int .i64 g.tm) ∧ w1.cell? ⟨w.heap.size + 1, 3, none⟩ = some (.int .i64 g.t.log) ∧ w1.cell? ⟨w.heap.size + 1, 4, none⟩ = some tu from by
      intro w1 x1
      have := x1.size
      refine ⟨by simp at this; omega, ?_, ?_, ?_, ?_, ?_⟩ <;> (rw [x1.cells.1 _ _ (by simp)]; simp [go_sem]))
    go_enter Tryz.func10, Tryz.ntmps10
    go_wp2_with (go_at_call 37; refine (iRunnable_val h1 lo hi _ _ (HV.out.ext hh (by repeat (with_reducible (first | assumption | exact Ext.refl _ | apply Ext.alloc | apply Ext.drew | apply Ext.drewN)))) (by simp; omega) hL).mono ?_; rintro e w1 ⟨rfl, x1⟩; obtain ⟨d, d0, d1, d2, d3, d4⟩ := hbx.out w1 x1; have X1 : Ext w w1 := Ext.trans (by repeat (with_reducible (first | assumption | exact Ext.refl _ | apply Ext.alloc | apply Ext.drew | apply Ext.drewN))) x1; clear x1)
    refine (iValid_val h2 lo' hi' _ _ (HU.out.ext hh' X1) (by have := X1.size; omega)).mono ?_
    rintro e w2 ⟨rfl, x2⟩
    go_wp2
    refine bodyPost_ret (v := .tuple #[.slice none 0 0, .bool false]) (by simp [results, Tryz.results10, go_sem]) rfl ⟨rfl, X1.trans x2⟩
set_option maxRecDepth 100000 in
set_option maxHeartbeats 6400000 in
theorem iRunGrid_yes (lo hi lo' hi' : Nat) (v u : Value) (c : Cod) (g : Grd) (w : World) (hv : c.R lo hi w v) (hh : hi ≤ w.heap.size) (hu : g.R lo' hi' w u) (hh' : hi' ≤ w.heap.size) (hL : c.ls.length ≤ 2000000) (hyes : (c.runB && g.okB) = true) :
    Calls Tryz.prog 10 #[v, u] w fun e w' => ∃ r, e = .returned (.tuple #[r, .bool true]) ∧ OwnSS w.heap.size w' r (c.out g) ∧ Ext w w' := by
  have HV := hid hv
  have HU := hid hu
  obtain ⟨a1, c1, a2, c2, rfl, HI, -⟩ := hv.form
  obtain ⟨pu, tu, rfl, -, t64, l64, hp, ht⟩ := hu
  clear hv
  simp only [Bool.and_eq_true] at hyes
  obtain ⟨h1, h2⟩ := hyes
  obtain ⟨n, hn, hnn, n1, n8, hok, htm9, hf9⟩ := Grd.parts h2
  have hdep : c.depth.isSome = true := by unfold Cod.runB at h1; simp at h1; exact h1.1
  have hnums : ∀ x ∈ c.xs, numB x = true := by unfold Cod.runB at h1; simp at h1; exact h1.2
  have hlen : c.xs.length ≤ 300 := by
    unfold Cod.depth at hdep
    split at hdep
    · assumption
    · simp at hdep
  have hout : runG n g.m g.f g.tm g.t c.xs [] (List.replicate c.ls.length []) = c.out g := by unfold Cod.out; rw [hn]; rfl
  have HG := hid (show GridIn w.heap.size w n g.m pu tu g.f g.tm g.t from ⟨hp.wide (Nat.zero_le _) hh', ⟨tu, rfl, l64, ht.wide (Nat.zero_le _) hh'⟩, hnn, n1, n8, hok, htm9, hf9⟩)
  have HD := hid hdep
  have HN := hid hnums
  have HOUT := hid hout
  clear hp ht t64 l64 hnn hok htm9 hf9 hdep hnums hout
  rw [hn]
  replace hn := hid hn
  obtain ⟨i0, hi0, hz0, hz1, hz2⟩ := info_parts info_ints
  have hbx := hid (show ∀ w1, Ext ((w.alloc (.cells #[.slice a1 c.xs.length c1, .slice a2 c.ls.length c2] 39)).alloc (.cells #[.int .i64 n, pu, .int .i64 g.tm, .int .i64 g.t.log, tu] 44)) w1 → w.heap.size + 1 < w1.heap.size ∧ w1.cell? ⟨w.heap.size + 1, 0, none⟩ = some (.int .i64 n) ∧ w1.cell? ⟨w.heap.size + 1, 1, none⟩ = some pu ∧ w1.cell? ⟨w.heap.size + 1, 2, none⟩ = some (.int .i64 g.tm) ∧ w1.cell? ⟨w.heap.size + 1, 3, none⟩ = some (.int .i64 g.t.log) ∧ w1.cell? ⟨w.heap.size + 1, 4, none⟩ = some tu ∧ w.heap.size < w1.heap.size ∧ w1.cell? ⟨w.heap.size, 0, none⟩ = some (.slice a1 c.xs.length c1) ∧ w1.cell? ⟨w.heap.size, 1, none⟩ = some (.slice a2 c.ls.length c2) from by
    intro w1 x1
    have := x1.size
    simp at this
    refine ⟨by omega, ?_, ?_, ?_, ?_, ?_, by omega, ?_, ?_⟩ <;> (rw [x1.cells.1 _ _ (by simp <;> omega)]; simp [go_sem]))
  go_enter Tryz.func10, Tryz.ntmps10
  go_wp2_with (go_at_call 37; refine (iRunnable_val h1 lo hi _ _ (HV.out.ext hh (by repeat (with_reducible (first | assumption | exact Ext.refl _ | apply Ext.alloc | apply Ext.drew | apply Ext.drewN)))) (by simp; omega) hL).mono ?_; rintro e w1 ⟨rfl, x1⟩; obtain ⟨d, d0, d1, d2, d3, d4, -⟩ := hbx.out w1 x1)
  refine (iValid_val h2 lo' hi' _ _ (by have := HU.out.ext hh' (Ext.trans (by repeat (with_reducible (first | assumption | exact Ext.refl _ | apply Ext.alloc | apply Ext.drew | apply Ext.drewN))) x1 : Ext w w1); rw [hn.out] at this; exact this) (by have := x1.size; simp at this; omega)).mono ?_
  rintro e w2 ⟨rfl, x2⟩
  clear d d0 d1 d2 d3 d4
  obtain ⟨d, d0, d1, d2, d3, d4, e, e0, e1⟩ := hbx.out w2 (x1.trans x2)
  have X2 : Ext w w2 := (Ext.trans (by repeat (with_reducible (first | assumption | exact Ext.refl _ | apply Ext.alloc | apply Ext.drew | apply Ext.drewN))) x1 : Ext w w1).trans x2
  clear x1 x2 hbx
  have HX2 := hid X2
  go_wp2_with fail
  refine wp_region_stages [([0, 1, 2, 3], 4), ([5], 6), ([], 7)] 7 w2.heap.size (by kernel_rfl) (by kernel_rfl) ?_
  refine wpStages_cons ?_
  simp only [List.filterMap_cons, List.filterMap_nil, List.getElem?_toArray, List.getElem?_cons_zero, List.getElem?_cons_succ]
  show wpQuiet _ _ _ _ [_, _, _, _] _
  repeat (go_big_quiet_step (fail))
  refine wpQuiet_nil ⟨_, rfl, fun K hK => ?_⟩
  go_wp2_with (at_make; refine wpList_make_row _ rfl _ _ 34 rfl 27 i0 (.slice none 0 0) Tryz.underlying34 hi0 hz0 hz1 rfl .i64 .i64 c.ls.length rfl rfl (by rw [hz2]; omega) (by omega) ?_)
  go_wp2_with fail
  refine hK _ _ (.inr (fun k _ hk => Ext.block (by repeat (with_reducible (first | assumption | exact Ext.refl _ | apply Ext.alloc | apply Ext.drew | apply Ext.drewN))) (by first | omega | (simp; omega)))) ?_
  clear hK K
  clear hi0 hz0 hz1 hz2
  refine wpStages_cons ?_
  simp only [List.filterMap_cons, List.filterMap_nil, List.getElem?_toArray, List.getElem?_cons_zero, List.getElem?_cons_succ]
  show wpQuiet _ _ _ _ [_] _
  try simp only [Act.put, List.setIfInBounds_toArray, List.set_cons_succ, List.set_cons_zero]
  repeat (go_big_quiet_step (fail))
  refine wpQuiet_nil ⟨_, rfl, fun K hK => ?_⟩
  go_wp2_with fail
  go_wp2_with fail
  refine hK _ _ (.inr (fun k _ hk => Ext.block (by repeat (with_reducible (first | assumption | exact Ext.refl _ | apply Ext.alloc | apply Ext.drew | apply Ext.drewN))) (by first | omega | (simp; omega)))) ?_
  clear hK K
  refine wpStages_cons ?_
  simp only [List.filterMap_nil]
  show wpQuiet _ _ _ _ [] _
  try simp only [Act.put, List.setIfInBounds_toArray, List.set_cons_succ, List.set_cons_zero]
  repeat (go_big_quiet_step (fail))
  refine wpQuiet_nil ⟨_, rfl, fun K hK => ?_⟩
  go_wp2_with fail
  go_wp2_with fail
  refine hK _ _ (.inl (by trivial)) ?_
  clear hK K
  refine wpStages_nil ?_
  have M0 : Mach w.heap.size (w2.heap.size + 1) ((w2.drew.alloc (.cells (madeCells #[.slice none 0 0] c.ls.length) 27)).alloc (.cells #[.int .i64 n, pu, .int .i64 g.tm, .int .i64 g.t.log, tu, .slice none 0 0, .slice (some ⟨w2.heap.size, 0, none⟩) c.ls.length c.ls.length] 77)) (w2.heap.size + 1) n pu tu g.tm g.t.log (.slice none 0 0) (.slice (some ⟨w2.heap.size, 0, none⟩) c.ls.length c.ls.length) [] (List.replicate c.ls.length (.slice none 0 0)) [] (List.replicate c.ls.length []) := by
    have hz := X2.size
    have hf := ownsRow.fresh w2.drew w.heap.size c.ls.length hz hL
    refine ⟨?_, by omega, World.ownsRow_nil _ _ _ _, hf.alloc _, fun k hk => by simp [Value.ownBlock] at hk; omega, by omega, by simp, rfl, Rws.nils _ _ _, Apt.nils _, Nls.nils _⟩
    have := hnew (w2.drew.alloc (.cells (madeCells #[.slice none 0 0] c.ls.length) 27)) (.cells #[.int .i64 n, pu, .int .i64 g.tm, .int .i64 g.t.log, tu, .slice none 0 0, .slice (some ⟨w2.heap.size, 0, none⟩) c.ls.length c.ls.length] 77)
    simpa using this
  have X3 : Ext w ((w2.drew.alloc (.cells (madeCells #[.slice none 0 0] c.ls.length) 27)).alloc (.cells #[.int .i64 n, pu, .int .i64 g.tm, .int .i64 g.t.log, tu, .slice none 0 0, .slice (some ⟨w2.heap.size, 0, none⟩) c.ls.length c.ls.length] 77)) := (X2.drew.alloc _).alloc _
  have X23 : Ext w2 ((w2.drew.alloc (.cells (madeCells #[.slice none 0 0] c.ls.length) 27)).alloc (.cells #[.int .i64 n, pu, .int .i64 g.tm, .int .i64 g.t.log, tu, .slice none 0 0, .slice (some ⟨w2.heap.size, 0, none⟩) c.ls.length c.ls.length] 77)) := (by repeat (with_reducible (first | assumption | exact Ext.refl _ | apply Ext.alloc | apply Ext.drew | apply Ext.drewN)))
  have f0 := (X23.cells.1 _ 0 e).trans e0
  have f1 : w.heap.size < ((w2.drew.alloc (.cells (madeCells #[.slice none 0 0] c.ls.length) 27)).alloc (.cells #[.int .i64 n, pu, .int .i64 g.tm, .int .i64 g.t.log, tu, .slice none 0 0, .slice (some ⟨w2.heap.size, 0, none⟩) c.ls.length c.ls.length] 77)).heap.size := by have := X23.size; omega
  go_wp2_with fail
  have M0' := hid M0
  have HX3 := hid X3
  clear M0 X3 X23 f0 f1
  clear d d0 d1 d2 d3 d4 e e0 e1 X2
  have k1 := HI.le
  have k2 := HI.cap
  go_loopw [27] (fun i wr => ∃ (k : Nat) (sv : Value) (vs us : List Value) (S L : List (List Int)), k ≤ c.xs.length ∧ i = .int .i64 k ∧ Mach w.heap.size (w2.heap.size + 1) wr (w2.heap.size + 1) n pu tu g.tm g.t.log sv (.slice (some ⟨w2.heap.size, 0, none⟩) c.ls.length c.ls.length) vs us S L ∧ Okst c.ls.length g.m (c.xs.drop k) S L ∧ runG n g.m g.f g.tm g.t (c.xs.drop k) S L = c.out g ∧ S.length ≤ k ∧ Ext w wr) (fun i _ => c.xs.length - (intOf i).toNat)
  case atStart => exact ⟨0, _, _, _, _, _, by omega, rfl, M0'.out, by rw [List.drop_zero]; exact Okst.start HD.out, by rw [List.drop_zero]; exact HOUT.out, by simp, HX3.out⟩
  case round =>
    clear M0' HX3
    obtain ⟨k, sv, vs, us, S, L, hk, rfl, M, ok, hrun, hSk, hx⟩ := hrel
    by_cases hlt : k < c.xs.length
    · obtain ⟨b, off, op, s, num, rfl, hb1, hbw, hdrop, hget, io, inn, x0, x1, x2⟩ := HI.at hlt hx hh
      rw [hdrop] at ok hrun
      have hnb : numB ⟨op, s, num⟩ = true := HN.out _ (List.mem_of_getElem? hget)
      have y0 : Ext wr (wr.alloc (.cells #[.int .i64 op, .string s, .int .i64 num] 64)) := (by repeat (with_reducible (first | assumption | exact Ext.refl _ | apply Ext.alloc | apply Ext.drew | apply Ext.drewN)))
      have HC := hid (execute_any (M.ext y0) (HG.out.step (hx.trans y0)) ok hnb (by omega))
      have HK := hid (ok.next (t := g.t) HG.out.hm hnb HG.out.f9 HG.out.tm9)
      have hpq := ok.pops
      have HR := hid hrun
      have HX := hid (hx.trans y0)
      clear M ok hrun hget hdrop hx y0 hnb
      go_wp2_with fail
      refine HC.out.mono ?_
      rintro e w7 ⟨rfl, ⟨sv', vs', us', M'⟩, st⟩
      have HM' := hid M'
      have HS' := hid st
      clear M' st
      go_wp2
      go_roundw
      case rel =>
        refine ⟨k + 1, sv', vs', us', _, _, by omega, by go_num, HM'.out, HK.out, HR.out, ?_, Below.trans HX.out HS'.out.below⟩
        obtain ⟨p, hp1, hp2⟩ := hpq
        unfold nextS
        split
        · rw [List.length_take]; omega
        · rw [List.length_append, List.length_take, List.length_singleton]; omega
      case measure => simp [intOf]; omega
    · obtain rfl : k = c.xs.length := by omega
      rw [List.drop_length] at hrun
      have c6 := cell_of_cells M.box 6
      simp at c6
      have hb := M.lt
      have hrun' : L = c.out g := hrun
      have HM := hid M
      have HR := hid hrun'
      clear M ok hrun hrun'
      go_wp2
      refine bodyPost_ret (v := .tuple #[.slice (some ⟨w2.heap.size, 0, none⟩) c.ls.length c.ls.length, .bool true]) (by simp [results, Tryz.results10, go_sem]) rfl ⟨_, rfl, ?_, hx⟩
      rw [← HR.out]
      have M := HM.out
      exact ⟨us, M.lo', Rws.right M.sl M.rows, (List.pairwise_append.1 M.apt).2.1, M.nls⟩
end Go.Proofs.YtdkohjeobjejeaaGreat
end

section
/- This text proves what the law reads back of a texture that was marked. -/
namespace Go.Proofs.YtdkohjeobjejeaaGreat
open Go.RowKit
end Go.Proofs.YtdkohjeobjejeaaGreat
end

section
/- This text proves what the law reads back of marked textures. -/
namespace Go.Proofs.YtdkohjeobjejeaaGreat
open Go.RowKit
theorem heldRes_mark (n : Nat) : heldRes (upFrom 1 n) 1 = 1 + n := by unfold heldRes; rw [upFrom_length, if_pos rfl]
end Go.Proofs.YtdkohjeobjejeaaGreat
end

section
/- This text holds whole blocks as the walks know them: what a block of cells holds, and what becomes of it. -/
namespace Go.Proofs.YtdkohjeobjejeaaGreat
open Go.RowKit

/-- block g of w holds the cells cs of element type t, and may be written -/
def Blk (w : World) (g : Nat) (t : TypeId) (cs : List Value) : Prop := w.heap[g]? = some (.cells cs.toArray t (0, 0))
theorem Blk.lt {w : World} {g : Nat} {t : TypeId} {cs : List Value} (h : Blk w g t cs) : g < w.heap.size := (Array.getElem?_eq_some_iff.1 h).1
theorem Blk.cell {w : World} {g : Nat} {t : TypeId} {cs : List Value} (h : Blk w g t cs) (i : Nat) {v : Value} (hi : cs[i]? = some v) : w.cell? ⟨g, i, none⟩ = some v := by
  unfold Blk at h
  simp [World.cell?, h, hi]
theorem Blk.free {w : World} {g : Nat} {t : TypeId} {cs : List Value} (h : Blk w g t cs) (i : Nat) : w.frozen? ⟨g, i, none⟩ = false := by
  unfold Blk at h
  simp [World.frozen?, h]
theorem Blk.new (w : World) (t : TypeId) (cs : List Value) : Blk (w.alloc (.cells cs.toArray t)) w.heap.size t cs := by
  show (w.heap.push _)[w.heap.size]? = _
  simp
theorem Blk.of {w w' : World} {g : Nat} {t : TypeId} {cs : List Value} (h : Blk w g t cs) (e : w'.heap[g]? = w.heap[g]?) : Blk w' g t cs := e.trans h
theorem Blk.ext {w w' : World} {g : Nat} {t : TypeId} {cs : List Value} (h : Blk w g t cs) (e : Ext w w') : Blk w' g t cs := h.of (e.block h.lt)
theorem Blk.set {w : World} {g : Nat} {t : TypeId} {cs : List Value} (h : Blk w g t cs) (i : Nat) (v : Value) : Blk (w.setCell ⟨g, i, none⟩ v) g t (cs.set i v) := by
  have hlt := h.lt
  have h' : w.heap[g] = .cells cs.toArray t (0, 0) := by unfold Blk at h; simpa [Array.getElem?_eq_getElem hlt] using h
  show (w.heap.modify g _)[g]? = _
  rw [Array.getElem?_eq_getElem (by simpa using hlt), Array.getElem_modify_self, h']
  simp
theorem Blk.other {w : World} {g : Nat} {t : TypeId} {cs : List Value} (h : Blk w g t cs) {a : Addr} (ne : g ≠ a.block) (v : Value) : Blk (w.setCell a v) g t cs := h.of (Below.heap_setCell _ _ _ _ ne)
theorem Blk.grown {w w' : World} {g : Nat} {t : TypeId} {cs : List Value} {row : Option Nat} (h : Blk w g t cs) (hg : w.grownBy w' row) (ne : some g ≠ row) : Blk w' g t cs := h.of (hg.block g h.lt ne)

theorem OwnInts.grown {lo : Nat} {w w' : World} {v : Value} {xs : List Int} {row : Option Nat} (h : OwnInts lo w v xs) (hg : w.grownBy w' row) (ne : ∀ k, v.ownBlock = some k → some k ≠ row) : OwnInts lo w' v xs := by
  obtain ⟨⟨h1, h2⟩, h3⟩ := h
  refine ⟨⟨h1, ?_⟩, h3⟩
  rcases h2 with hn | ⟨g, cap, cur, rfl, hb, hh, r⟩
  · exact .inl hn
  · exact .inr ⟨g, cap, cur, rfl, hb, by rw [hg.block g ((Array.getElem?_eq_some_iff.1 hh).1) (ne g rfl)]; exact hh, r⟩
theorem OwnInts.setOther {lo : Nat} {w : World} {v : Value} {xs : List Int} (h : OwnInts lo w v xs) {a : Addr} (ne : v.ownBlock ≠ some a.block) (u : Value) : OwnInts lo (w.setCell a u) v xs := ⟨ownsRow_setCell_other h.1 ne u, h.2⟩
theorem OwnInts.fresh0 {lo g : Nat} {w : World} (hl : lo ≤ g) (h : Blk w g 3 []) : OwnInts lo w (.slice (some ⟨g, 0, none⟩) 0 0) [] :=
  ⟨⟨rfl, .inr ⟨g, 0, #[], rfl, hl, h, Nat.le_refl _, Nat.zero_le _, rfl, rfl⟩⟩, fun _ h => by cases h⟩
theorem OwnInts.block {lo : Nat} {w : World} {v : Value} {xs : List Int} (h : OwnInts lo w v xs) {k : Nat} (hk : v.ownBlock = some k) : ∃ cur, w.heap[k]? = some (.cells cur 3 (0, 0)) := by
  obtain ⟨⟨h1, h2⟩, h3⟩ := h
  rcases h2 with ⟨rfl, _⟩ | ⟨g, cap, cur, rfl, hb, hh, r⟩
  · cases hk
  · simp only [Value.ownBlock, Option.some.injEq] at hk
    subst hk
    exact ⟨cur, hh⟩
theorem Ext.gr {w w' : World} (h : Ext w w') (row : Option Nat) : w.grownBy w' row := ⟨h.os, h.tape, h.output, h.size, fun i hi _ => h.block hi⟩
theorem Ext.setNew {w w1 : World} (h : Ext w w1) {b : Nat} (hb : w.heap.size ≤ b) (i : Nat) (u : Value) : Ext w (w1.setCell ⟨b, i, none⟩ u) := h.setCell hb u
end Go.Proofs.YtdkohjeobjejeaaGreat
end

section
/- This text proves what the laws' helper functions over slices of rows do. -/
namespace Go.Proofs.YtdkohjeobjejeaaGreat
open Go.RowKit

/-- v owns, in the blocks from lo up to hi, rows that hold S -/
def SSO (lo hi : Nat) (w : World) (v : Value) (S : List (List Int)) : Prop := ∃ us, w.ownsRow lo 27 1 v us.length us ∧ Rws lo w us S ∧ Apt us ∧ (∀ k, v.ownBlock = some k → k < hi) ∧ ∀ u ∈ us, ∀ k, u.ownBlock = some k → k < hi
theorem Rws.blk {lo : Nat} {w : World} {us : List Value} {S : List (List Int)} (h : Rws lo w us S) : ∀ u ∈ us, ∀ k, u.ownBlock = some k → lo ≤ k ∧ k < w.heap.size := by
  intro u hu k hk
  obtain ⟨i, hi, rfl⟩ := List.getElem_of_mem hu
  have hl := h.len
  exact (h.own i us[i] (S[i]'(by omega)) (by simp [hi]) (by simp [show i < S.length by omega])).lt k hk
theorem OwnSS.o {lo : Nat} {w : World} {v : Value} {S : List (List Int)} (h : OwnSS lo w v S) : SSO lo w.heap.size w v S := by
  obtain ⟨us, h1, h2, h3, -⟩ := h
  exact ⟨us, h1, h2, h3, fun k hk => (World.ownsRow.lt h1 k hk).2, fun u hu k hk => (h2.blk u hu k hk).2⟩
theorem SSO.kp {lo hi : Nat} {w w' : World} {v : Value} {S : List (List Int)} (h : SSO lo hi w v S) (k : Kp lo hi w w') : SSO lo hi w' v S := by
  obtain ⟨us, h1, h2, h3, h4, h5⟩ := h
  refine ⟨us, ⟨h1.1, ?_⟩, ⟨h2.len, fun i u xs hu hx => ?_⟩, h3, h4, h5⟩
  · rcases h1.2 with hn | ⟨g, cap, cur, hv, hb, hg, r⟩
    · exact .inl hn
    · exact .inr ⟨g, cap, cur, hv, hb, by rw [k.2 g hb (h4 g (by rw [hv]; rfl))]; exact hg, r⟩
  · have hown := h2.own i u xs hu hx
    exact (IntsO.kp (hi := hi) ⟨hown, h5 u (List.mem_of_getElem? hu)⟩ k).1
theorem SSO.ss {lo hi : Nat} {w : World} {v : Value} {S : List (List Int)} (h : SSO lo hi w v S) : SS 0 w.heap.size w v S := by
  obtain ⟨us, h1, h2, _⟩ := h
  exact ownsRow.ss h1 h2
theorem SSO.form {lo hi : Nat} {w : World} {v : Value} {S : List (List Int)} (h : SSO lo hi w v S) : ∃ a c, v = .slice a S.length c := by
  obtain ⟨us, h1, h2, _⟩ := h
  obtain ⟨a, c, e⟩ := ownsRow.form h1
  exact ⟨a, c, by rw [e, h2.len]⟩
/-- the number of cells in all rows -/
def tot : List (List Int) → Nat
  | [] => 0
  | x :: r => x.length + tot r
/-- the rows, marked from k on -/
def markS : Int → List (List Int) → List (List Int)
  | _, [] => []
  | k, x :: r => upFrom k x.length :: markS (k + x.length) r
theorem tot_append (a b : List (List Int)) : tot (a ++ b) = tot a + tot b := by
  induction a with
  | nil => simp [tot]
  | cons x r ih => simp [tot, ih]; omega
theorem markS_append (k : Int) (a b : List (List Int)) : markS k (a ++ b) = markS k a ++ markS (k + tot a) b := by
  induction a generalizing k with
  | nil => simp [markS, tot]
  | cons x r ih =>
    simp only [List.cons_append, markS, tot, ih]
    rw [show k + ((x.length + tot r : Nat) : Int) = k + x.length + tot r by omega]
theorem markS_length (k : Int) (a : List (List Int)) : (markS k a).length = a.length := by
  induction a generalizing k with
  | nil => rfl
  | cons x r ih => simp [markS, ih]
theorem tot_take_succ {S : List (List Int)} {j : Nat} (h : j < S.length) : tot (S.take (j + 1)) = tot (S.take j) + S[j].length := by
  rw [List.take_succ_eq_append_getElem h, tot_append]
  simp [tot]
theorem tot_take_le (S : List (List Int)) (j : Nat) : tot (S.take j) ≤ tot S := by
  have := tot_append (S.take j) (S.drop j)
  rw [List.take_append_drop] at this
  omega
theorem markS_take_succ {S : List (List Int)} {j : Nat} (k : Int) (h : j < S.length) : markS k (S.take (j + 1)) = markS k (S.take j) ++ [upFrom (k + tot (S.take j)) S[j].length] := by
  rw [List.take_succ_eq_append_getElem h, markS_append]
  rfl
theorem eqIntS_same (lo hi lo' hi' : Nat) (u v : Value) (xs : List Int) (w : World) (hu : Ints lo hi w u xs) (hv : Ints lo' hi' w v xs) :
    Calls Tryz.prog 20 #[u, v] w fun e w' => e = .returned (.bool true) ∧ Ext w w' := (eqIntS_any lo hi lo' hi' u v xs xs w hu hv).mono fun e w' ⟨h1, n, h2⟩ => ⟨by rw [h1]; simp, by rw [h2]; exact (Ext.refl w).drewN n⟩
set_option maxRecDepth 20000 in
set_option maxHeartbeats 3200000 in
theorem eqIntSS_same (lo hi lo' hi' : Nat) (u v : Value) (S : List (List Int)) (w : World) (hu : SS lo hi w u S) (hv : SS lo' hi' w v S) (hh : hi ≤ w.heap.size) (hh' : hi' ≤ w.heap.size) :
    Calls Tryz.prog 11 #[u, v] w fun e w' => e = .returned (.bool true) ∧ Ext w w' := by
  obtain ⟨a, cap, rfl, HU⟩ := hu.open
  obtain ⟨a', cap', rfl, HV⟩ := hv.open
  clear hu hv
  have h1 := HU.le
  have h2 := HU.cap
  have h1' := HV.le
  have h2' := HV.cap
  go_enter Tryz.func11, Tryz.ntmps11
  go_wp2
  go_loopw [5] (fun i wr => ∃ k : Nat, k ≤ S.length ∧ i = .int .i64 k ∧ Ext w wr) (fun i _ => S.length - (intOf i).toNat)
  case atStart => exact ⟨0, by omega, rfl, (by repeat (with_reducible (first | assumption | exact Ext.refl _ | apply Ext.alloc | apply Ext.drew | apply Ext.drewN)))⟩
  case round =>
    obtain ⟨k, hk, rfl, hx⟩ := hrel
    by_cases hlt : k < S.length
    · obtain ⟨b, off, x, rfl, hb1, hb2, c0, hx0⟩ := HU.at hlt hx hh
      obtain ⟨b', off', y, rfl, hb1', hb2', d0, hy0⟩ := HV.at hlt hx hh'
      have HX := hid hx
      have HI := hid hx0
      have HJ := hid hy0
      clear hx hx0 hy0
      go_wp2
      refine wp_region_ext (by kernel_rfl) (by kernel_rfl) ?_
      repeat (go_big_quiet_step ((go_at_call 20; exact grow_call (eqIntS_same lo hi lo' hi' _ _ S[k] _ (HI.out.ext (by have := HX.out.size; omega) (grow_ext _ _)) (HJ.out.ext (by have := HX.out.size; omega) (grow_ext _ _))))))
      refine wpQuiet_nil ?_
      intro w1 h1
      have hX := HX.out.trans h1
      clear h1 HX
      go_wp2
      go_roundw
      case rel => exact ⟨k + 1, by omega, by go_num, hX⟩
      case measure => simp [intOf]; omega
    · go_wp2
      go_ret
      exact ⟨rfl, hx⟩
theorem markS_step {S : List (List Int)} {j : Nat} (k : Int) (h : j < S.length) : (markS k (S.take j) ++ S.drop j).set j (upFrom (k + tot (S.take j)) S[j].length) = markS k (S.take (j + 1)) ++ S.drop (j + 1) := by
  have hl : (markS k (S.take j)).length = j := by rw [markS_length, List.length_take]; omega
  rw [List.set_append_right _ _ (by omega), hl, Nat.sub_self, List.drop_eq_getElem_cons h, List.set_cons_zero, markS_take_succ k h, List.append_assoc]
  rfl
theorem Apt.ne {us : List Value} (h : Apt us) {i j : Nat} {u v : Value} (hi : us[i]? = some u) (hj : us[j]? = some v) (ne : i ≠ j) : ∀ k, u.ownBlock = some k → v.ownBlock ≠ some k := by
  obtain ⟨hi1, hi2⟩ := List.getElem?_eq_some_iff.1 hi
  obtain ⟨hj1, hj2⟩ := List.getElem?_eq_some_iff.1 hj
  have hp := List.pairwise_iff_getElem.1 h
  subst hi2 hj2
  intro k hk e
  rcases Nat.lt_or_gt_of_ne ne with hlt | hlt
  · exact hp i j hi1 hj1 hlt k hk e
  · exact hp j i hj1 hi1 hlt k e hk
theorem Rws.marked {lo : Nat} {w w' : World} {us : List Value} {T : List (List Int)} (h : Rws lo w us T) (ha : Apt us) {j : Nat} {u : Value} {xs : List Int} (hj : us[j]? = some u) (hv : OwnInts lo w' u xs) (hg : w.grownBy w' u.ownBlock) : Rws lo w' us (T.set j xs) := by
  refine ⟨by rw [List.length_set]; exact h.len, fun i v ys h1 h2 => ?_⟩
  by_cases hij : i = j
  · subst hij
    rw [h1] at hj
    injection hj with hj
    subst hj
    rw [List.getElem?_set] at h2
    rw [if_pos rfl] at h2
    split at h2
    · injection h2 with h2
      exact h2 ▸ hv
    · cases h2
  · rw [List.getElem?_set_ne (by omega)] at h2
    refine (h.own i v ys h1 h2).grown hg fun k hk e => ?_
    exact ha.ne h1 hj hij k hk e.symm
set_option maxRecDepth 20000 in
set_option maxHeartbeats 3200000 in
theorem markIntSS_any (lo hi : Nat) (v : Value) (S : List (List Int)) (w : World) (hv : SSO lo hi w v S) (hl : lo ≤ w.heap.size) (hsz : tot S ≤ 4503599627370496) :
    Calls Tryz.prog 16 #[v, .int .i64 1] w fun e w' => e = .returned (.int .i64 (1 + tot S)) ∧ SSO lo hi w' v (markS 1 S) ∧ Part lo hi w w' := by
  obtain ⟨a, c, rfl⟩ := hv.form
  obtain ⟨us, o1, o2, o3, o4, o5⟩ := hv
  have hlen := o2.len
  have HO := hid o1
  have HR := hid o2
  have HA := hid o3
  have H4 := hid o4
  have H5 := hid o5
  clear o1 o2 o3 o4 o5
  go_enter Tryz.func16, Tryz.ntmps16
  go_wp2
  go_loopw [1, 5] (fun q i wr => ∃ k : Nat, k ≤ S.length ∧ i = .int .i64 k ∧ q = .int .i64 (1 + tot (S.take k)) ∧ wr.ownsRow lo 27 1 (.slice a S.length c) us.length us ∧ Rws lo wr us (markS 1 (S.take k) ++ S.drop k) ∧ Part lo hi w wr) (fun _ i _ => S.length - (intOf i).toNat)
  case atStart => exact ⟨0, by omega, rfl, rfl, HO.out, by simpa [markS] using HR.out, ⟨Nat.le_refl _, Below.refl _ _, fun _ _ _ => rfl⟩⟩
  case round =>
    clear HO HR
    obtain ⟨k, hk, rfl, rfl, hown, hr, hp⟩ := hrel
    by_cases hlt : k < S.length
    · obtain ⟨g, c', e, hg1, hg2⟩ := ownsRow.form1 hown (by omega)
      simp only [Value.slice.injEq] at e
      obtain ⟨rfl, -, rfl⟩ := e
      obtain ⟨u, hu⟩ : ∃ u, us[k]? = some u := ⟨us[k]'(by omega), by simp [show k < us.length by omega]⟩
      have hc0 : wr.cell? ⟨g, k, none⟩ = some u := by
        have hh := hown
        rw [hlen] at hh
        rw [World.ownsRow.cellAt hh k (by omega)]
        exact hu
      have hcc := ownsRow.caps (by rw [hlen] at hown; exact hown)
      have hrow : OwnInts lo wr u S[k] := hr.own k u S[k] hu (by
        rw [List.getElem?_append_right (by rw [markS_length, List.length_take]; omega), markS_length, List.length_take, show k - min k S.length = 0 by omega, List.drop_eq_getElem_cons hlt]
        rfl)
      have ht : tot (S.take k) + S[k].length ≤ tot S := by rw [← tot_take_succ hlt]; exact tot_take_le S _
      have HOwn := hid hown
      have HRw := hid hr
      have HP := hid hp
      have HROW := hid hrow
      clear hown hr hp hrow
      go_wp2_with fail
      refine (markIntS_any lo u S[k] (1 + tot (S.take k)) _ HROW.out (by omega) (by omega)).mono ?_
      rintro e w1 ⟨rfl, hv1, hg⟩
      have hne : (Value.slice (some ⟨g, 0, none⟩) S.length c).ownBlock = none ∨ (Value.slice (some ⟨g, 0, none⟩) S.length c).ownBlock ≠ u.ownBlock := by
        refine .inr fun e => ?_
        obtain ⟨cur, hb⟩ := HROW.out.block (k := g) e.symm
        exact ownsRow.not HOwn.out hb (by decide) rfl
      have hO := HOwn.out.kept hg hne
      have hR := HRw.out.marked HA.out hu hv1 hg
      rw [markS_step 1 hlt] at hR
      have hub := fun k' hk' => And.intro (HROW.out.lt k' hk').1 (H5.out u (List.mem_of_getElem? hu) k' hk')
      have hz := HP.out.size
      have hP := Part.trans HP.out (Part.of hg hub (by omega))
      clear hub hz hne hg hv1 hu HROW HRw HOwn HP
      have HO' := hid hO
      have HR' := hid hR
      have HP' := hid hP
      clear hO hR hP
      go_wp2
      go_roundw
      case rel =>
        refine ⟨k + 1, by omega, by go_num, ?_, HO'.out, HR'.out, HP'.out⟩
        rw [tot_take_succ hlt]
        go_num
      case measure => simp [intOf]; omega
    · obtain rfl : k = S.length := by omega
      rw [List.take_length] at hr ⊢
      rw [List.drop_length, List.append_nil] at hr
      go_wp2
      go_ret
      exact ⟨rfl, ⟨us, hown, hr, HA.out, H4.out, H5.out⟩, hp⟩
set_option maxRecDepth 20000 in
set_option maxHeartbeats 3200000 in
theorem heldIntSS_mark (lo hi : Nat) (v : Value) (S : List (List Int)) (w : World) (hv : SS lo hi w v (markS 1 S)) (hh : hi ≤ w.heap.size) (hsz : tot S ≤ 4503599627370496) :
    Calls Tryz.prog 17 #[v, .int .i64 1] w fun e w' => e = .returned (.int .i64 (1 + tot S)) ∧ Ext w w' := by
  obtain ⟨a, cap, rfl, HU⟩ := hv.open
  clear hv
  have h1 := HU.le
  have h2 := HU.cap
  have hlen := markS_length 1 S
  rw [hlen] at h1 ⊢
  go_enter Tryz.func17, Tryz.ntmps17
  go_wp2
  go_loopw [1, 5] (fun q i wr => ∃ k : Nat, k ≤ S.length ∧ i = .int .i64 k ∧ q = .int .i64 (1 + tot (S.take k)) ∧ Ext w wr) (fun _ i _ => S.length - (intOf i).toNat)
  case atStart => exact ⟨0, by omega, rfl, rfl, (by repeat (with_reducible (first | assumption | exact Ext.refl _ | apply Ext.alloc | apply Ext.drew | apply Ext.drewN)))⟩
  case round =>
    obtain ⟨k, hk, rfl, rfl, hx⟩ := hrel
    by_cases hlt : k < S.length
    · obtain ⟨b, off, x, rfl, hb1, hb2, c0, hx0⟩ := HU.at (k := k) (by omega) hx hh
      have hrow : (markS 1 S)[k]'(by omega) = upFrom (1 + tot (S.take k)) S[k].length := by
        have h := markS_append 1 (S.take (k + 1)) (S.drop (k + 1))
        rw [List.take_append_drop, markS_take_succ 1 hlt] at h
        simp only [h]
        rw [List.getElem_append_left (by simp [markS_length]; omega), List.getElem_append_right (by rw [markS_length, List.length_take]; omega)]
        simp
      rw [hrow] at hx0
      have ht : tot (S.take k) + S[k].length ≤ tot S := by rw [← tot_take_succ hlt]; exact tot_take_le S _
      have HX := hid hx
      have hcall := heldIntS_any lo hi x _ (1 + tot (S.take k)) wr hx0 (by omega) (by rw [upFrom_length]; omega)
      have hres : heldRes (upFrom (1 + tot (S.take k)) S[k].length) (1 + tot (S.take k)) = 1 + tot (S.take (k + 1)) := by
        unfold heldRes
        rw [upFrom_length, if_pos rfl, tot_take_succ hlt]
        omega
      rw [hres] at hcall
      have HC := hid hcall
      have ht2 := tot_take_le S (k + 1)
      clear hx hx0 hrow hcall hres
      go_wp2_with fail
      refine HC.out.mono ?_
      rintro e w1 ⟨rfl, rfl⟩
      go_wp2
      go_roundw
      case rel => exact ⟨k + 1, by omega, by go_num, rfl, HX.out⟩
      case measure => simp [intOf]; omega
    · obtain rfl : k = S.length := by omega
      rw [List.take_length]
      go_wp2
      go_ret
      exact ⟨rfl, hx⟩
end Go.Proofs.YtdkohjeobjejeaaGreat
end

section
/- This text proves the reference's derivatives of a row. -/
namespace Go.Proofs.YtdkohjeobjejeaaGreat
open Go.RowKit

theorem diff_at {n j i : Nat} (hi : i < n) : (j * n + i) % n = i ∧ (j * n + i) / n = j := by
  constructor
  · rw [Nat.mul_comm, Nat.mul_add_mod]; exact Nat.mod_eq_of_lt hi
  · rw [Nat.mul_comm, Nat.mul_add_div (by omega), Nat.div_eq_of_lt hi, Nat.add_zero]
/-- the derivative along a row, a step ahead or a step back -/
theorem dCol {xs : List Int} {n j i : Nat} (hi : i < n) (hn : n ≠ 1) : dVal xs n false (j * n + i) = if i + 1 < n then satI (xs.getD (j * n + (i + 1)) 0 - xs.getD (j * n + i) 0) else satI (xs.getD (j * n + i) 0 - xs.getD (j * n + (i - 1)) 0) := by
  obtain ⟨h1, h2⟩ := diff_at (j := j) hi
  unfold dVal dAt dStep
  rw [if_neg hn]
  simp only [Bool.false_eq_true, if_false, h1]
  by_cases h : i + 1 < n
  · rw [if_pos (by omega), if_pos h, Nat.add_assoc]
  · rw [if_neg (by omega), if_neg h, Nat.add_sub_assoc (by omega)]
theorem dRow {xs : List Int} {n j i : Nat} (hi : i < n) (hn : n ≠ 1) : dVal xs n true (j * n + i) = if j + 1 < n then satI (xs.getD (j * n + n + i) 0 - xs.getD (j * n + i) 0) else satI (xs.getD (j * n + i) 0 - xs.getD (j * n - n + i) 0) := by
  obtain ⟨h1, h2⟩ := diff_at (j := j) hi
  unfold dVal dAt dStep
  rw [if_neg hn]
  simp only [if_true, h2]
  by_cases h : j + 1 < n
  · rw [if_pos (by omega), if_pos h, show j * n + i + n = j * n + n + i by omega]
  · rw [if_neg (by omega), if_neg h]
    have hj : 1 ≤ j ∨ j = 0 := by omega
    rcases hj with hj | hj
    · have : 1 * n ≤ j * n := Nat.mul_le_mul_right _ hj
      rw [show j * n + i - n = j * n - n + i by omega]
    · subst hj
      exact absurd (by omega) hn
theorem OwnInts.take_snoc {lo : Nat} {w : World} {v : Value} {D : List Int} {k : Nat} {x : Int} (h : OwnInts lo w v (D.take k ++ [x])) (hk : k < D.length) (hx : D[k] = x) : OwnInts lo w v (D.take (k + 1)) := by
  rw [List.take_succ_eq_append_getElem hk, hx]
  exact h
set_option maxRecDepth 100000 in
set_option maxHeartbeats 12800000 in
theorem sDiff_any (lo hi : Nat) (u : Value) (xs : List Int) (n : Nat) (rows : Bool) (w : World) (hu : Ints lo hi w u xs) (hh : hi ≤ w.heap.size) (hl : xs.length = n * n) (h1 : 1 ≤ n) (h8 : n ≤ 8) (hx9 : ∀ x ∈ xs, S9 x) :
    Calls Tryz.prog 60 #[u, .int .i64 n, .bool rows] w fun e w' => ∃ r, e = .returned r ∧ OwnInts w.heap.size w' r (diffs xs n rows) ∧ Ext w w' := by
  have HUU := hid hu
  obtain ⟨a, cap, rfl, HU⟩ := hu.open
  have l1 := HU.le
  have l2 := HU.cap
  have hm8 : n * n ≤ 8 * 8 := Nat.mul_le_mul h8 h8
  have hDl := diffs_length xs n rows
  have hDa := diffs_at xs n rows
  obtain ⟨D, hD⟩ : ∃ D, diffs xs n rows = D := ⟨_, rfl⟩
  rw [hD] at hDl
  have hDa2 : ∀ k (h : k < D.length), D[k] = dVal xs n rows k := by subst hD; exact hDa
  rw [hD]
  have HL := hid hl
  have H9 := hid hx9
  have HD := hid hDa2
  have HDl := hid hDl
  clear hu hx9 hDa hDa2 hD hDl hl
  obtain ⟨m, hm⟩ : ∃ m, n * n = m := ⟨_, rfl⟩
  have HM := hid hm
  have hl2 : xs.length = m := HL.out.trans hm
  rw [hm] at hm8
  clear hm
  rw [hl2] at l1 ⊢
  have HL2 := hid hl2
  clear hl2
  go_enter Tryz.func60, Tryz.ntmps60
  go_wp2_with fail
  have HU2 : Ints lo hi w (.slice a m cap) xs := by rw [← HL2.out]; exact HU.shut
  have x0 : Ext w (w.alloc (.cells #[] 3)) := (by repeat (with_reducible (first | assumption | exact Ext.refl _ | apply Ext.alloc | apply Ext.drew | apply Ext.drewN)))
  refine (l19Ok_any lo hi _ xs n _ (HU2.ext hh x0) h1 h8 HL.out).mono ?_
  rintro e w1 ⟨rfl, rfl⟩
  have hO := hid (OwnInts.lit0 w)
  have hXE := hid x0
  clear HU2 x0
  go_wp2
  go_loopw [23] (fun i wr => ∃ k : Nat, k ≤ m ∧ i = .int .i64 k ∧ wr = w.alloc (.cells #[] 3)) (fun i _ => m - (intOf i).toNat)
  case atStart => exact ⟨0, by omega, rfl, rfl⟩
  case round =>
    obtain ⟨k, hk, rfl, rfl⟩ := hrel
    by_cases hlt : k < m
    · have hkx : k < xs.length := by rw [HL2.out]; exact hlt
      obtain ⟨b, off, rfl, hb1, hb2, hc⟩ := HU.at hkx
      have hc2 := (hXE.out.cells.1 b (off + k) (by omega)).trans hc
      have h9 := H9.out _ (List.getElem_mem hkx)
      obtain ⟨x, hx⟩ : ∃ x, xs[k] = x := ⟨_, rfl⟩
      rw [hx] at hc2 h9
      have hin := hid (inB_iff.2 h9 : inB x (-1000000000) 1000000000 = true)
      have hbw : b < (w.alloc (.cells #[] 3)).heap.size := by have := hXE.out.size; omega
      clear hc hx h9
      go_wp2_with fail
      refine (l01In_val hin.out _).mono ?_
      rintro e w1 ⟨rfl, rfl⟩
      go_wp2
      go_roundw
      case rel => exact ⟨k + 1, by omega, by go_num, by trivial⟩
      case measure => simp [intOf]; omega
    · go_wp2
      go_loopw [7, 10] (fun v jv wr => ∃ j : Nat, j ≤ n ∧ jv = .int .i64 j ∧ OwnInts w.heap.size wr v (D.take (j * n)) ∧ Ext w wr) (fun _ jv _ => n - (intOf jv).toNat)
      case atStart => exact ⟨0, by omega, rfl, by simpa using hO.out, hXE.out⟩
      case round =>
        obtain ⟨j, hj, rfl, hown, hx⟩ := hrel
        by_cases hjn : j < n
        · have hp2 := Nat.mul_le_mul_right n (show j + 1 ≤ n from hjn)
          have hp4 : j + 1 < n → j * n + n + n ≤ m := fun h => by
            have := Nat.mul_le_mul_right n (show j + 2 ≤ n from h)
            rw [Nat.add_mul, HM.out] at this
            omega
          have hpn : 1 ≤ j → n ≤ j * n := fun h => by have := Nat.mul_le_mul_right n h; omega
          rw [Nat.add_mul, Nat.one_mul, HM.out] at hp2
          obtain ⟨p, hp⟩ : ∃ p, j * n = p := ⟨_, rfl⟩
          have hpi : (j : Int) * n = p := by rw [← hp]; simp
          have hpi2 : ((j : Int) + 1) * n = p + n := by rw [Int.add_mul, hpi, Int.one_mul]
          have hpi3 : ((j : Int) - 1) * n = p - n := by rw [Int.sub_mul, hpi, Int.one_mul]
          rw [hp] at hp2 hown hpn hp4
          have HP := hid hp
          have HO := hid hown
          have HX := hid hx
          clear hp hown hx
          go_wp2
          go_loopw [7, 11] (fun v iv wq => ∃ i : Nat, i ≤ n ∧ iv = .int .i64 i ∧ OwnInts w.heap.size wq v (D.take (p + i)) ∧ Ext w wq) (fun _ iv _ => n - (intOf iv).toNat)
          case atStart => exact ⟨0, by omega, rfl, HO.out, HX.out⟩
          case round =>
            clear HO HX
            obtain ⟨i, hi, rfl, hown, hx⟩ := hrel
            obtain ⟨av, cv, rfl, _⟩ := hown.form
            have hzz := hx.size
            have hDd := HDl.out
            rw [HM.out] at hDd
            replace hDd := hid hDd
            by_cases hin : i < n
            · have hlen : (D.take (p + i)).length = p + i := by rw [List.length_take, hDd.out]; omega
              rw [hlen] at hown ⊢
              have HLN := hid hlen
              clear hlen
              have hltD : p + i < D.length := by rw [hDd.out]; omega
              have HLT := hid hltD
              clear hltD
              by_cases hn1 : n = 1
              · have e1 : ((n : Int) == 1) = true := by simp [hn1]
                have hv := hid (show D[p + i]'HLT.out = 0 by rw [HD.out]; unfold dVal; rw [if_pos hn1])
                have HN := hid hn1
                have HO := hid hown
                have HX := hid hx
                clear hn1 hown hx
                go_wp2_with (at_builtin; refine wpList_append1 _ rfl _ _ rfl w.heap.size _ _ rfl (HO.out.alloc _) 0 ⟨by omega, by omega⟩ wr.heap.size rfl (by simp [go_sem]) (by rw [HLN.out]; omega) (by simp; omega) ?_; intro v' w7 hown hg)
                have hown2 := hown.take_snoc HLT.out hv.out
                go_wp2
                go_roundw
                case rel => exact ⟨i + 1, by omega, by go_num, hown2, Ext.grown (HX.out.alloc _) hg (fun g e => (HO.out.lt g e).1)⟩
                case measure => simp [intOf]; omega
              · have e1 : ((n : Int) == 1) = false := by simp; omega
                have HN := hid hn1
                clear hn1
                cases rows
                · by_cases hs : i + 1 < n
                  · have k1 : (p + (i + 1)) < xs.length := by rw [HL2.out]; omega
                    have k2 : (p + i) < xs.length := by rw [HL2.out]; omega
                    obtain ⟨b, off, rfl, hb1, hb2, hc1⟩ := HU.at k1
                    obtain ⟨b', off', e', hb1', hb2', hc2⟩ := HU.at k2
                    simp only [Option.some.injEq, Addr.mk.injEq, and_true] at e'
                    obtain ⟨rfl, rfl⟩ := e'
                    have g1 := H9.out _ (List.getElem_mem k1)
                    have g2 := H9.out _ (List.getElem_mem k2)
                    have c1 := (hx.cells.1 b _ (by omega)).trans hc1
                    have c2 := (hx.cells.1 b _ (by omega)).trans hc2
                    have hbw : b < w.heap.size := by omega
                    have hv : D[p + i]'HLT.out = satI (xs[(p + (i + 1))] - xs[(p + i)]) := by
                      rw [HD.out]
                      have := dCol (xs := xs) (j := j) hin HN.out
                      rw [HP.out] at this
                      rw [this, if_pos hs, getD_at _ _ k1, getD_at _ _ k2]
                    obtain ⟨y1, hy1⟩ : ∃ y, xs[(p + (i + 1))] = y := ⟨_, rfl⟩
                    obtain ⟨y2, hy2⟩ : ∃ y, xs[(p + i)] = y := ⟨_, rfl⟩
                    rw [hy1] at c1 g1 hv
                    rw [hy2] at c2 g2 hv
                    obtain ⟨z, hz⟩ : ∃ z, satI (y1 - y2) = z := ⟨_, rfl⟩
                    have hz9 := hid (satI_S9 (y1 - y2)).i64
                    rw [hz] at hv hz9
                    have HZ := hid hz
                    have HV := hid hv
                    have HO := hid hown
                    have HX := hid hx
                    obtain ⟨g3, g4⟩ := g1
                    obtain ⟨g5, g6⟩ := g2
                    have hbr : b < wr.heap.size := by omega
                    clear hv hz hy1 hy2 hc1 hc2 k1 k2 hown hx
                    go_wp2_with fail
                    refine (l17Pair_any n i _ (by omega) (by omega)).mono ?_
                    rintro e w1 ⟨rfl, rfl⟩
                    rw [if_pos hs, if_pos hs]
                    go_wp2_with fail
                    refine wp_region_stages [([0, 1, 2, 3, 4, 5, 6, 7, 8, 9, 10, 11, 12, 13, 14, 15, 16, 17], 18), ([], 19), ([], 20), ([], 21)] 99 w.heap.size (by kernel_rfl) (by kernel_rfl) ?_
                    refine wpStages_cons ?_
                    simp only [List.filterMap_cons, List.filterMap_nil, List.getElem?_toArray, List.getElem?_cons_zero, List.getElem?_cons_succ]
                    show wpQuiet _ _ _ _ [_, _, _, _, _, _, _, _, _, _, _, _, _, _, _, _, _, _] _
                    repeat (go_big_quiet_step (fail))
                    refine wpQuiet_nil ⟨_, rfl, fun K hK => ?_⟩
                    go_wp2_with fail
                    refine (sSaturate_val HZ.out _).mono ?_
                    rintro e w1 ⟨rfl, rfl⟩
                    go_wp2_with fail
                    refine hK _ _ (.inr (fun k _ hk => Ext.block (by repeat (with_reducible (first | assumption | exact Ext.refl _ | apply Ext.alloc | apply Ext.drew | apply Ext.drewN))) (by first | omega | (simp; omega)))) ?_
                    clear hK K
                    refine wpStages_cons ?_
                    simp only [List.filterMap_nil]
                    show wpQuiet _ _ _ _ [] _
                    try simp only [Act.put, List.setIfInBounds_toArray, List.set_cons_succ, List.set_cons_zero]
                    repeat (go_big_quiet_step (fail))
                    refine wpQuiet_nil ⟨_, rfl, fun K hK => ?_⟩
                    go_wp2_with fail
                    go_wp2_with fail
                    refine hK _ _ (.inr (fun k _ hk => Ext.block (by repeat (with_reducible (first | assumption | exact Ext.refl _ | apply Ext.alloc | apply Ext.drew | apply Ext.drewN))) (by first | omega | (simp; omega)))) ?_
                    clear hK K
                    refine wpStages_cons ?_
                    simp only [List.filterMap_nil]
                    show wpQuiet _ _ _ _ [] _
                    try simp only [Act.put, List.setIfInBounds_toArray, List.set_cons_succ, List.set_cons_zero]
                    repeat (go_big_quiet_step (fail))
                    refine wpQuiet_nil ⟨_, rfl, fun K hK => ?_⟩
                    refine wpList_append1 _ rfl _ _ rfl w.heap.size _ _ rfl (HO.out.ext (by repeat (with_reducible (first | assumption | exact Ext.refl _ | apply Ext.alloc | apply Ext.drew | apply Ext.drewN)))) z hz9.out wr.heap.size rfl (by simp [go_sem]) (by rw [HLN.out]; omega) (by simp; omega) ?_
                    intro v' w7 hown hg
                    have X7 : Ext w w7 := Ext.grown (Ext.trans HX.out (by repeat (with_reducible (first | assumption | exact Ext.refl _ | apply Ext.alloc | apply Ext.drew | apply Ext.drewN)))) hg (fun g e => (HO.out.lt g e).1)
                    have hown2 := hown.take_snoc HLT.out HV.out
                    have hln2 : (D.take (p + i + 1)).length = p + i + 1 := by rw [List.length_take, hDd.out]; omega
                    clear hown
                    obtain ⟨va, vc, rfl, _⟩ := hown2.form
                    rw [hln2] at hown2 ⊢
                    replace hown2 := hid hown2
                    clear hln2
                    go_wp2_with fail
                    refine hK _ _ (.inr (fun k _ hk => (X7.block hk).trans (HX.out.block hk).symm)) ?_
                    clear hK K
                    refine wpStages_cons ?_
                    simp only [List.filterMap_nil]
                    show wpQuiet _ _ _ _ [] _
                    try simp only [Act.put, List.setIfInBounds_toArray, List.set_cons_succ, List.set_cons_zero]
                    repeat (go_big_quiet_step (fail))
                    refine wpQuiet_nil ⟨_, rfl, fun K hK => ?_⟩
                    go_wp2_with fail
                    go_wp2_with fail
                    refine hK _ _ (.inr (fun k _ hk => (X7.block hk).trans (HX.out.block hk).symm)) ?_
                    clear hK K
                    refine wpStages_nil ?_
                    go_wp2
                    go_roundw
                    case rel => exact ⟨i + 1, by omega, by go_num, hown2.out, X7⟩
                    case measure => simp [intOf]; omega
                  · obtain ⟨i', rfl⟩ : ∃ i', i = i' + 1 := ⟨i - 1, by have := HN.out; omega⟩
                    have hi'1 : ((i' : Int) + 1) - 1 = i' := by omega
                    have k1 : (p + (i' + 1)) < xs.length := by rw [HL2.out]; omega
                    have k2 : (p + i') < xs.length := by rw [HL2.out]; omega
                    obtain ⟨b, off, rfl, hb1, hb2, hc1⟩ := HU.at k1
                    obtain ⟨b', off', e', hb1', hb2', hc2⟩ := HU.at k2
                    simp only [Option.some.injEq, Addr.mk.injEq, and_true] at e'
                    obtain ⟨rfl, rfl⟩ := e'
                    have g1 := H9.out _ (List.getElem_mem k1)
                    have g2 := H9.out _ (List.getElem_mem k2)
                    have c1 := (hx.cells.1 b _ (by omega)).trans hc1
                    have c2 := (hx.cells.1 b _ (by omega)).trans hc2
                    have hbw : b < w.heap.size := by omega
                    have hv : D[p + (i' + 1)]'HLT.out = satI (xs[(p + (i' + 1))] - xs[(p + i')]) := by
                      rw [HD.out]
                      have := dCol (xs := xs) (j := j) hin HN.out
                      rw [HP.out] at this
                      rw [this, if_neg hs, show i' + 1 - 1 = i' from rfl, getD_at _ _ k1, getD_at _ _ k2]
                    obtain ⟨y1, hy1⟩ : ∃ y, xs[(p + (i' + 1))] = y := ⟨_, rfl⟩
                    obtain ⟨y2, hy2⟩ : ∃ y, xs[(p + i')] = y := ⟨_, rfl⟩
                    rw [hy1] at c1 g1 hv
                    rw [hy2] at c2 g2 hv
                    obtain ⟨z, hz⟩ : ∃ z, satI (y1 - y2) = z := ⟨_, rfl⟩
                    have hz9 := hid (satI_S9 (y1 - y2)).i64
                    rw [hz] at hv hz9
                    have HZ := hid hz
                    have HV := hid hv
                    have HO := hid hown
                    have HX := hid hx
                    obtain ⟨g3, g4⟩ := g1
                    obtain ⟨g5, g6⟩ := g2
                    have hbr : b < wr.heap.size := by omega
                    clear hv hz hy1 hy2 hc1 hc2 k1 k2 hown hx
                    go_wp2_with fail
                    refine (l17Pair_any n (i' + 1) _ (by omega) (by omega)).mono ?_
                    rintro e w1 ⟨rfl, rfl⟩
                    rw [if_neg hs, if_neg hs]
                    go_wp2_with fail
                    refine wp_region_stages [([0, 1, 2, 3, 4, 5, 6, 7, 8, 9, 10, 11, 12, 13, 14, 15, 16, 17], 18), ([], 19), ([], 20), ([], 21)] 99 w.heap.size (by kernel_rfl) (by kernel_rfl) ?_
                    refine wpStages_cons ?_
                    simp only [List.filterMap_cons, List.filterMap_nil, List.getElem?_toArray, List.getElem?_cons_zero, List.getElem?_cons_succ]
                    show wpQuiet _ _ _ _ [_, _, _, _, _, _, _, _, _, _, _, _, _, _, _, _, _, _] _
                    repeat (go_big_quiet_step (fail))
                    refine wpQuiet_nil ⟨_, rfl, fun K hK => ?_⟩
                    go_wp2_with fail
                    refine (sSaturate_val HZ.out _).mono ?_
                    rintro e w1 ⟨rfl, rfl⟩
                    go_wp2_with fail
                    refine hK _ _ (.inr (fun k _ hk => Ext.block (by repeat (with_reducible (first | assumption | exact Ext.refl _ | apply Ext.alloc | apply Ext.drew | apply Ext.drewN))) (by first | omega | (simp; omega)))) ?_
                    clear hK K
                    refine wpStages_cons ?_
                    simp only [List.filterMap_nil]
                    show wpQuiet _ _ _ _ [] _
                    try simp only [Act.put, List.setIfInBounds_toArray, List.set_cons_succ, List.set_cons_zero]
                    repeat (go_big_quiet_step (fail))
                    refine wpQuiet_nil ⟨_, rfl, fun K hK => ?_⟩
                    go_wp2_with fail
                    go_wp2_with fail
                    refine hK _ _ (.inr (fun k _ hk => Ext.block (by repeat (with_reducible (first | assumption | exact Ext.refl _ | apply Ext.alloc | apply Ext.drew | apply Ext.drewN))) (by first | omega | (simp; omega)))) ?_
                    clear hK K
                    refine wpStages_cons ?_
                    simp only [List.filterMap_nil]
                    show wpQuiet _ _ _ _ [] _
                    try simp only [Act.put, List.setIfInBounds_toArray, List.set_cons_succ, List.set_cons_zero]
                    repeat (go_big_quiet_step (fail))
                    refine wpQuiet_nil ⟨_, rfl, fun K hK => ?_⟩
                    refine wpList_append1 _ rfl _ _ rfl w.heap.size _ _ rfl (HO.out.ext (by repeat (with_reducible (first | assumption | exact Ext.refl _ | apply Ext.alloc | apply Ext.drew | apply Ext.drewN)))) z hz9.out wr.heap.size rfl (by simp [go_sem]) (by rw [HLN.out]; omega) (by simp; omega) ?_
                    intro v' w7 hown hg
                    have X7 : Ext w w7 := Ext.grown (Ext.trans HX.out (by repeat (with_reducible (first | assumption | exact Ext.refl _ | apply Ext.alloc | apply Ext.drew | apply Ext.drewN)))) hg (fun g e => (HO.out.lt g e).1)
                    have hown2 := hown.take_snoc HLT.out HV.out
                    have hln2 : (D.take (p + (i' + 1) + 1)).length = p + (i' + 1) + 1 := by rw [List.length_take, hDd.out]; omega
                    clear hown
                    obtain ⟨va, vc, rfl, _⟩ := hown2.form
                    rw [hln2] at hown2 ⊢
                    replace hown2 := hid hown2
                    clear hln2
                    go_wp2_with fail
                    refine hK _ _ (.inr (fun k _ hk => (X7.block hk).trans (HX.out.block hk).symm)) ?_
                    clear hK K
                    refine wpStages_cons ?_
                    simp only [List.filterMap_nil]
                    show wpQuiet _ _ _ _ [] _
                    try simp only [Act.put, List.setIfInBounds_toArray, List.set_cons_succ, List.set_cons_zero]
                    repeat (go_big_quiet_step (fail))
                    refine wpQuiet_nil ⟨_, rfl, fun K hK => ?_⟩
                    go_wp2_with fail
                    go_wp2_with fail
                    refine hK _ _ (.inr (fun k _ hk => (X7.block hk).trans (HX.out.block hk).symm)) ?_
                    clear hK K
                    refine wpStages_nil ?_
                    go_wp2
                    go_roundw
                    case rel => exact ⟨i' + 1 + 1, by omega, by go_num, hown2.out, X7⟩
                    case measure => simp [intOf]; omega
                · by_cases hs : j + 1 < n
                  · have k1 : (p + n + i) < xs.length := by rw [HL2.out]; omega
                    have k2 : (p + i) < xs.length := by rw [HL2.out]; omega
                    obtain ⟨b, off, rfl, hb1, hb2, hc1⟩ := HU.at k1
                    obtain ⟨b', off', e', hb1', hb2', hc2⟩ := HU.at k2
                    simp only [Option.some.injEq, Addr.mk.injEq, and_true] at e'
                    obtain ⟨rfl, rfl⟩ := e'
                    have g1 := H9.out _ (List.getElem_mem k1)
                    have g2 := H9.out _ (List.getElem_mem k2)
                    have c1 := (hx.cells.1 b _ (by omega)).trans hc1
                    have c2 := (hx.cells.1 b _ (by omega)).trans hc2
                    have hbw : b < w.heap.size := by omega
                    have hv : D[p + i]'HLT.out = satI (xs[(p + n + i)] - xs[(p + i)]) := by
                      rw [HD.out]
                      have := dRow (xs := xs) (j := j) hin HN.out
                      rw [HP.out] at this
                      rw [this, if_pos hs, getD_at _ _ k1, getD_at _ _ k2]
                    obtain ⟨y1, hy1⟩ : ∃ y, xs[(p + n + i)] = y := ⟨_, rfl⟩
                    obtain ⟨y2, hy2⟩ : ∃ y, xs[(p + i)] = y := ⟨_, rfl⟩
                    rw [hy1] at c1 g1 hv
                    rw [hy2] at c2 g2 hv
                    obtain ⟨z, hz⟩ : ∃ z, satI (y1 - y2) = z := ⟨_, rfl⟩
                    have hz9 := hid (satI_S9 (y1 - y2)).i64
                    rw [hz] at hv hz9
                    have HZ := hid hz
                    have HV := hid hv
                    have HO := hid hown
                    have HX := hid hx
                    obtain ⟨g3, g4⟩ := g1
                    obtain ⟨g5, g6⟩ := g2
                    have hbr : b < wr.heap.size := by omega
                    clear hv hz hy1 hy2 hc1 hc2 k1 k2 hown hx
                    go_wp2_with fail
                    refine (l17Pair_any n j _ (by omega) (by omega)).mono ?_
                    rintro e w1 ⟨rfl, rfl⟩
                    rw [if_pos hs, if_pos hs]
                    go_wp2_with fail
                    refine wp_region_stages [([0, 1, 2, 3, 4, 5, 6, 7, 8, 9, 10, 11, 12, 13, 14, 15, 16, 17], 18), ([], 19), ([], 20), ([], 21)] 99 w.heap.size (by kernel_rfl) (by kernel_rfl) ?_
                    refine wpStages_cons ?_
                    simp only [List.filterMap_cons, List.filterMap_nil, List.getElem?_toArray, List.getElem?_cons_zero, List.getElem?_cons_succ]
                    show wpQuiet _ _ _ _ [_, _, _, _, _, _, _, _, _, _, _, _, _, _, _, _, _, _] _
                    repeat (go_big_quiet_step (fail))
                    refine wpQuiet_nil ⟨_, rfl, fun K hK => ?_⟩
                    go_wp2_with fail
                    refine (sSaturate_val HZ.out _).mono ?_
                    rintro e w1 ⟨rfl, rfl⟩
                    go_wp2_with fail
                    refine hK _ _ (.inr (fun k _ hk => Ext.block (by repeat (with_reducible (first | assumption | exact Ext.refl _ | apply Ext.alloc | apply Ext.drew | apply Ext.drewN))) (by first | omega | (simp; omega)))) ?_
                    clear hK K
                    refine wpStages_cons ?_
                    simp only [List.filterMap_nil]
                    show wpQuiet _ _ _ _ [] _
                    try simp only [Act.put, List.setIfInBounds_toArray, List.set_cons_succ, List.set_cons_zero]
                    repeat (go_big_quiet_step (fail))
                    refine wpQuiet_nil ⟨_, rfl, fun K hK => ?_⟩
                    go_wp2_with fail
                    go_wp2_with fail
                    refine hK _ _ (.inr (fun k _ hk => Ext.block (by repeat (with_reducible (first | assumption | exact Ext.refl _ | apply Ext.alloc | apply Ext.drew | apply Ext.drewN))) (by first | omega | (simp; omega)))) ?_
                    clear hK K
                    refine wpStages_cons ?_
                    simp only [List.filterMap_nil]
                    show wpQuiet _ _ _ _ [] _
                    try simp only [Act.put, List.setIfInBounds_toArray, List.set_cons_succ, List.set_cons_zero]
                    repeat (go_big_quiet_step (fail))
                    refine wpQuiet_nil ⟨_, rfl, fun K hK => ?_⟩
                    refine wpList_append1 _ rfl _ _ rfl w.heap.size _ _ rfl (HO.out.ext (by repeat (with_reducible (first | assumption | exact Ext.refl _ | apply Ext.alloc | apply Ext.drew | apply Ext.drewN)))) z hz9.out wr.heap.size rfl (by simp [go_sem]) (by rw [HLN.out]; omega) (by simp; omega) ?_
                    intro v' w7 hown hg
                    have X7 : Ext w w7 := Ext.grown (Ext.trans HX.out (by repeat (with_reducible (first | assumption | exact Ext.refl _ | apply Ext.alloc | apply Ext.drew | apply Ext.drewN)))) hg (fun g e => (HO.out.lt g e).1)
                    have hown2 := hown.take_snoc HLT.out HV.out
                    have hln2 : (D.take (p + i + 1)).length = p + i + 1 := by rw [List.length_take, hDd.out]; omega
                    clear hown
                    obtain ⟨va, vc, rfl, _⟩ := hown2.form
                    rw [hln2] at hown2 ⊢
                    replace hown2 := hid hown2
                    clear hln2
                    go_wp2_with fail
                    refine hK _ _ (.inr (fun k _ hk => (X7.block hk).trans (HX.out.block hk).symm)) ?_
                    clear hK K
                    refine wpStages_cons ?_
                    simp only [List.filterMap_nil]
                    show wpQuiet _ _ _ _ [] _
                    try simp only [Act.put, List.setIfInBounds_toArray, List.set_cons_succ, List.set_cons_zero]
                    repeat (go_big_quiet_step (fail))
                    refine wpQuiet_nil ⟨_, rfl, fun K hK => ?_⟩
                    go_wp2_with fail
                    go_wp2_with fail
                    refine hK _ _ (.inr (fun k _ hk => (X7.block hk).trans (HX.out.block hk).symm)) ?_
                    clear hK K
                    refine wpStages_nil ?_
                    go_wp2
                    go_roundw
                    case rel => exact ⟨i + 1, by omega, by go_num, hown2.out, X7⟩
                    case measure => simp [intOf]; omega
                  · obtain ⟨p', rfl⟩ : ∃ p', p = p' + n := ⟨p - n, by have := HN.out; have := hpn (by omega); omega⟩
                    have hpi4 : ((j : Int) - 1) * n = p' := by rw [hpi3]; omega
                    clear hpi3
                    have k1 : (p' + n + i) < xs.length := by rw [HL2.out]; omega
                    have k2 : (p' + i) < xs.length := by rw [HL2.out]; omega
                    obtain ⟨b, off, rfl, hb1, hb2, hc1⟩ := HU.at k1
                    obtain ⟨b', off', e', hb1', hb2', hc2⟩ := HU.at k2
                    simp only [Option.some.injEq, Addr.mk.injEq, and_true] at e'
                    obtain ⟨rfl, rfl⟩ := e'
                    have g1 := H9.out _ (List.getElem_mem k1)
                    have g2 := H9.out _ (List.getElem_mem k2)
                    have c1 := (hx.cells.1 b _ (by omega)).trans hc1
                    have c2 := (hx.cells.1 b _ (by omega)).trans hc2
                    have hbw : b < w.heap.size := by omega
                    have hv : D[p' + n + i]'HLT.out = satI (xs[(p' + n + i)] - xs[(p' + i)]) := by
                      rw [HD.out]
                      have := dRow (xs := xs) (j := j) hin HN.out
                      rw [HP.out] at this
                      rw [this, if_neg hs, show p' + n - n + i = p' + i by omega, getD_at _ _ k1, getD_at _ _ k2]
                    obtain ⟨y1, hy1⟩ : ∃ y, xs[(p' + n + i)] = y := ⟨_, rfl⟩
                    obtain ⟨y2, hy2⟩ : ∃ y, xs[(p' + i)] = y := ⟨_, rfl⟩
                    rw [hy1] at c1 g1 hv
                    rw [hy2] at c2 g2 hv
                    obtain ⟨z, hz⟩ : ∃ z, satI (y1 - y2) = z := ⟨_, rfl⟩
                    have hz9 := hid (satI_S9 (y1 - y2)).i64
                    rw [hz] at hv hz9
                    have HZ := hid hz
                    have HV := hid hv
                    have HO := hid hown
                    have HX := hid hx
                    obtain ⟨g3, g4⟩ := g1
                    obtain ⟨g5, g6⟩ := g2
                    have hbr : b < wr.heap.size := by omega
                    clear hv hz hy1 hy2 hc1 hc2 k1 k2 hown hx
                    go_wp2_with fail
                    refine (l17Pair_any n j _ (by omega) (by omega)).mono ?_
                    rintro e w1 ⟨rfl, rfl⟩
                    rw [if_neg hs, if_neg hs]
                    go_wp2_with fail
                    refine wp_region_stages [([0, 1, 2, 3, 4, 5, 6, 7, 8, 9, 10, 11, 12, 13, 14, 15, 16, 17], 18), ([], 19), ([], 20), ([], 21)] 99 w.heap.size (by kernel_rfl) (by kernel_rfl) ?_
                    refine wpStages_cons ?_
                    simp only [List.filterMap_cons, List.filterMap_nil, List.getElem?_toArray, List.getElem?_cons_zero, List.getElem?_cons_succ]
                    show wpQuiet _ _ _ _ [_, _, _, _, _, _, _, _, _, _, _, _, _, _, _, _, _, _] _
                    repeat (go_big_quiet_step (fail))
                    refine wpQuiet_nil ⟨_, rfl, fun K hK => ?_⟩
                    go_wp2_with fail
                    refine (sSaturate_val HZ.out _).mono ?_
                    rintro e w1 ⟨rfl, rfl⟩
                    go_wp2_with fail
                    refine hK _ _ (.inr (fun k _ hk => Ext.block (by repeat (with_reducible (first | assumption | exact Ext.refl _ | apply Ext.alloc | apply Ext.drew | apply Ext.drewN))) (by first | omega | (simp; omega)))) ?_
                    clear hK K
                    refine wpStages_cons ?_
                    simp only [List.filterMap_nil]
                    show wpQuiet _ _ _ _ [] _
                    try simp only [Act.put, List.setIfInBounds_toArray, List.set_cons_succ, List.set_cons_zero]
                    repeat (go_big_quiet_step (fail))
                    refine wpQuiet_nil ⟨_, rfl, fun K hK => ?_⟩
                    go_wp2_with fail
                    go_wp2_with fail
                    refine hK _ _ (.inr (fun k _ hk => Ext.block (by repeat (with_reducible (first | assumption | exact Ext.refl _ | apply Ext.alloc | apply Ext.drew | apply Ext.drewN))) (by first | omega | (simp; omega)))) ?_
                    clear hK K
                    refine wpStages_cons ?_
                    simp only [List.filterMap_nil]
                    show wpQuiet _ _ _ _ [] _
                    try simp only [Act.put, List.setIfInBounds_toArray, List.set_cons_succ, List.set_cons_zero]
                    repeat (go_big_quiet_step (fail))
                    refine wpQuiet_nil ⟨_, rfl, fun K hK => ?_⟩
                    refine wpList_append1 _ rfl _ _ rfl w.heap.size _ _ rfl (HO.out.ext (by repeat (with_reducible (first | assumption | exact Ext.refl _ | apply Ext.alloc | apply Ext.drew | apply Ext.drewN)))) z hz9.out wr.heap.size rfl (by simp [go_sem]) (by rw [HLN.out]; omega) (by simp; omega) ?_
                    intro v' w7 hown hg
                    have X7 : Ext w w7 := Ext.grown (Ext.trans HX.out (by repeat (with_reducible (first | assumption | exact Ext.refl _ | apply Ext.alloc | apply Ext.drew | apply Ext.drewN)))) hg (fun g e => (HO.out.lt g e).1)
                    have hown2 := hown.take_snoc HLT.out HV.out
                    have hln2 : (D.take (p' + n + i + 1)).length = p' + n + i + 1 := by rw [List.length_take, hDd.out]; omega
                    clear hown
                    obtain ⟨va, vc, rfl, _⟩ := hown2.form
                    rw [hln2] at hown2 ⊢
                    replace hown2 := hid hown2
                    clear hln2
                    go_wp2_with fail
                    refine hK _ _ (.inr (fun k _ hk => (X7.block hk).trans (HX.out.block hk).symm)) ?_
                    clear hK K
                    refine wpStages_cons ?_
                    simp only [List.filterMap_nil]
                    show wpQuiet _ _ _ _ [] _
                    try simp only [Act.put, List.setIfInBounds_toArray, List.set_cons_succ, List.set_cons_zero]
                    repeat (go_big_quiet_step (fail))
                    refine wpQuiet_nil ⟨_, rfl, fun K hK => ?_⟩
                    go_wp2_with fail
                    go_wp2_with fail
                    refine hK _ _ (.inr (fun k _ hk => (X7.block hk).trans (HX.out.block hk).symm)) ?_
                    clear hK K
                    refine wpStages_nil ?_
                    go_wp2
                    go_roundw
                    case rel => exact ⟨i + 1, by omega, by go_num, hown2.out, X7⟩
                    case measure => simp [intOf]; omega
            · obtain rfl : i = n := by omega
              go_wp2
              go_roundw
              case rel => exact ⟨j + 1, by omega, by go_num, by rw [Nat.add_mul, Nat.one_mul, HP.out]; exact hown, hx⟩
              case measure => simp [intOf]; omega
        · obtain rfl : j = n := by omega
          rw [List.take_of_length_le (by rw [HDl.out]; exact Nat.le_refl _)] at hown
          go_wp2
          go_ret
          exact ⟨_, rfl, hown, hx⟩
end Go.Proofs.YtdkohjeobjejeaaGreat
end

section
/- This text proves the reference's rows of an instruction without operands. -/
namespace Go.Proofs.YtdkohjeobjejeaaGreat
open Go.RowKit

/-- a box of one grid -/
structure GBox (w : World) (B : Nat) (n : Int) (pu : Value) (tm lg : Int) (tu : Value) : Prop where
  lt : B < w.heap.size
  c0 : w.cell? ⟨B, 0, none⟩ = some (.int .i64 n)
  c1 : w.cell? ⟨B, 1, none⟩ = some pu
  c2 : w.cell? ⟨B, 2, none⟩ = some (.int .i64 tm)
  c3 : w.cell? ⟨B, 3, none⟩ = some (.int .i64 lg)
  c4 : w.cell? ⟨B, 4, none⟩ = some tu
theorem GBox.made (w : World) (n : Int) (pu : Value) (tm lg : Int) (tu : Value) (ty : TypeId) : GBox (w.alloc (.cells #[.int .i64 n, pu, .int .i64 tm, .int .i64 lg, tu] ty)) w.heap.size n pu tm lg tu := ⟨by simp, by simp [go_sem], by simp [go_sem], by simp [go_sem], by simp [go_sem], by simp [go_sem]⟩
theorem GBox.ext {w w' : World} {B : Nat} {n : Int} {pu : Value} {tm lg : Int} {tu : Value} (h : GBox w B n pu tm lg tu) (e : Ext w w') : GBox w' B n pu tm lg tu := by
  have := e.size
  have h0 := h.lt
  obtain ⟨a, b⟩ := e.cells
  exact ⟨by omega, (a B _ h0).trans h.c0, (a B _ h0).trans h.c1, (a B _ h0).trans h.c2, (a B _ h0).trans h.c3, (a B _ h0).trans h.c4⟩
theorem l17Var_val {s : ByteArray} {f : Nat → Int} {tm r : Int} {q : Nat} (hr : varL s.toList f tm q = r) (lo hi n m i j : Nat) (u : Value) (g3 : Int) (g4 : Value) (w : World) (hu : Flats 5 lo hi w u m f) (hh : hi ≤ w.heap.size) (hq : (j : Int) * n + i = q) (hq' : q < m) (hm : m ≤ 1000) (hj : (j : Int) * n ≤ 1000) (h0 : 0 ≤ (j : Int) * n) (hi0 : i ≤ 1000) :
    Calls Tryz.prog 59 #[.agg #[.int .i64 n, u, .int .i64 tm, .int .i64 g3, g4], .string s, .int .i64 i, .int .i64 j] w fun e w' => e = .returned (.int .i64 r) ∧ Ext w w' := hr ▸ l17Variable_any lo hi n m i j q u f tm g3 g4 s w hu hh hq hq' hm hj h0 hi0

set_option maxRecDepth 100000 in
set_option maxHeartbeats 3200000 in
theorem sFill3 (lo hi : Nat) (n : Int) (pu tu lv : Value) (tm lg : Int) (s : ByteArray) (j : Nat) (L : List (List Int)) (xs : List Int) (w : World) (hL : SS lo hi w lv L) (hh : hi ≤ w.heap.size) (hx : L[j]? = some xs) (h1 : 1 ≤ xs.length) (h2 : xs.length ≤ 64) :
    Calls Tryz.prog 31 #[.agg #[.int .i64 n, pu, .int .i64 tm, .int .i64 lg, tu], .agg #[.int .i64 3, .string s, .int .i64 j], lv] w fun e w' => ∃ r, e = .returned r ∧ OwnInts w.heap.size w' r xs ∧ Ext w w' := by
  obtain ⟨a, cap, rfl, HL⟩ := hL.open
  have l1 := HL.le
  have l2 := HL.cap
  have hj := (List.getElem?_eq_some_iff.1 hx).1
  have hxe := (List.getElem?_eq_some_iff.1 hx).2
  obtain ⟨b, off, u, rfl, hb1, hb2, c0, hu⟩ := HL.at hj (Ext.refl w) hh
  rw [hxe] at hu
  obtain ⟨ua, uc, rfl, HU⟩ := hu.open
  obtain ⟨b2, off2, rfl, hb3, hb4, _⟩ := HU.at (k := 0) (by omega)
  have hbn1 : b < w.heap.size + 1 := by omega
  have hbn2 : b < w.heap.size + 1 + 1 := by omega
  have k1 := HU.le
  have k2 := HU.cap
  have HC : ∀ (w1 : World), Ext w w1 → ∀ i y, xs[i]? = some y → I64 y ∧ w1.cell? ⟨b2, off2 + i, none⟩ = some (.int .i64 y) := by
    intro w1 x1 i y hy
    obtain ⟨h3, b', off', e, h4, h5, h6⟩ := HU.cell i y hy
    simp only [Option.some.injEq, Addr.mk.injEq, and_true] at e
    obtain ⟨rfl, rfl⟩ := e
    exact ⟨h3, (x1.cells.1 _ _ (by omega)).trans h6⟩
  replace HC := hid HC
  clear hL hx hxe hu
  go_enter Tryz.func31, Tryz.ntmps31
  go_wp2_with (at_builtin; refine wpList_append_ints _ rfl _ _ rfl w.heap.size (.slice (some ⟨w.heap.size + 1 + 1, 0, none⟩) 0 0) [] xs rfl (OwnInts.empty (by omega) (by have := heap_alloc_new ((w.alloc (.cells #[.int .i64 n, pu, .int .i64 tm, .int .i64 lg, tu] 44)).alloc (.cells #[.int .i64 3, .string s, .int .i64 j] 64)) (.cells #[] 3); simpa using this)) b2 off2 uc rfl (HC.out _ (by repeat (with_reducible (first | assumption | exact Ext.refl _ | apply Ext.alloc | apply Ext.drew | apply Ext.drewN)))) (by simp; omega) (by simp <;> omega) ?_; intro v' w1 hown hg; obtain ⟨a', c', rfl, _⟩ := hown.form)
  go_ret
  refine ⟨_, rfl, by simpa using hown, Ext.grown (by repeat (with_reducible (first | assumption | exact Ext.refl _ | apply Ext.alloc | apply Ext.drew | apply Ext.drewN))) hg (fun k e => by simp [Value.ownBlock] at e; omega)⟩

set_option maxRecDepth 100000 in
set_option maxHeartbeats 6400000 in
theorem sFill1 (lo hi : Nat) (n m : Nat) (pu tu lv : Value) (f : Nat → Int) (tm lg : Int) (s : ByteArray) (num : Int) (w : World) (hp : Flats 5 lo hi w pu m f) (hh : hi ≤ w.heap.size) (hm : n * n = m) (h1 : 1 ≤ n) (h8 : n ≤ 8) (D : List Int) (hD : D.length = m) (hn : I64 num) (hz : ∀ k (h : k < D.length), D[k] = num) :
    Calls Tryz.prog 31 #[.agg #[.int .i64 n, pu, .int .i64 tm, .int .i64 lg, tu], .agg #[.int .i64 1, .string s, .int .i64 num], lv] w fun e w' => ∃ r, e = .returned r ∧ OwnInts w.heap.size w' r D ∧ Ext w w' := by
  have HPU := hid hp
  have HM := hid hm
  have HDl := hid hD
  have hm8 : n * n ≤ 8 * 8 := Nat.mul_le_mul h8 h8
  rw [hm] at hm8
  have x0 : Ext w ((w.alloc (.cells #[.int .i64 n, pu, .int .i64 tm, .int .i64 lg, tu] 44)).alloc (.cells #[.int .i64 1, .string s, .int .i64 num] 64)) := (by repeat (with_reducible (first | assumption | exact Ext.refl _ | apply Ext.alloc | apply Ext.drew | apply Ext.drewN)))
  have gb := (GBox.made w n pu tm lg tu 44).ext ((Ext.refl _).alloc (.cells #[.int .i64 1, .string s, .int .i64 num] 64))
  have xb := XBox.made (w.alloc (.cells #[.int .i64 n, pu, .int .i64 tm, .int .i64 lg, tu] 44)) 1 s num 64
  simp only [World.size_alloc] at xb
  obtain ⟨W0, hW0⟩ : ∃ W, (w.alloc (.cells #[.int .i64 n, pu, .int .i64 tm, .int .i64 lg, tu] 44)).alloc (.cells #[.int .i64 1, .string s, .int .i64 num] 64) = W := ⟨_, rfl⟩
  rw [hW0] at x0 gb xb
  have HGB := hid gb
  have HXB := hid xb
  have HX0 := hid x0
  have HW0 := hid hW0
  have hz0 := x0.size
  have hzW : w.heap.size + 2 = W0.heap.size := by rw [← hW0]; simp
  clear hp hm hD gb xb x0 hW0
  have HV := hid hz
  clear hz
  go_enter Tryz.func31, Tryz.ntmps31
  go_wp2
  rw [HW0.out]
  go_loopw [7, 8] (fun v jv wr => ∃ j : Nat, j ≤ n ∧ jv = .int .i64 j ∧ OwnInts W0.heap.size wr v (D.take (j * n)) ∧ Ext W0 wr) (fun _ jv _ => n - (intOf jv).toNat)
  case atStart => exact ⟨0, by omega, rfl, by simpa [← hzW] using OwnInts.lit0 W0, (by repeat (with_reducible (first | assumption | exact Ext.refl _ | apply Ext.alloc | apply Ext.drew | apply Ext.drewN)))⟩
  case round =>
    obtain ⟨j, hj, rfl, hown, hx⟩ := hrel
    have hGB := HGB.out.ext hx
    by_cases hjn : j < n
    · have hp2 := Nat.mul_le_mul_right n (show j + 1 ≤ n from hjn)
      rw [Nat.add_mul, Nat.one_mul, HM.out] at hp2
      obtain ⟨p, hp⟩ : ∃ p, j * n = p := ⟨_, rfl⟩
      have hpi : (j : Int) * n = p := by rw [← hp]; simp
      rw [hp] at hp2 hown
      have HP := hid hp
      have HPI := hid hpi
      have HO := hid hown
      have HX := hid hx
      have g0 := hGB.lt
      have g1 := hGB.c0
      have g2 := hGB.c1
      have g3 := hGB.c2
      have g4 := hGB.c3
      have g5 := hGB.c4
      clear hp hpi hown hx hGB
      go_wp2
      go_loopw [7, 9] (fun v iv wq => ∃ i : Nat, i ≤ n ∧ iv = .int .i64 i ∧ OwnInts W0.heap.size wq v (D.take (p + i)) ∧ Ext W0 wq) (fun _ iv _ => n - (intOf iv).toNat)
      case atStart => exact ⟨0, by omega, rfl, HO.out, HX.out⟩
      case round =>
        clear HO HX g0 g1 g2 g3 g4 g5
        obtain ⟨i, hiN, rfl, hown, hx⟩ := hrel
        obtain ⟨av, cv, rfl, _⟩ := hown.form
        have hGB := HGB.out.ext hx
        have hXB := HXB.out.ext hx
        have hzz := hx.size
        by_cases hin : i < n
        · have hlen : (D.take (p + i)).length = p + i := by rw [List.length_take, HDl.out]; omega
          have HLT : Hid (p + i < D.length) := by rw [HDl.out]; show p + i < m; omega
          rw [hlen] at hown ⊢
          have HLN := hid hlen
          clear hlen
          have g0 := hGB.lt
          have g1 := hGB.c0
          have g2 := hGB.c1
          have g3 := hGB.c2
          have g4 := hGB.c3
          have g5 := hGB.c4
          have y0 := hXB.lt
          have y1 := hXB.c0
          have y2 := hXB.c1
          have y3 := hXB.c2
          have HX := hid hx
          have HO := hid hown
          clear hGB hXB hown hx
          go_wp2_with (at_builtin; refine wpList_append1 _ rfl _ _ rfl W0.heap.size _ _ rfl (HO.out.alloc _) num hn wr.heap.size rfl (by simp [go_sem]) (by rw [HLN.out]; omega) (by simp; omega) ?_; intro v' w7 hown hg)
          have hown2 := hown.take_snoc HLT.out (HV.out _ _)
          clear hown
          have X7 : Ext W0 w7 := Ext.grown (HX.out.alloc _) hg (fun g e => (HO.out.lt g e).1)
          have HG7 := hid (HGB.out.ext X7)
          go_wp2
          go_roundw
          case rel => exact ⟨i + 1, by omega, by go_num, hown2, X7⟩
          case measure => simp [intOf]; omega
        · obtain rfl : i = n := by omega
          have g0 := hGB.lt
          have g1 := hGB.c0
          have g2 := hGB.c1
          have g3 := hGB.c2
          have g4 := hGB.c3
          have g5 := hGB.c4
          clear hGB hXB
          go_wp2
          go_roundw
          case rel => exact ⟨j + 1, by omega, by go_num, by rw [Nat.add_mul, Nat.one_mul, HP.out]; exact hown, hx⟩
          case measure => simp [intOf]; omega
    · obtain rfl : j = n := by omega
      rw [List.take_of_length_le (by rw [HDl.out, HM.out]; exact Nat.le_refl _)] at hown
      have g0 := hGB.lt
      have g1 := hGB.c0
      have g2 := hGB.c1
      have g3 := hGB.c2
      have g4 := hGB.c3
      have g5 := hGB.c4
      go_wp2
      go_ret
      exact ⟨_, rfl, hown.low (by omega), HX0.out.trans hx⟩

set_option maxRecDepth 100000 in
set_option maxHeartbeats 6400000 in
theorem sFill2 (lo hi : Nat) (n m : Nat) (pu tu lv : Value) (f : Nat → Int) (tm lg : Int) (s : ByteArray) (num : Int) (w : World) (hp : Flats 5 lo hi w pu m f) (hh : hi ≤ w.heap.size) (hm : n * n = m) (h1 : 1 ≤ n) (h8 : n ≤ 8) (D : List Int) (hD : D.length = m) (hz : ∀ k (h : k < D.length), D[k] = varL s.toList f tm k) (h9 : ∀ x ∈ D, I64 x) :
    Calls Tryz.prog 31 #[.agg #[.int .i64 n, pu, .int .i64 tm, .int .i64 lg, tu], .agg #[.int .i64 2, .string s, .int .i64 num], lv] w fun e w' => ∃ r, e = .returned r ∧ OwnInts w.heap.size w' r D ∧ Ext w w' := by
  have HPU := hid hp
  have HM := hid hm
  have HDl := hid hD
  have hm8 : n * n ≤ 8 * 8 := Nat.mul_le_mul h8 h8
  rw [hm] at hm8
  have x0 : Ext w ((w.alloc (.cells #[.int .i64 n, pu, .int .i64 tm, .int .i64 lg, tu] 44)).alloc (.cells #[.int .i64 2, .string s, .int .i64 num] 64)) := (by repeat (with_reducible (first | assumption | exact Ext.refl _ | apply Ext.alloc | apply Ext.drew | apply Ext.drewN)))
  have gb := (GBox.made w n pu tm lg tu 44).ext ((Ext.refl _).alloc (.cells #[.int .i64 2, .string s, .int .i64 num] 64))
  have xb := XBox.made (w.alloc (.cells #[.int .i64 n, pu, .int .i64 tm, .int .i64 lg, tu] 44)) 2 s num 64
  simp only [World.size_alloc] at xb
  obtain ⟨W0, hW0⟩ : ∃ W, (w.alloc (.cells #[.int .i64 n, pu, .int .i64 tm, .int .i64 lg, tu] 44)).alloc (.cells #[.int .i64 2, .string s, .int .i64 num] 64) = W := ⟨_, rfl⟩
  rw [hW0] at x0 gb xb
  have HGB := hid gb
  have HXB := hid xb
  have HX0 := hid x0
  have HW0 := hid hW0
  have hz0 := x0.size
  have hzW : w.heap.size + 2 = W0.heap.size := by rw [← hW0]; simp
  clear hp hm hD gb xb x0 hW0
  have HV := hid hz
  have H9 := hid h9
  clear hz h9
  go_enter Tryz.func31, Tryz.ntmps31
  go_wp2
  rw [HW0.out]
  go_loopw [7, 8] (fun v jv wr => ∃ j : Nat, j ≤ n ∧ jv = .int .i64 j ∧ OwnInts W0.heap.size wr v (D.take (j * n)) ∧ Ext W0 wr) (fun _ jv _ => n - (intOf jv).toNat)
  case atStart => exact ⟨0, by omega, rfl, by simpa [← hzW] using OwnInts.lit0 W0, (by repeat (with_reducible (first | assumption | exact Ext.refl _ | apply Ext.alloc | apply Ext.drew | apply Ext.drewN)))⟩
  case round =>
    obtain ⟨j, hj, rfl, hown, hx⟩ := hrel
    have hGB := HGB.out.ext hx
    by_cases hjn : j < n
    · have hp2 := Nat.mul_le_mul_right n (show j + 1 ≤ n from hjn)
      rw [Nat.add_mul, Nat.one_mul, HM.out] at hp2
      obtain ⟨p, hp⟩ : ∃ p, j * n = p := ⟨_, rfl⟩
      have hpi : (j : Int) * n = p := by rw [← hp]; simp
      rw [hp] at hp2 hown
      have HP := hid hp
      have HPI := hid hpi
      have HO := hid hown
      have HX := hid hx
      have g0 := hGB.lt
      have g1 := hGB.c0
      have g2 := hGB.c1
      have g3 := hGB.c2
      have g4 := hGB.c3
      have g5 := hGB.c4
      clear hp hpi hown hx hGB
      go_wp2
      go_loopw [7, 9] (fun v iv wq => ∃ i : Nat, i ≤ n ∧ iv = .int .i64 i ∧ OwnInts W0.heap.size wq v (D.take (p + i)) ∧ Ext W0 wq) (fun _ iv _ => n - (intOf iv).toNat)
      case atStart => exact ⟨0, by omega, rfl, HO.out, HX.out⟩
      case round =>
        clear HO HX g0 g1 g2 g3 g4 g5
        obtain ⟨i, hiN, rfl, hown, hx⟩ := hrel
        obtain ⟨av, cv, rfl, _⟩ := hown.form
        have hGB := HGB.out.ext hx
        have hXB := HXB.out.ext hx
        have hzz := hx.size
        by_cases hin : i < n
        · have hlen : (D.take (p + i)).length = p + i := by rw [List.length_take, HDl.out]; omega
          have HLT : Hid (p + i < D.length) := by rw [HDl.out]; show p + i < m; omega
          rw [hlen] at hown ⊢
          have HLN := hid hlen
          clear hlen
          have g0 := hGB.lt
          have g1 := hGB.c0
          have g2 := hGB.c1
          have g3 := hGB.c2
          have g4 := hGB.c3
          have g5 := hGB.c4
          have y0 := hXB.lt
          have y1 := hXB.c0
          have y2 := hXB.c1
          have y3 := hXB.c2
          have HX := hid hx
          have HO := hid hown
          clear hGB hXB hown hx
          obtain ⟨z, hz⟩ : ∃ z, varL s.toList f tm (p + i) = z := ⟨_, rfl⟩
          have hvz : Hid (D[p + i]'HLT.out = z) := (HV.out _ HLT.out).trans hz
          have hz9 : Hid (I64 z) := by have := H9.out _ (List.getElem_mem HLT.out); rw [hvz.out] at this; exact this
          have HZ := hid hz
          clear hz
          go_wp2_with fail
          refine (l17Var_val HZ.out lo hi n m i j _ _ _ _ (HPU.out.ext hh (HX0.out.trans HX.out)) (by omega) (by rw [HPI.out]; omega) (by omega) (by omega) (by rw [HPI.out]; omega) (by rw [HPI.out]; omega) (by omega)).mono ?_
          rintro e w1 ⟨rfl, x1⟩
          have HO1 := hid (HO.out.ext x1)
          have HX1 := hid (HX.out.trans x1)
          have hz1 := x1.size
          clear g0 g1 g2 g3 g4 g5 y0 y1 y2 y3
          go_wp2_with (at_builtin; refine wpList_append1 _ rfl _ _ rfl W0.heap.size _ _ rfl (HO1.out.alloc _) z hz9.out w1.heap.size rfl (by simp [go_sem]) (by rw [HLN.out]; omega) (by simp; omega) ?_; intro v' w7 hown hg)
          have hown2 := hown.take_snoc HLT.out hvz.out
          clear hown
          have X7 : Ext W0 w7 := Ext.grown (HX1.out.alloc _) hg (fun g e => (HO1.out.lt g e).1)
          have HG7 := hid (HGB.out.ext X7)
          go_wp2
          go_roundw
          case rel => exact ⟨i + 1, by omega, by go_num, hown2, X7⟩
          case measure => simp [intOf]; omega
        · obtain rfl : i = n := by omega
          have g0 := hGB.lt
          have g1 := hGB.c0
          have g2 := hGB.c1
          have g3 := hGB.c2
          have g4 := hGB.c3
          have g5 := hGB.c4
          clear hGB hXB
          go_wp2
          go_roundw
          case rel => exact ⟨j + 1, by omega, by go_num, by rw [Nat.add_mul, Nat.one_mul, HP.out]; exact hown, hx⟩
          case measure => simp [intOf]; omega
    · obtain rfl : j = n := by omega
      rw [List.take_of_length_le (by rw [HDl.out, HM.out]; exact Nat.le_refl _)] at hown
      have g0 := hGB.lt
      have g1 := hGB.c0
      have g2 := hGB.c1
      have g3 := hGB.c2
      have g4 := hGB.c3
      have g5 := hGB.c4
      go_wp2
      go_ret
      exact ⟨_, rfl, hown.low (by omega), HX0.out.trans hx⟩
end Go.Proofs.YtdkohjeobjejeaaGreat
end

section
/- This text proves the reference's rows of an instruction with operands. -/
namespace Go.Proofs.YtdkohjeobjejeaaGreat
open Go.RowKit

/-- the reference's function of the language named s computes fv -/
def FunS (s : ByteArray) (n : Nat) (pu : Value) (tm : Int) (tu : Value) (t : Tex) (ar : Nat) (fv : List Int → Int) : Prop :=
  ∀ (lo hi lo' hi' : Nat) (u : Value) (x : List Int) (w : World), x.length = ar → (∀ y ∈ x, S9 y) → Ints lo hi w u x → hi ≤ w.heap.size → TexR lo' hi' w (.agg #[.int .i64 t.log, tu]) t → hi' ≤ w.heap.size →
    Calls Tryz.prog 61 #[.agg #[.int .i64 n, pu, .int .i64 tm, .int .i64 t.log, tu], .string s, u] w fun e w' => e = .returned (.int .i64 (fv x)) ∧ Ext w w'
/-- the reference's operation num computes fv -/
def FunO (num : Int) (ar : Nat) (fv : List Int → Int) : Prop :=
  ∀ (lo hi : Nat) (u : Value) (x : List Int) (w : World), x.length = ar → (∀ y ∈ x, S9 y) → Ints lo hi w u x → hi ≤ w.heap.size →
    Calls Tryz.prog 62 #[.int .i64 num, u] w fun e w' => e = .returned (.int .i64 (fv x)) ∧ Ext w w'

set_option maxRecDepth 100000 in
set_option maxHeartbeats 12800000 in
theorem sApply7 (fv : List Int → Int) (s : ByteArray) (num : Int) (S : List (List Int)) (lo hi lo' hi' : Nat) (n m : Nat) (pu tu av : Value) (tm : Int) (t : Tex) (w : World)
    (hdu : (s.toList == [100, 117]) = false) (hdv : (s.toList == [100, 118]) = false) (hF : FunS s n pu tm tu t S.length fv) (hS : SS lo hi w av S) (hh : hi ≤ w.heap.size) (hT : TexR lo' hi' w (.agg #[.int .i64 t.log, tu]) t) (hh' : hi' ≤ w.heap.size) (hg : ∀ r ∈ S, good m r) (hm : (n : Int) * n = m) (hm2 : m ≤ 64) (hl : S.length ≤ 3) :
    Calls Tryz.prog 32 #[.agg #[.int .i64 n, pu, .int .i64 tm, .int .i64 t.log, tu], .agg #[.int .i64 7, .string s, .int .i64 num], av] w fun e w' => ∃ r, e = .returned r ∧ OwnInts w.heap.size w' r ((List.range m).map fun k => satI (fv (colOf S k))) ∧ Ext w w' := by
  obtain ⟨a, cap, rfl, HS⟩ := hS.open
  have l1 := HS.le
  have l2 := HS.cap
  have HT := hid hT
  have HG := hid hg
  have HF := hid hF
  clear hS hT hg hF
  obtain ⟨D, hD⟩ : ∃ D, ((List.range m).map fun k => satI (fv (colOf S k))) = D := ⟨_, rfl⟩
  have HDl : Hid (D.length = m) := by rw [← hD]; show (List.map _ _).length = m; simp
  have HDa : Hid (∀ k (h : k < D.length), D[k] = satI (fv (colOf S k))) := by subst hD; show ∀ k (h : k < (List.map _ _).length), (List.map _ _)[k] = _; intro k h; simp
  rw [hD]
  clear hD
  have x0 : Ext w ((w.alloc (.cells #[.int .i64 n, pu, .int .i64 tm, .int .i64 t.log, tu] 44)).alloc (.cells #[.int .i64 7, .string s, .int .i64 num] 64)) := (by repeat (with_reducible (first | assumption | exact Ext.refl _ | apply Ext.alloc | apply Ext.drew | apply Ext.drewN)))
  have gb := (GBox.made w n pu tm t.log tu 44).ext ((Ext.refl _).alloc (.cells #[.int .i64 7, .string s, .int .i64 num] 64))
  have xb := XBox.made (w.alloc (.cells #[.int .i64 n, pu, .int .i64 tm, .int .i64 t.log, tu] 44)) 7 s num 64
  simp only [World.size_alloc] at xb
  obtain ⟨W0, hW0⟩ : ∃ W, (w.alloc (.cells #[.int .i64 n, pu, .int .i64 tm, .int .i64 t.log, tu] 44)).alloc (.cells #[.int .i64 7, .string s, .int .i64 num] 64) = W := ⟨_, rfl⟩
  rw [hW0] at x0 gb xb
  have HGB := hid gb
  have HXB := hid xb
  have HX0 := hid x0
  have HW0 := hid hW0
  have hz0 := x0.size
  have hzW : w.heap.size + 2 = W0.heap.size := by rw [← hW0]; simp
  clear gb xb x0 hW0
  go_enter Tryz.func32, Tryz.ntmps32
  go_wp2
  rw [HW0.out]
  go_loopw [7, 8] (fun v jv wr => ∃ k : Nat, k ≤ m ∧ jv = .int .i64 k ∧ OwnInts W0.heap.size wr v (D.take k) ∧ Ext W0 wr) (fun _ jv _ => m - (intOf jv).toNat)
  case atStart => exact ⟨0, by omega, rfl, by simpa [← hzW] using OwnInts.lit0 W0, (by repeat (with_reducible (first | assumption | exact Ext.refl _ | apply Ext.alloc | apply Ext.drew | apply Ext.drewN)))⟩
  case round =>
    obtain ⟨k, hk, rfl, hown, hx⟩ := hrel
    obtain ⟨ov, oc, rfl, _⟩ := hown.form
    have hGB := HGB.out.ext hx
    have hXB := HXB.out.ext hx
    have g0 := hGB.lt
    have g1 := hGB.c0
    have g2 := hGB.c1
    have g3 := hGB.c2
    have g4 := hGB.c3
    have g5 := hGB.c4
    by_cases hlt : k < m
    · have hlen : (D.take k).length = k := by rw [List.length_take, HDl.out]; omega
      have HLT : Hid (k < D.length) := by rw [HDl.out]; exact hlt
      rw [hlen] at hown ⊢
      have HLN := hid hlen
      clear hlen
      have HO := hid hown
      have HX := hid hx
      clear hown hx hGB hXB
      rename World => W1
      have hzz := HX.out.size
      go_wp2
      go_loopw [9, 48] (fun v i wq => ∃ j : Nat, j ≤ S.length ∧ i = .int .i64 j ∧ OwnInts W1.heap.size wq v ((colOf S k).take j) ∧ Ext W1 wq) (fun _ i _ => S.length - (intOf i).toNat)
      case atStart => exact ⟨0, by omega, rfl, OwnInts.lit0 W1, (by repeat (with_reducible (first | assumption | exact Ext.refl _ | apply Ext.alloc | apply Ext.drew | apply Ext.drewN)))⟩
      case round =>
        clear g0 g1 g2 g3 g4 g5
        obtain ⟨j, hj, rfl, hown, hy⟩ := hrel
        obtain ⟨av, cv, rfl, hcv⟩ := hown.form
        have hlen : ((colOf S k).take j).length = j := by rw [List.length_take, colOf_len]; omega
        rw [hlen] at hown ⊢
        by_cases hlj : j < S.length
        · obtain ⟨b, off, u, rfl, hb1, hb2, c0, hu⟩ := HS.at hlj (HX0.out.trans (HX.out.trans hy)) hh
          obtain ⟨g1, g2⟩ := HG.out _ (List.getElem_mem hlj)
          obtain ⟨ua, uc, rfl, HU⟩ := hu.open
          have lu := HU.le
          have lc := HU.cap
          obtain ⟨b3, off3, rfl, hb3, hb4, c3⟩ := HU.at (k := k) (by omega)
          have hz4 := HX.out.size
          have hz5 := hy.size
          have hb5 : b3 < wr.heap.size := by omega
          have hgd := getD_at S[j] k (by omega)
          have hsn := colOf_take S k j hlj
          rw [hgd] at hsn
          have i9 := (g2 _ (List.getElem_mem (show k < S[j].length by omega))).i64
          obtain ⟨x, hxk⟩ : ∃ x, S[j][k]'(by omega) = x := ⟨_, rfl⟩
          rw [hxk] at c3 hsn i9
          rw [g1] at lu c0
          have HO2 := hid hown
          have HY := hid hy
          have HSN := hid hsn
          have HL := hid hlen
          have HI := hid i9
          clear hown hy hsn hlen hxk hgd hu HU i9 hz4 hz5 g1 g2
          go_wp2_with (at_builtin; refine wpList_append1 _ rfl _ _ rfl W1.heap.size _ _ rfl (HO2.out.alloc _) x HI.out wr.heap.size rfl (by simp [go_sem]) (by rw [HL.out]; omega) (by have := HY.out.size; simp; omega) ?_; intro v' w7 hown hg)
          rw [HSN.out] at hown
          go_wp2
          go_roundw
          case rel => exact ⟨j + 1, by omega, by go_num, hown, Ext.grown (HY.out.alloc _) hg (fun g e => (HO2.out.lt g e).1)⟩
          case measure => simp [intOf]; omega
        · obtain rfl : j = S.length := by omega
          rw [List.take_of_length_le (by rw [colOf_len]; omega)] at hown
          have xq := HX.out.trans hy
          have hs9 := colOf_S9 HG.out hlt
          have hGB := HGB.out.ext xq
          have hXB := HXB.out.ext xq
          have HC := hid (HF.out _ _ _ _ _ _ wr (colOf_len S k) hs9 hown.ints (Nat.le_refl _) (HT.out.ext hh' (HX0.out.trans xq)) (by have := xq.size; omega))
          have HX2 := hid xq
          have HO2 := hid (HO.out.ext hy)
          have g0 := hGB.lt
          have g1 := hGB.c0
          have g2 := hGB.c1
          have g3 := hGB.c2
          have g4 := hGB.c3
          have g5 := hGB.c4
          have y0 := hXB.lt
          have y1 := hXB.c0
          have y2 := hXB.c1
          have y3 := hXB.c2
          clear hown hy xq hs9 hlen hGB hXB
          go_wp2_with fail
          refine HC.out.mono ?_
          rintro e w7 ⟨rfl, x7⟩
          obtain ⟨z, hz⟩ : ∃ y, satI (fv (colOf S k)) = y := ⟨_, rfl⟩
          have HZ := hid hz
          have hz9 : Hid (I64 z) := hid (by rw [← hz]; exact (satI_S9 _).i64)
          have HX7 := hid (HX2.out.trans x7)
          have HO7 := hid (HO2.out.ext x7)
          have hvz : Hid (D[k]'HLT.out = z) := (HDa.out _ HLT.out).trans hz
          have hz7 := HX7.out.size
          clear hz x7 g0 g1 g2 g3 g4 g5 y0 y1 y2 y3
          go_wp2_with fail
          refine (sSaturate_val HZ.out _).mono ?_
          rintro e w8 ⟨rfl, rfl⟩
          go_wp2_with (at_builtin; refine wpList_append1 _ rfl _ _ rfl W0.heap.size _ _ rfl (HO7.out.alloc _) z hz9.out w7.heap.size rfl (by simp [go_sem]) (by rw [HLN.out]; omega) (by simp; omega) ?_; intro v' w9 hown hg)
          have hown2 := hown.take_snoc HLT.out hvz.out
          clear hown
          have X9 : Ext W0 w9 := Ext.grown (HX7.out.alloc _) hg (fun g e => (HO7.out.lt g e).1)
          go_wp2
          go_roundw
          case rel => exact ⟨k + 1, by omega, by go_num, hown2, X9⟩
          case measure => simp [intOf]; omega
    · obtain rfl : k = m := by omega
      rw [List.take_of_length_le (by rw [HDl.out]; exact Nat.le_refl _)] at hown ⊢
      have HDl2 := HDl.out
      go_wp2
      go_ret
      first | exact ⟨_, rfl, hown.low (by omega), HX0.out.trans hx⟩ | (rw [HDl2] at hown; exact ⟨_, rfl, hown.low (by omega), HX0.out.trans hx⟩)

set_option maxRecDepth 100000 in
set_option maxHeartbeats 12800000 in
theorem sApply5 (fv : List Int → Int) (s : ByteArray) (num : Int) (S : List (List Int)) (lo hi lo' hi' : Nat) (n m : Nat) (pu tu av : Value) (tm : Int) (t : Tex) (w : World)
    (hF : FunO num S.length fv) (hS : SS lo hi w av S) (hh : hi ≤ w.heap.size) (hT : TexR lo' hi' w (.agg #[.int .i64 t.log, tu]) t) (hh' : hi' ≤ w.heap.size) (hg : ∀ r ∈ S, good m r) (hm : (n : Int) * n = m) (hm2 : m ≤ 64) (hl : S.length ≤ 3) :
    Calls Tryz.prog 32 #[.agg #[.int .i64 n, pu, .int .i64 tm, .int .i64 t.log, tu], .agg #[.int .i64 5, .string s, .int .i64 num], av] w fun e w' => ∃ r, e = .returned r ∧ OwnInts w.heap.size w' r ((List.range m).map fun k => satI (fv (colOf S k))) ∧ Ext w w' := by
  obtain ⟨a, cap, rfl, HS⟩ := hS.open
  have l1 := HS.le
  have l2 := HS.cap
  have HT := hid hT
  have HG := hid hg
  have HF := hid hF
  clear hS hT hg hF
  obtain ⟨D, hD⟩ : ∃ D, ((List.range m).map fun k => satI (fv (colOf S k))) = D := ⟨_, rfl⟩
  have HDl : Hid (D.length = m) := by rw [← hD]; show (List.map _ _).length = m; simp
  have HDa : Hid (∀ k (h : k < D.length), D[k] = satI (fv (colOf S k))) := by subst hD; show ∀ k (h : k < (List.map _ _).length), (List.map _ _)[k] = _; intro k h; simp
  rw [hD]
  clear hD
  have x0 : Ext w ((w.alloc (.cells #[.int .i64 n, pu, .int .i64 tm, .int .i64 t.log, tu] 44)).alloc (.cells #[.int .i64 5, .string s, .int .i64 num] 64)) := (by repeat (with_reducible (first | assumption | exact Ext.refl _ | apply Ext.alloc | apply Ext.drew | apply Ext.drewN)))
  have gb := (GBox.made w n pu tm t.log tu 44).ext ((Ext.refl _).alloc (.cells #[.int .i64 5, .string s, .int .i64 num] 64))
  have xb := XBox.made (w.alloc (.cells #[.int .i64 n, pu, .int .i64 tm, .int .i64 t.log, tu] 44)) 5 s num 64
  simp only [World.size_alloc] at xb
  obtain ⟨W0, hW0⟩ : ∃ W, (w.alloc (.cells #[.int .i64 n, pu, .int .i64 tm, .int .i64 t.log, tu] 44)).alloc (.cells #[.int .i64 5, .string s, .int .i64 num] 64) = W := ⟨_, rfl⟩
  rw [hW0] at x0 gb xb
  have HGB := hid gb
  have HXB := hid xb
  have HX0 := hid x0
  have HW0 := hid hW0
  have hz0 := x0.size
  have hzW : w.heap.size + 2 = W0.heap.size := by rw [← hW0]; simp
  clear gb xb x0 hW0
  go_enter Tryz.func32, Tryz.ntmps32
  go_wp2
  rw [HW0.out]
  go_loopw [7, 8] (fun v jv wr => ∃ k : Nat, k ≤ m ∧ jv = .int .i64 k ∧ OwnInts W0.heap.size wr v (D.take k) ∧ Ext W0 wr) (fun _ jv _ => m - (intOf jv).toNat)
  case atStart => exact ⟨0, by omega, rfl, by simpa [← hzW] using OwnInts.lit0 W0, (by repeat (with_reducible (first | assumption | exact Ext.refl _ | apply Ext.alloc | apply Ext.drew | apply Ext.drewN)))⟩
  case round =>
    obtain ⟨k, hk, rfl, hown, hx⟩ := hrel
    obtain ⟨ov, oc, rfl, _⟩ := hown.form
    have hGB := HGB.out.ext hx
    have hXB := HXB.out.ext hx
    have g0 := hGB.lt
    have g1 := hGB.c0
    have g2 := hGB.c1
    have g3 := hGB.c2
    have g4 := hGB.c3
    have g5 := hGB.c4
    by_cases hlt : k < m
    · have hlen : (D.take k).length = k := by rw [List.length_take, HDl.out]; omega
      have HLT : Hid (k < D.length) := by rw [HDl.out]; exact hlt
      rw [hlen] at hown ⊢
      have HLN := hid hlen
      clear hlen
      have HO := hid hown
      have HX := hid hx
      clear hown hx hGB hXB
      rename World => W1
      have hzz := HX.out.size
      go_wp2
      go_loopw [9, 48] (fun v i wq => ∃ j : Nat, j ≤ S.length ∧ i = .int .i64 j ∧ OwnInts W1.heap.size wq v ((colOf S k).take j) ∧ Ext W1 wq) (fun _ i _ => S.length - (intOf i).toNat)
      case atStart => exact ⟨0, by omega, rfl, OwnInts.lit0 W1, (by repeat (with_reducible (first | assumption | exact Ext.refl _ | apply Ext.alloc | apply Ext.drew | apply Ext.drewN)))⟩
      case round =>
        clear g0 g1 g2 g3 g4 g5
        obtain ⟨j, hj, rfl, hown, hy⟩ := hrel
        obtain ⟨av, cv, rfl, hcv⟩ := hown.form
        have hlen : ((colOf S k).take j).length = j := by rw [List.length_take, colOf_len]; omega
        rw [hlen] at hown ⊢
        by_cases hlj : j < S.length
        · obtain ⟨b, off, u, rfl, hb1, hb2, c0, hu⟩ := HS.at hlj (HX0.out.trans (HX.out.trans hy)) hh
          obtain ⟨g1, g2⟩ := HG.out _ (List.getElem_mem hlj)
          obtain ⟨ua, uc, rfl, HU⟩ := hu.open
          have lu := HU.le
          have lc := HU.cap
          obtain ⟨b3, off3, rfl, hb3, hb4, c3⟩ := HU.at (k := k) (by omega)
          have hz4 := HX.out.size
          have hz5 := hy.size
          have hb5 : b3 < wr.heap.size := by omega
          have hgd := getD_at S[j] k (by omega)
          have hsn := colOf_take S k j hlj
          rw [hgd] at hsn
          have i9 := (g2 _ (List.getElem_mem (show k < S[j].length by omega))).i64
          obtain ⟨x, hxk⟩ : ∃ x, S[j][k]'(by omega) = x := ⟨_, rfl⟩
          rw [hxk] at c3 hsn i9
          rw [g1] at lu c0
          have HO2 := hid hown
          have HY := hid hy
          have HSN := hid hsn
          have HL := hid hlen
          have HI := hid i9
          clear hown hy hsn hlen hxk hgd hu HU i9 hz4 hz5 g1 g2
          go_wp2_with (at_builtin; refine wpList_append1 _ rfl _ _ rfl W1.heap.size _ _ rfl (HO2.out.alloc _) x HI.out wr.heap.size rfl (by simp [go_sem]) (by rw [HL.out]; omega) (by have := HY.out.size; simp; omega) ?_; intro v' w7 hown hg)
          rw [HSN.out] at hown
          go_wp2
          go_roundw
          case rel => exact ⟨j + 1, by omega, by go_num, hown, Ext.grown (HY.out.alloc _) hg (fun g e => (HO2.out.lt g e).1)⟩
          case measure => simp [intOf]; omega
        · obtain rfl : j = S.length := by omega
          rw [List.take_of_length_le (by rw [colOf_len]; omega)] at hown
          have xq := HX.out.trans hy
          have hs9 := colOf_S9 HG.out hlt
          have hGB := HGB.out.ext xq
          have hXB := HXB.out.ext xq
          have HC := hid (HF.out _ _ _ _ wr (colOf_len S k) hs9 hown.ints (Nat.le_refl _))
          have HX2 := hid xq
          have HO2 := hid (HO.out.ext hy)
          have g0 := hGB.lt
          have g1 := hGB.c0
          have g2 := hGB.c1
          have g3 := hGB.c2
          have g4 := hGB.c3
          have g5 := hGB.c4
          have y0 := hXB.lt
          have y1 := hXB.c0
          have y2 := hXB.c1
          have y3 := hXB.c2
          clear hown hy xq hs9 hlen hGB hXB
          go_wp2_with fail
          refine HC.out.mono ?_
          rintro e w7 ⟨rfl, x7⟩
          obtain ⟨z, hz⟩ : ∃ y, satI (fv (colOf S k)) = y := ⟨_, rfl⟩
          have HZ := hid hz
          have hz9 : Hid (I64 z) := hid (by rw [← hz]; exact (satI_S9 _).i64)
          have HX7 := hid (HX2.out.trans x7)
          have HO7 := hid (HO2.out.ext x7)
          have hvz : Hid (D[k]'HLT.out = z) := (HDa.out _ HLT.out).trans hz
          have hz7 := HX7.out.size
          clear hz x7 g0 g1 g2 g3 g4 g5 y0 y1 y2 y3
          go_wp2_with fail
          refine (sSaturate_val HZ.out _).mono ?_
          rintro e w8 ⟨rfl, rfl⟩
          go_wp2_with (at_builtin; refine wpList_append1 _ rfl _ _ rfl W0.heap.size _ _ rfl (HO7.out.alloc _) z hz9.out w7.heap.size rfl (by simp [go_sem]) (by rw [HLN.out]; omega) (by simp; omega) ?_; intro v' w9 hown hg)
          have hown2 := hown.take_snoc HLT.out hvz.out
          clear hown
          have X9 : Ext W0 w9 := Ext.grown (HX7.out.alloc _) hg (fun g e => (HO7.out.lt g e).1)
          go_wp2
          go_roundw
          case rel => exact ⟨k + 1, by omega, by go_num, hown2, X9⟩
          case measure => simp [intOf]; omega
    · obtain rfl : k = m := by omega
      rw [List.take_of_length_le (by rw [HDl.out]; exact Nat.le_refl _)] at hown ⊢
      have HDl2 := HDl.out
      go_wp2
      go_ret
      first | exact ⟨_, rfl, hown.low (by omega), HX0.out.trans hx⟩ | (rw [HDl2] at hown; exact ⟨_, rfl, hown.low (by omega), HX0.out.trans hx⟩)

set_option maxRecDepth 100000 in
set_option maxHeartbeats 12800000 in
theorem sApply6 (fv : List Int → Int) (s : ByteArray) (num : Int) (S : List (List Int)) (lo hi lo' hi' : Nat) (n m : Nat) (pu tu av : Value) (tm : Int) (t : Tex) (w : World)
    (hF : FunO num S.length fv) (hS : SS lo hi w av S) (hh : hi ≤ w.heap.size) (hT : TexR lo' hi' w (.agg #[.int .i64 t.log, tu]) t) (hh' : hi' ≤ w.heap.size) (hg : ∀ r ∈ S, good m r) (hm : (n : Int) * n = m) (hm2 : m ≤ 64) (hl : S.length ≤ 3) :
    Calls Tryz.prog 32 #[.agg #[.int .i64 n, pu, .int .i64 tm, .int .i64 t.log, tu], .agg #[.int .i64 6, .string s, .int .i64 num], av] w fun e w' => ∃ r, e = .returned r ∧ OwnInts w.heap.size w' r ((List.range m).map fun k => satI (fv (colOf S k))) ∧ Ext w w' := by
  obtain ⟨a, cap, rfl, HS⟩ := hS.open
  have l1 := HS.le
  have l2 := HS.cap
  have HT := hid hT
  have HG := hid hg
  have HF := hid hF
  clear hS hT hg hF
  obtain ⟨D, hD⟩ : ∃ D, ((List.range m).map fun k => satI (fv (colOf S k))) = D := ⟨_, rfl⟩
  have HDl : Hid (D.length = m) := by rw [← hD]; show (List.map _ _).length = m; simp
  have HDa : Hid (∀ k (h : k < D.length), D[k] = satI (fv (colOf S k))) := by subst hD; show ∀ k (h : k < (List.map _ _).length), (List.map _ _)[k] = _; intro k h; simp
  rw [hD]
  clear hD
  have x0 : Ext w ((w.alloc (.cells #[.int .i64 n, pu, .int .i64 tm, .int .i64 t.log, tu] 44)).alloc (.cells #[.int .i64 6, .string s, .int .i64 num] 64)) := (by repeat (with_reducible (first | assumption | exact Ext.refl _ | apply Ext.alloc | apply Ext.drew | apply Ext.drewN)))
  have gb := (GBox.made w n pu tm t.log tu 44).ext ((Ext.refl _).alloc (.cells #[.int .i64 6, .string s, .int .i64 num] 64))
  have xb := XBox.made (w.alloc (.cells #[.int .i64 n, pu, .int .i64 tm, .int .i64 t.log, tu] 44)) 6 s num 64
  simp only [World.size_alloc] at xb
  obtain ⟨W0, hW0⟩ : ∃ W, (w.alloc (.cells #[.int .i64 n, pu, .int .i64 tm, .int .i64 t.log, tu] 44)).alloc (.cells #[.int .i64 6, .string s, .int .i64 num] 64) = W := ⟨_, rfl⟩
  rw [hW0] at x0 gb xb
  have HGB := hid gb
  have HXB := hid xb
  have HX0 := hid x0
  have HW0 := hid hW0
  have hz0 := x0.size
  have hzW : w.heap.size + 2 = W0.heap.size := by rw [← hW0]; simp
  clear gb xb x0 hW0
  go_enter Tryz.func32, Tryz.ntmps32
  go_wp2
  rw [HW0.out]
  go_loopw [7, 8] (fun v jv wr => ∃ k : Nat, k ≤ m ∧ jv = .int .i64 k ∧ OwnInts W0.heap.size wr v (D.take k) ∧ Ext W0 wr) (fun _ jv _ => m - (intOf jv).toNat)
  case atStart => exact ⟨0, by omega, rfl, by simpa [← hzW] using OwnInts.lit0 W0, (by repeat (with_reducible (first | assumption | exact Ext.refl _ | apply Ext.alloc | apply Ext.drew | apply Ext.drewN)))⟩
  case round =>
    obtain ⟨k, hk, rfl, hown, hx⟩ := hrel
    obtain ⟨ov, oc, rfl, _⟩ := hown.form
    have hGB := HGB.out.ext hx
    have hXB := HXB.out.ext hx
    have g0 := hGB.lt
    have g1 := hGB.c0
    have g2 := hGB.c1
    have g3 := hGB.c2
    have g4 := hGB.c3
    have g5 := hGB.c4
    by_cases hlt : k < m
    · have hlen : (D.take k).length = k := by rw [List.length_take, HDl.out]; omega
      have HLT : Hid (k < D.length) := by rw [HDl.out]; exact hlt
      rw [hlen] at hown ⊢
      have HLN := hid hlen
      clear hlen
      have HO := hid hown
      have HX := hid hx
      clear hown hx hGB hXB
      rename World => W1
      have hzz := HX.out.size
      go_wp2
      go_loopw [9, 48] (fun v i wq => ∃ j : Nat, j ≤ S.length ∧ i = .int .i64 j ∧ OwnInts W1.heap.size wq v ((colOf S k).take j) ∧ Ext W1 wq) (fun _ i _ => S.length - (intOf i).toNat)
      case atStart => exact ⟨0, by omega, rfl, OwnInts.lit0 W1, (by repeat (with_reducible (first | assumption | exact Ext.refl _ | apply Ext.alloc | apply Ext.drew | apply Ext.drewN)))⟩
      case round =>
        clear g0 g1 g2 g3 g4 g5
        obtain ⟨j, hj, rfl, hown, hy⟩ := hrel
        obtain ⟨av, cv, rfl, hcv⟩ := hown.form
        have hlen : ((colOf S k).take j).length = j := by rw [List.length_take, colOf_len]; omega
        rw [hlen] at hown ⊢
        by_cases hlj : j < S.length
        · obtain ⟨b, off, u, rfl, hb1, hb2, c0, hu⟩ := HS.at hlj (HX0.out.trans (HX.out.trans hy)) hh
          obtain ⟨g1, g2⟩ := HG.out _ (List.getElem_mem hlj)
          obtain ⟨ua, uc, rfl, HU⟩ := hu.open
          have lu := HU.le
          have lc := HU.cap
          obtain ⟨b3, off3, rfl, hb3, hb4, c3⟩ := HU.at (k := k) (by omega)
          have hz4 := HX.out.size
          have hz5 := hy.size
          have hb5 : b3 < wr.heap.size := by omega
          have hgd := getD_at S[j] k (by omega)
          have hsn := colOf_take S k j hlj
          rw [hgd] at hsn
          have i9 := (g2 _ (List.getElem_mem (show k < S[j].length by omega))).i64
          obtain ⟨x, hxk⟩ : ∃ x, S[j][k]'(by omega) = x := ⟨_, rfl⟩
          rw [hxk] at c3 hsn i9
          rw [g1] at lu c0
          have HO2 := hid hown
          have HY := hid hy
          have HSN := hid hsn
          have HL := hid hlen
          have HI := hid i9
          clear hown hy hsn hlen hxk hgd hu HU i9 hz4 hz5 g1 g2
          go_wp2_with (at_builtin; refine wpList_append1 _ rfl _ _ rfl W1.heap.size _ _ rfl (HO2.out.alloc _) x HI.out wr.heap.size rfl (by simp [go_sem]) (by rw [HL.out]; omega) (by have := HY.out.size; simp; omega) ?_; intro v' w7 hown hg)
          rw [HSN.out] at hown
          go_wp2
          go_roundw
          case rel => exact ⟨j + 1, by omega, by go_num, hown, Ext.grown (HY.out.alloc _) hg (fun g e => (HO2.out.lt g e).1)⟩
          case measure => simp [intOf]; omega
        · obtain rfl : j = S.length := by omega
          rw [List.take_of_length_le (by rw [colOf_len]; omega)] at hown
          have xq := HX.out.trans hy
          have hs9 := colOf_S9 HG.out hlt
          have hGB := HGB.out.ext xq
          have hXB := HXB.out.ext xq
          have HC := hid (HF.out _ _ _ _ wr (colOf_len S k) hs9 hown.ints (Nat.le_refl _))
          have HX2 := hid xq
          have HO2 := hid (HO.out.ext hy)
          have g0 := hGB.lt
          have g1 := hGB.c0
          have g2 := hGB.c1
          have g3 := hGB.c2
          have g4 := hGB.c3
          have g5 := hGB.c4
          have y0 := hXB.lt
          have y1 := hXB.c0
          have y2 := hXB.c1
          have y3 := hXB.c2
          clear hown hy xq hs9 hlen hGB hXB
          go_wp2_with fail
          refine HC.out.mono ?_
          rintro e w7 ⟨rfl, x7⟩
          obtain ⟨z, hz⟩ : ∃ y, satI (fv (colOf S k)) = y := ⟨_, rfl⟩
          have HZ := hid hz
          have hz9 : Hid (I64 z) := hid (by rw [← hz]; exact (satI_S9 _).i64)
          have HX7 := hid (HX2.out.trans x7)
          have HO7 := hid (HO2.out.ext x7)
          have hvz : Hid (D[k]'HLT.out = z) := (HDa.out _ HLT.out).trans hz
          have hz7 := HX7.out.size
          clear hz x7 g0 g1 g2 g3 g4 g5 y0 y1 y2 y3
          go_wp2_with fail
          refine (sSaturate_val HZ.out _).mono ?_
          rintro e w8 ⟨rfl, rfl⟩
          go_wp2_with (at_builtin; refine wpList_append1 _ rfl _ _ rfl W0.heap.size _ _ rfl (HO7.out.alloc _) z hz9.out w7.heap.size rfl (by simp [go_sem]) (by rw [HLN.out]; omega) (by simp; omega) ?_; intro v' w9 hown hg)
          have hown2 := hown.take_snoc HLT.out hvz.out
          clear hown
          have X9 : Ext W0 w9 := Ext.grown (HX7.out.alloc _) hg (fun g e => (HO7.out.lt g e).1)
          go_wp2
          go_roundw
          case rel => exact ⟨k + 1, by omega, by go_num, hown2, X9⟩
          case measure => simp [intOf]; omega
    · obtain rfl : k = m := by omega
      rw [List.take_of_length_le (by rw [HDl.out]; exact Nat.le_refl _)] at hown ⊢
      have HDl2 := HDl.out
      go_wp2
      go_ret
      first | exact ⟨_, rfl, hown.low (by omega), HX0.out.trans hx⟩ | (rw [HDl2] at hown; exact ⟨_, rfl, hown.low (by omega), HX0.out.trans hx⟩)
end Go.Proofs.YtdkohjeobjejeaaGreat
end

section
/- This text proves the reference's rows of all instructions with operands. -/
namespace Go.Proofs.YtdkohjeobjejeaaGreat
open Go.RowKit

theorem FunS_abs (n : Nat) (pu : Value) (tm : Int) (tu : Value) (t : Tex) (_ht : t.okB = true) : FunS ⟨#[97, 98, 115]⟩ n pu tm tu t 1 (fnV t [97, 98, 115]) := by
  intro lo hi lo' hi' u x w hl hs hu hh hv hh'
  obtain ⟨a, rfl⟩ := one_of hl
  exact sFn_abs lo hi u _ _ _ _ _ w hu hh (hs a (by simp)) rfl
theorem FunS_floor (n : Nat) (pu : Value) (tm : Int) (tu : Value) (t : Tex) (_ht : t.okB = true) : FunS ⟨#[102, 108, 111, 111, 114]⟩ n pu tm tu t 1 (fnV t [102, 108, 111, 111, 114]) := by
  intro lo hi lo' hi' u x w hl hs hu hh hv hh'
  obtain ⟨a, rfl⟩ := one_of hl
  exact sFn_floor lo hi u _ _ _ _ _ w hu hh (hs a (by simp)) rfl
theorem FunS_min (n : Nat) (pu : Value) (tm : Int) (tu : Value) (t : Tex) (_ht : t.okB = true) : FunS ⟨#[109, 105, 110]⟩ n pu tm tu t 2 (fnV t [109, 105, 110]) := by
  intro lo hi lo' hi' u x w hl hs hu hh hv hh'
  obtain ⟨a, b, rfl⟩ := two_of hl
  exact sFn_min lo hi u _ _ _ _ _ w hu hh (hs a (by simp)) (hs b (by simp)) rfl
theorem FunS_max (n : Nat) (pu : Value) (tm : Int) (tu : Value) (t : Tex) (_ht : t.okB = true) : FunS ⟨#[109, 97, 120]⟩ n pu tm tu t 2 (fnV t [109, 97, 120]) := by
  intro lo hi lo' hi' u x w hl hs hu hh hv hh'
  obtain ⟨a, b, rfl⟩ := two_of hl
  exact sFn_max lo hi u _ _ _ _ _ w hu hh (hs a (by simp)) (hs b (by simp)) rfl
theorem FunS_step (n : Nat) (pu : Value) (tm : Int) (tu : Value) (t : Tex) (_ht : t.okB = true) : FunS ⟨#[115, 116, 101, 112]⟩ n pu tm tu t 2 (fnV t [115, 116, 101, 112]) := by
  intro lo hi lo' hi' u x w hl hs hu hh hv hh'
  obtain ⟨a, b, rfl⟩ := two_of hl
  exact sFn_step lo hi u _ _ _ _ _ w hu hh (hs a (by simp)) (hs b (by simp)) rfl
theorem FunS_noise (n : Nat) (pu : Value) (tm : Int) (tu : Value) (t : Tex) (_ht : t.okB = true) : FunS ⟨#[110, 111, 105, 115, 101]⟩ n pu tm tu t 2 (fnV t [110, 111, 105, 115, 101]) := by
  intro lo hi lo' hi' u x w hl hs hu hh hv hh'
  obtain ⟨a, b, rfl⟩ := two_of hl
  exact sFn_noise lo hi u _ _ _ _ _ w hu hh (hs a (by simp)) (hs b (by simp)) rfl
theorem FunS_tex (n : Nat) (pu : Value) (tm : Int) (tu : Value) (t : Tex) (_ht : t.okB = true) : FunS ⟨#[116, 101, 120]⟩ n pu tm tu t 2 (fnV t [116, 101, 120]) := by
  intro lo hi lo' hi' u x w hl hs hu hh hv hh'
  obtain ⟨a, b, rfl⟩ := two_of hl
  exact sFn_tex lo hi lo' hi' u _ _ _ _ _ t w hu hh hv hh' _ht rfl
theorem FunS_clamp (n : Nat) (pu : Value) (tm : Int) (tu : Value) (t : Tex) (_ht : t.okB = true) : FunS ⟨#[99, 108, 97, 109, 112]⟩ n pu tm tu t 3 (fnV t [99, 108, 97, 109, 112]) := by
  intro lo hi lo' hi' u x w hl hs hu hh hv hh'
  obtain ⟨a, b, c, rfl⟩ := three_of hl
  exact sFn_clamp lo hi u _ _ _ _ _ w hu hh  rfl
theorem FunS_mix (n : Nat) (pu : Value) (tm : Int) (tu : Value) (t : Tex) (_ht : t.okB = true) : FunS ⟨#[109, 105, 120]⟩ n pu tm tu t 3 (fnV t [109, 105, 120]) := by
  intro lo hi lo' hi' u x w hl hs hu hh hv hh'
  obtain ⟨a, b, c, rfl⟩ := three_of hl
  exact sFn_mix lo hi u _ _ _ _ _ w hu hh (hs a (by simp)) (hs b (by simp)) (hs c (by simp)) rfl

theorem sApply_d (rows : Bool) (xs : List Int) (lo hi : Nat) (n m : Nat) (pu tu av : Value) (tm g3 num : Int) (w : World) (s : ByteArray) (S : List (List Int)) (hs : s.toList = if rows then [100, 118] else [100, 117]) (hxs : S[0]? = some xs)
    (hS : SS lo hi w av S) (hh : hi ≤ w.heap.size) (hg : good m xs) (hm : n * n = m) (h1 : 1 ≤ n) (h8 : n ≤ 8) :
    Calls Tryz.prog 32 #[.agg #[.int .i64 n, pu, .int .i64 tm, .int .i64 g3, tu], .agg #[.int .i64 7, .string s, .int .i64 num], av] w fun e w' => ∃ r, e = .returned r ∧ OwnInts w.heap.size w' r (diffs xs n rows) ∧ Ext w w' := by
  obtain ⟨a, cap, rfl, HS⟩ := hS.open
  have l1 := HS.le
  have l2 := HS.cap
  have hl0 := (List.getElem?_eq_some_iff.1 hxs).1
  have hx0 := (List.getElem?_eq_some_iff.1 hxs).2
  obtain ⟨b, off, u, rfl, hb1, hb2, c0, hu⟩ := HS.at hl0 (Ext.refl w) hh
  rw [hx0] at hu
  simp only [Nat.add_zero] at c0
  have hbn : b ≠ w.heap.size := by omega
  have hbn2 : b ≠ w.heap.size + 1 := by omega
  have hbn1 : b < w.heap.size + 1 := by omega
  have HU := hid hu
  replace hg := hid hg
  clear hu hxs hx0
  cases rows
  · have e := conc (l := [100, 117]) hs
    subst e
    clear hs
    go_enter Tryz.func32, Tryz.ntmps32
    go_wp2_with fail
    refine wp_region_stages [([0, 1, 2, 3, 4, 5, 6, 7], 8), ([], 9)] 99 (w.heap.size + 1 + 1) (by kernel_rfl) (by kernel_rfl) ?_
    refine wpStages_cons ?_
    simp only [List.filterMap_cons, List.filterMap_nil, List.getElem?_toArray, List.getElem?_cons_zero, List.getElem?_cons_succ]
    show wpQuiet _ _ _ _ [_, _, _, _, _, _, _, _] _
    repeat (go_big_quiet_step (fail))
    refine wpQuiet_nil ⟨_, rfl, fun K hK => ?_⟩
    go_wp2_with fail
    refine (sDiff_any lo hi u xs n false _ (HU.out.ext hh (by repeat (with_reducible (first | assumption | exact Ext.refl _ | apply Ext.alloc | apply Ext.drew | apply Ext.drewN)))) (by simp; omega) (hg.out.1.trans hm.symm) h1 h8 hg.out.2).mono ?_
    rintro e w1 ⟨r, rfl, hr, x1⟩
    obtain ⟨ra, rc, rfl, _⟩ := hr.form
    have X1 : Ext w w1 := Ext.trans (by repeat (with_reducible (first | assumption | exact Ext.refl _ | apply Ext.alloc | apply Ext.drew | apply Ext.drewN))) x1
    go_wp2_with fail
    refine hK _ _ (.inr (fun k _ hk => x1.block (by first | omega | (simp; omega)))) ?_
    clear hK K
    refine wpStages_cons ?_
    simp only [List.filterMap_nil]
    show wpQuiet _ _ _ _ [] _
    try simp only [Act.put, List.setIfInBounds_toArray, List.set_cons_succ, List.set_cons_zero]
    repeat (go_big_quiet_step (fail))
    refine wpQuiet_nil ⟨_, rfl, fun K hK => ?_⟩
    go_wp2_with fail
    go_wp2_with fail
    refine hK _ _ (.inr (fun k _ hk => x1.block (by first | omega | (simp; omega)))) ?_
    clear hK K
    refine wpStages_nil ?_
    go_wp2
    go_ret
    exact ⟨_, rfl, hr.low (by simp; omega), X1⟩
  · have e := conc (l := [100, 118]) hs
    subst e
    clear hs
    go_enter Tryz.func32, Tryz.ntmps32
    go_wp2_with fail
    refine wp_region_stages [([0, 1, 2, 3, 4, 5, 6, 7], 8), ([], 9)] 99 (w.heap.size + 1 + 1) (by kernel_rfl) (by kernel_rfl) ?_
    refine wpStages_cons ?_
    simp only [List.filterMap_cons, List.filterMap_nil, List.getElem?_toArray, List.getElem?_cons_zero, List.getElem?_cons_succ]
    show wpQuiet _ _ _ _ [_, _, _, _, _, _, _, _] _
    repeat (go_big_quiet_step (fail))
    refine wpQuiet_nil ⟨_, rfl, fun K hK => ?_⟩
    go_wp2_with fail
    refine (sDiff_any lo hi u xs n true _ (HU.out.ext hh (by repeat (with_reducible (first | assumption | exact Ext.refl _ | apply Ext.alloc | apply Ext.drew | apply Ext.drewN)))) (by simp; omega) (hg.out.1.trans hm.symm) h1 h8 hg.out.2).mono ?_
    rintro e w1 ⟨r, rfl, hr, x1⟩
    obtain ⟨ra, rc, rfl, _⟩ := hr.form
    have X1 : Ext w w1 := Ext.trans (by repeat (with_reducible (first | assumption | exact Ext.refl _ | apply Ext.alloc | apply Ext.drew | apply Ext.drewN))) x1
    go_wp2_with fail
    refine hK _ _ (.inr (fun k _ hk => x1.block (by first | omega | (simp; omega)))) ?_
    clear hK K
    refine wpStages_cons ?_
    simp only [List.filterMap_nil]
    show wpQuiet _ _ _ _ [] _
    try simp only [Act.put, List.setIfInBounds_toArray, List.set_cons_succ, List.set_cons_zero]
    repeat (go_big_quiet_step (fail))
    refine wpQuiet_nil ⟨_, rfl, fun K hK => ?_⟩
    go_wp2_with fail
    go_wp2_with fail
    refine hK _ _ (.inr (fun k _ hk => x1.block (by first | omega | (simp; omega)))) ?_
    clear hK K
    refine wpStages_nil ?_
    go_wp2
    go_ret
    exact ⟨_, rfl, hr.low (by simp; omega), X1⟩
theorem sCall_any (s : ByteArray) (num : Int) (S : List (List Int)) (lo hi lo' hi' : Nat) (n m : Nat) (pu tu av : Value) (tm : Int) (t : Tex) (w : World) (hs : 0 ≤ arity s) (hl : (S.length : Int) = arity s) (ht : t.okB = true)
    (hS : SS lo hi w av S) (hh : hi ≤ w.heap.size) (hT : TexR lo' hi' w (.agg #[.int .i64 t.log, tu]) t) (hh' : hi' ≤ w.heap.size) (hg : ∀ r ∈ S, good m r) (hm : n * n = m) (h1 : 1 ≤ n) (h8 : n ≤ 8) :
    Calls Tryz.prog 32 #[.agg #[.int .i64 n, pu, .int .i64 tm, .int .i64 t.log, tu], .agg #[.int .i64 7, .string s, .int .i64 num], av] w fun e w' => ∃ r, e = .returned r ∧ OwnInts w.heap.size w' r (callRow n m t s.toList S) ∧ Ext w w' := by
  have hmi : (n : Int) * n = m := by rw [← hm]; simp
  have hm2 : m ≤ 64 := by
    have : n * n ≤ 8 * 8 := Nat.mul_le_mul h8 h8
    omega
  have key : ∀ (l : List UInt8) (ar : Nat), s.toList = l → (l == [100, 117]) = false → (l == [100, 118]) = false → (arityL l = ar) → ar ≤ 3 →
      FunS ⟨l.toArray⟩ n pu tm tu t ar (fnV t l) → Calls Tryz.prog 32 #[.agg #[.int .i64 n, pu, .int .i64 tm, .int .i64 t.log, tu], .agg #[.int .i64 7, .string s, .int .i64 num], av] w fun e w' => ∃ r, e = .returned r ∧ OwnInts w.heap.size w' r (callRow n m t s.toList S) ∧ Ext w w' := by
    intro l ar hsl h1' h2' har ha3 hF
    have hlen : S.length = ar := by
      unfold arity at hl
      rw [hsl, har] at hl
      omega
    subst hlen
    rw [hsl]
    unfold callRow
    rw [h1', h2']
    have e := conc hsl
    subst e
    exact sApply7 (fnV t l) _ num S lo hi lo' hi' n m pu tu av tm t w (by rw [hsl]; exact h1') (by rw [hsl]; exact h2') hF hS hh hT hh' hg hmi hm2 ha3
  have hd : ∀ rows : Bool, s.toList = (if rows then [100, 118] else [100, 117]) → Calls Tryz.prog 32 #[.agg #[.int .i64 n, pu, .int .i64 tm, .int .i64 t.log, tu], .agg #[.int .i64 7, .string s, .int .i64 num], av] w fun e w' => ∃ r, e = .returned r ∧ OwnInts w.heap.size w' r (callRow n m t s.toList S) ∧ Ext w w' := by
    intro rows hsl
    have hl1 : S.length = 1 := by
      unfold arity at hl
      rw [hsl] at hl
      cases rows <;> (have : (S.length : Int) = 1 := hl; omega)
    obtain ⟨xs, rfl⟩ : ∃ xs, S = [xs] := by
      match S, hl1 with
      | [a], _ => exact ⟨a, rfl⟩
    have := sApply_d rows xs lo hi n m pu tu av tm t.log num w s [xs] hsl rfl hS hh (hg xs (by simp)) hm h1 h8
    rw [hsl]
    cases rows <;> exact this
  unfold arity arityL at hs
  by_cases c_abs : (s.toList == [97, 98, 115]) = true
  · exact key [97, 98, 115] 1 (eq_of_beq c_abs) rfl rfl rfl (by decide) (FunS_abs n pu tm tu t ht)
  by_cases c_floor : (s.toList == [102, 108, 111, 111, 114]) = true
  · exact key [102, 108, 111, 111, 114] 1 (eq_of_beq c_floor) rfl rfl rfl (by decide) (FunS_floor n pu tm tu t ht)
  by_cases c_du : (s.toList == [100, 117]) = true
  · exact hd false (eq_of_beq c_du)
  by_cases c_dv : (s.toList == [100, 118]) = true
  · exact hd true (eq_of_beq c_dv)
  by_cases c_min : (s.toList == [109, 105, 110]) = true
  · exact key [109, 105, 110] 2 (eq_of_beq c_min) rfl rfl rfl (by decide) (FunS_min n pu tm tu t ht)
  by_cases c_max : (s.toList == [109, 97, 120]) = true
  · exact key [109, 97, 120] 2 (eq_of_beq c_max) rfl rfl rfl (by decide) (FunS_max n pu tm tu t ht)
  by_cases c_step : (s.toList == [115, 116, 101, 112]) = true
  · exact key [115, 116, 101, 112] 2 (eq_of_beq c_step) rfl rfl rfl (by decide) (FunS_step n pu tm tu t ht)
  by_cases c_noise : (s.toList == [110, 111, 105, 115, 101]) = true
  · exact key [110, 111, 105, 115, 101] 2 (eq_of_beq c_noise) rfl rfl rfl (by decide) (FunS_noise n pu tm tu t ht)
  by_cases c_tex : (s.toList == [116, 101, 120]) = true
  · exact key [116, 101, 120] 2 (eq_of_beq c_tex) rfl rfl rfl (by decide) (FunS_tex n pu tm tu t ht)
  by_cases c_clamp : (s.toList == [99, 108, 97, 109, 112]) = true
  · exact key [99, 108, 97, 109, 112] 3 (eq_of_beq c_clamp) rfl rfl rfl (by decide) (FunS_clamp n pu tm tu t ht)
  by_cases c_mix : (s.toList == [109, 105, 120]) = true
  · exact key [109, 105, 120] 3 (eq_of_beq c_mix) rfl rfl rfl (by decide) (FunS_mix n pu tm tu t ht)
  simp only [Bool.not_eq_true] at c_abs c_floor c_du c_dv c_min c_max c_step c_noise c_tex c_clamp c_mix
  simp [c_abs, c_floor, c_du, c_dv, c_min, c_max, c_step, c_noise, c_tex, c_clamp, c_mix] at hs
/-- an operation at a column -/
def opV (num : Int) (x : List Int) : Int := opI num (x.getD 0 0) (x.getD (if num = 3 then 0 else 1) 0)
theorem FunO_un : FunO 3 1 (opV 3) := by
  intro lo hi u x w hl hs hu hh
  obtain ⟨a, rfl⟩ := one_of hl
  exact sOp_any lo hi u (op := 3) (a := a) (b := a) (by unfold opsOk; omega) (hs a (by simp)) (hs a (by simp)) rfl w hu hh
theorem FunO_bin {num : Int} (h : inB num 4 7 = true) : FunO num 2 (opV num) := by
  intro lo hi u x w hl hs hu hh
  obtain ⟨a, b, rfl⟩ := two_of hl
  have hb := inB_iff.1 h
  have h3 : num ≠ 3 := by omega
  refine sOp_any lo hi u (op := num) (a := a) (b := b) (by unfold opsOk; omega) (hs a (by simp)) (hs b (by simp)) (by unfold opV; rw [if_neg h3]; rfl) w (by unfold opArgs; rw [if_neg h3]; exact hu) hh
theorem op_row {m : Nat} {num : Int} {S : List (List Int)} {a b : List Int} (ha : S[0]? = some a) (hb : S[if num = 3 then 0 else 1]? = some b) (h1 : a.length = m) (h2 : b.length = m) : ((List.range m).map fun k => satI (opV num (colOf S k))) = List.zipWith (arithI num) a b := by
  apply List.ext_getElem?
  intro i
  by_cases hi : i < m
  · have e1 : (colOf S i).getD 0 0 = a[i]'(by omega) := by
      unfold colOf
      rw [List.getD, List.getElem?_map, ha]
      exact getD_at a i (by omega)
    have e2 : (colOf S i).getD (if num = 3 then 0 else 1) 0 = b[i]'(by omega) := by
      unfold colOf
      rw [List.getD, List.getElem?_map, hb]
      exact getD_at b i (by omega)
    rw [List.getElem?_map, List.getElem?_range hi, List.getElem?_eq_getElem (by simp; omega), List.getElem_zipWith]
    simp only [Option.map_some, Option.some.injEq]
    unfold opV arithI
    rw [e1, e2]
  · rw [List.getElem?_eq_none (by simp; omega), List.getElem?_eq_none (by simp; omega)]
end Go.Proofs.YtdkohjeobjejeaaGreat
end

section
/- This text proves the reference's RunGrid where it hands back no rows, and the rows of its instructions. -/
namespace Go.Proofs.YtdkohjeobjejeaaGreat
open Go.RowKit

theorem sFill_any {lo lo' : Nat} {w : World} {n m : Nat} {pu tu lv : Value} {f : Nat → Int} {tm : Int} {t : Tex} {L : List (List Int)} {op : Int} {s : ByteArray} {num : Int} {args : List (List Int)} (G : GridIn lo w n m pu tu f tm t) (hlo : lo ≤ w.heap.size) (hL : SS 0 lo' w lv L) (hlo' : lo' ≤ w.heap.size) (hn : S9 num) (ho : op = 1 ∨ op = 2 ∨ op = 3)
    (h3 : op = 3 → ∃ j : Nat, num = j ∧ ∃ xs, L[j]? = some xs ∧ good m xs) :
    Calls Tryz.prog 31 #[.agg #[.int .i64 n, pu, .int .i64 tm, .int .i64 t.log, tu], .agg #[.int .i64 op, .string s, .int .i64 num], lv] w fun e w' => ∃ r, e = .returned r ∧ OwnInts w.heap.size w' r (rowI n m f tm t op s num args L) ∧ Ext w w' := by
  obtain ⟨q1, q2, q3⟩ := G.hmi
  rcases ho with rfl | rfl | rfl
  · have e : rowI n m f tm t 1 s num args L = List.replicate m num := by unfold rowI; rw [if_pos rfl]
    rw [e]
    exact sFill1 0 lo n m pu tu lv f tm t.log s num w G.flats hlo G.hm G.h1 G.h8 (List.replicate m num) (by simp) hn.i64 (fun k h => by simp)
  · have e : rowI n m f tm t 2 s num args L = (List.range m).map (varL s.toList f tm) := by unfold rowI; rw [if_neg (by simp), if_pos rfl]
    rw [e]
    refine sFill2 0 lo n m pu tu lv f tm t.log s num w G.flats hlo G.hm G.h1 G.h8 ((List.range m).map (varL s.toList f tm)) (by simp) (fun k h => by simp) (fun x hx => ?_)
    obtain ⟨i, hi, rfl⟩ := List.mem_map.1 hx
    exact (varL_S9 _ G.f9 G.tm9 (List.mem_range.1 hi)).i64
  · obtain ⟨j, rfl, xs, hx, hg⟩ := h3 rfl
    have e : rowI n m f tm t 3 s j args L = xs := by unfold rowI; rw [if_neg (by simp), if_neg (by simp), if_pos rfl, Int.toNat_natCast, List.getD, hx]; rfl
    rw [e]
    exact sFill3 0 lo' n pu tu lv tm t.log s j L xs w hL hlo' hx (by rw [hg.1]; omega) (by rw [hg.1]; omega)
theorem sApply_any {lo lo' : Nat} {w : World} {n m : Nat} {pu tu av : Value} {f : Nat → Int} {tm : Int} {t : Tex} {L args : List (List Int)} {op : Int} {s : ByteArray} {num : Int} {L0 p : Nat} (G : GridIn lo w n m pu tu f tm t) (hlo : lo ≤ w.heap.size) (hS : SS 0 lo' w av args) (hlo' : lo' ≤ w.heap.size) (ho : op = 5 ∨ op = 6 ∨ op = 7)
    (hwf : wfI op s num L0 = true) (hp : popsI op s = p) (hl : args.length = p) (hg : ∀ r ∈ args, good m r) :
    Calls Tryz.prog 32 #[.agg #[.int .i64 n, pu, .int .i64 tm, .int .i64 t.log, tu], .agg #[.int .i64 op, .string s, .int .i64 num], av] w fun e w' => ∃ r, e = .returned r ∧ OwnInts w.heap.size w' r (rowI n m f tm t op s num args L) ∧ Ext w w' := by
  obtain ⟨q1, q2, q3⟩ := G.hmi
  rcases ho with rfl | rfl | rfl
  · have h0 : p = 1 := by have : popsI 5 s = 1 := rfl; omega
    have hn3 : num = 3 := by simp [wfI] at hwf; exact hwf.2
    subst hn3
    obtain ⟨a, rfl⟩ : ∃ a, args = [a] := by
      match args, hl.trans h0 with
      | [a], _ => exact ⟨a, rfl⟩
    have e : rowI n m f tm t 5 s 3 [a] L = (List.range m).map fun k => satI (opV 3 (colOf [a] k)) := by
      unfold rowI
      rw [if_neg (by simp), if_neg (by simp), if_neg (by simp), if_pos rfl, op_row (a := a) (b := a) rfl rfl (hg a (by simp)).1 (hg a (by simp)).1]
      rfl
    rw [e]
    exact sApply5 (opV 3) s 3 [a] 0 lo' 0 lo n m pu tu av tm t w FunO_un hS hlo' G.tex hlo hg q1 q3 (by simp)
  · have h0 : p = 2 := by have : popsI 6 s = 2 := rfl; omega
    have hn4 : inB num 4 7 = true := by simp [wfI] at hwf; exact hwf.2
    have hb := inB_iff.1 hn4
    have h3 : num ≠ 3 := by omega
    obtain ⟨a, b, rfl⟩ : ∃ a b, args = [a, b] := by
      match args, hl.trans h0 with
      | [a, b], _ => exact ⟨a, b, rfl⟩
    have e : rowI n m f tm t 6 s num [a, b] L = (List.range m).map fun k => satI (opV num (colOf [a, b] k)) := by
      unfold rowI
      rw [if_neg (by simp), if_neg (by simp), if_neg (by simp), if_neg (by simp), if_pos rfl, op_row (a := a) (b := b) rfl (by rw [if_neg h3]; rfl) (hg a (by simp)).1 (hg b (by simp)).1]
      rfl
    rw [e]
    exact sApply6 (opV num) s num [a, b] 0 lo' 0 lo n m pu tu av tm t w (FunO_bin hn4) hS hlo' G.tex hlo hg q1 q3 (by simp)
  · have hp7 : arity s = p := by have : popsI 7 s = arity s := rfl; omega
    have e : rowI n m f tm t 7 s num args L = callRow n m t s.toList args := by
      unfold rowI
      rw [if_neg (by simp), if_neg (by simp), if_neg (by simp), if_neg (by simp), if_neg (by simp)]
    rw [e]
    exact sCall_any s num args 0 lo' 0 lo n m pu tu av tm t w (by omega) (by omega) G.ok hS hlo' G.tex hlo hg G.hm G.h1 G.h8
end Go.Proofs.YtdkohjeobjejeaaGreat
end

section
/- This text proves the reference's RunGrid where it runs. -/
namespace Go.Proofs.YtdkohjeobjejeaaGreat
open Go.RowKit

/-- the reference's memory of the machine: the stack sv (headers vs) holds S, the locals lv (headers us) hold L -/
structure Mst (lo lo2 : Nat) (w : World) (sv lv : Value) (vs us : List Value) (S L : List (List Int)) : Prop where
  so : w.ownsRow lo2 27 1 sv vs.length vs
  lo' : w.ownsRow lo 27 1 lv us.length us
  sep : ∀ k, lv.ownBlock = some k → k < lo2
  hl : lo ≤ lo2
  hl2 : lo2 ≤ w.heap.size
  sr : Rws lo w vs S
  lr : Rws lo w us L
theorem Mst.ext {lo lo2 : Nat} {w w' : World} {sv lv : Value} {vs us : List Value} {S L : List (List Int)} (M : Mst lo lo2 w sv lv vs us S L) (e : Ext w w') : Mst lo lo2 w' sv lv vs us S L := by
  have hg : w.grownBy w' none := ⟨Below.os e, Below.tape e, Below.output e, e.size, fun k hk _ => e.block hk⟩
  exact ⟨M.so.kept hg (by cases sv.ownBlock <;> simp), M.lo'.kept hg (by cases lv.ownBlock <;> simp), M.sep, M.hl, Nat.le_trans M.hl2 e.size, M.sr.keepI e.keepI, M.lr.keepI e.keepI⟩

theorem Mst.push {lo lo2 : Nat} {w w' : World} {sv lv v' y : Value} {vs us : List Value} {S L : List (List Int)} {r : List Int} (M : Mst lo lo2 w sv lv vs us S L) (hv' : w'.ownsRow lo2 27 1 v' (vs.length + 1) (vs ++ [y])) (hg : w.grownBy w' sv.ownBlock) (hy : OwnInts lo w y r) :
    Mst lo lo2 w' v' lv (vs ++ [y]) us (S ++ [r]) L ∧ Below lo w w' := by
  have hsl := World.ownsRow.lt M.so
  have kk : KeepI w w' := KeepI.grown hg (fun k cur fr hk => ownsRow.int M.so (by decide) k cur fr hk)
  refine ⟨⟨by simpa using hv', M.lo'.kept hg ?_, M.sep, M.hl, Nat.le_trans M.hl2 hg.size, (M.sr.keepI kk).snoc (hy.keepI kk), M.lr.keepI kk⟩, Below.grown (Below.refl _ _) hg (Nat.le_trans M.hl M.hl2) (fun k hk => by have := (hsl k hk).1; have := M.hl; omega)⟩
  cases hk : lv.ownBlock with
  | none => exact .inl rfl
  | some k => exact .inr (fun e => by have h1 := M.sep k hk; have h2 := (hsl k e.symm).1; omega)
theorem Mst.shrink {lo lo2 g cap : Nat} {w : World} {lv : Value} {vs us : List Value} {S L : List (List Int)} (M : Mst lo lo2 w (.slice (some ⟨g, 0, none⟩) vs.length cap) lv vs us S L) (q : Nat) (hq : q ≤ vs.length) : Mst lo lo2 w (.slice (some ⟨g, 0, none⟩) q cap) lv (vs.take q) us (S.take q) L := by
  have e : (vs.take q).length = q := by simp; omega
  exact ⟨by rw [e]; exact ownsRow.shrink M.so hq, M.lo', M.sep, M.hl, M.hl2, M.sr.take q, M.lr⟩
theorem Mst.store {lo lo2 lb lc : Nat} {w : World} {sv y : Value} {vs us : List Value} {S L : List (List Int)} {r : List Int} (M : Mst lo lo2 w sv (.slice (some ⟨lb, 0, none⟩) us.length lc) vs us S L) (j : Nat) (hy : OwnInts lo w y r) :
    Mst lo lo2 (w.setCell ⟨lb, j, none⟩ y) sv (.slice (some ⟨lb, 0, none⟩) us.length lc) vs (us.set j y) S (L.set j r) ∧ Below lo w (w.setCell ⟨lb, j, none⟩ y) := by
  have hsto := World.ownsRow.stored M.lo' j y
  have kk : KeepI w (w.setCell ⟨lb, j, none⟩ y) := KeepI.setCell _ (fun cur fr => ownsRow.int M.lo' (by decide) lb cur fr rfl)
  have hsl := World.ownsRow.lt M.so
  have hll := World.ownsRow.lt M.lo' lb rfl
  have hl2 : (us.set j y).length = us.length := by simp
  refine ⟨⟨M.so.kept hsto.2 ?_, by rw [hl2]; exact hsto.1, M.sep, M.hl, by have := M.hl2; simpa using this, M.sr.keepI kk, (M.lr.keepI kk).set j (hy.keepI kk)⟩, Below.setCell (Below.refl _ _) hll.1 _⟩
  cases hk : sv.ownBlock with
  | none => exact .inl rfl
  | some k => exact .inr (fun e => by injection e with e; have h1 := M.sep lb rfl; have h2 := (hsl k hk).1; omega)
theorem ownsRow.size {w : World} {lo : Nat} {e : TypeId} {n : Nat} {v : Value} {xs : List Value} (h : w.ownsRow lo e 1 v n xs) : xs.length = n := by have := h.1; omega

set_option maxRecDepth 100000 in
set_option maxHeartbeats 12800000 in
theorem sRunGrid_yes (lo hi lo' hi' : Nat) (v u : Value) (c : Cod) (g : Grd) (w : World) (hv : c.R lo hi w v) (hh : hi ≤ w.heap.size) (hu : g.R lo' hi' w u) (hh' : hi' ≤ w.heap.size) (hL : c.ls.length ≤ 2000000) (hyes : (c.runB && g.okB) = true) :
    Calls Tryz.prog 7 #[v, u] w fun e w' => ∃ r, e = .returned (.tuple #[r, .bool true]) ∧ SS 0 w'.heap.size w' r (c.out g) ∧ Ext w w' := by
  have HV := hid hv
  have HU := hid hu
  obtain ⟨a1, c1, a2, c2, rfl, HI, -⟩ := hv.form
  obtain ⟨pu, tu, rfl, -, t64, l64, hp, ht⟩ := hu
  clear hv
  have k1 := HI.le
  have k2 := HI.cap
  simp only [Bool.and_eq_true] at hyes
  obtain ⟨h1, h2⟩ := hyes
  obtain ⟨n, hn, hnn, n1, n8, hok, htm9, hf9⟩ := Grd.parts h2
  have hnums : ∀ x ∈ c.xs, numB x = true := by unfold Cod.runB at h1; simp at h1; exact h1.2
  have hdepS : c.depth.isSome = true := by unfold Cod.runB at h1; simp at h1; exact h1.1
  have hlen3 : c.xs.length ≤ 300 := by
    have hdepS := hdepS
    unfold Cod.depth at hdepS
    split at hdepS
    · assumption
    · simp at hdepS
  have hout : runG n g.m g.f g.tm g.t c.xs [] (List.replicate c.ls.length []) = c.out g := by unfold Cod.out; rw [hn]; rfl
  have HG := hid (show GridIn w.heap.size w n g.m pu tu g.f g.tm g.t from ⟨hp.wide (Nat.zero_le _) hh', ⟨tu, rfl, l64, ht.wide (Nat.zero_le _) hh'⟩, hnn, n1, n8, hok, htm9, hf9⟩)
  have HD := hid hdepS
  have HN := hid hnums
  have HOUT := hid hout
  clear hp ht t64 l64 hnn hok htm9 hf9 hdepS hnums hout
  rw [hn]
  replace hn := hid hn
  have x0 : Ext w ((w.alloc (.cells #[.slice a1 c.xs.length c1, .slice a2 c.ls.length c2] 39)).alloc (.cells #[.int .i64 n, pu, .int .i64 g.tm, .int .i64 g.t.log, tu] 44)) := (by repeat (with_reducible (first | assumption | exact Ext.refl _ | apply Ext.alloc | apply Ext.drew | apply Ext.drewN)))
  have cb := (TBox.made w (.slice a1 c.xs.length c1) (.slice a2 c.ls.length c2) 39).ext ((Ext.refl _).alloc (.cells #[.int .i64 n, pu, .int .i64 g.tm, .int .i64 g.t.log, tu] 44))
  have gb := GBox.made (w.alloc (.cells #[.slice a1 c.xs.length c1, .slice a2 c.ls.length c2] 39)) n pu g.tm g.t.log tu 44
  simp only [World.size_alloc] at gb
  obtain ⟨W0, hW0⟩ : ∃ W, (w.alloc (.cells #[.slice a1 c.xs.length c1, .slice a2 c.ls.length c2] 39)).alloc (.cells #[.int .i64 n, pu, .int .i64 g.tm, .int .i64 g.t.log, tu] 44) = W := ⟨_, rfl⟩
  rw [hW0] at x0 cb gb
  have HCB := hid cb
  have HGB := hid gb
  have HX0 := hid x0
  have HW0 := hid hW0
  have hz0 := x0.size
  have hzW : w.heap.size + 2 = W0.heap.size := by rw [← hW0]; simp
  clear cb gb x0 hW0
  obtain ⟨dep, hdep⟩ : ∃ b, c.depth.isSome = b := ⟨_, rfl⟩
  obtain ⟨dm, hdm⟩ : ∃ b, c.depth.getD 0 = b := ⟨_, rfl⟩
  have HDP := hid hdep
  have HDM := hid hdm
  clear hdep hdm
  go_enter Tryz.func7, Tryz.ntmps7
  go_wp2_with fail
  rw [HW0.out]
  refine (sDepth_val ⟨HDM.out, HDP.out⟩ lo hi _ _ (HV.out.ext hh HX0.out) (by omega) hL).mono ?_
  rintro e w1 ⟨rfl, x1⟩
  have hCB := HCB.out.ext x1
  have HX1 := hid x1
  have q0 := hCB.lt
  have q1 := hCB.c0
  have q2 := hCB.c1
  clear hCB x1
  go_wp2
  go_loopw [7, 26] (fun okv i wr => ∃ k : Nat, k ≤ c.xs.length ∧ i = .int .i64 k ∧ okv = .bool (dep && (c.xs.take k).all numB) ∧ Ext W0 wr) (fun _ i _ => c.xs.length - (intOf i).toNat)
  case atStart => exact ⟨0, by omega, rfl, by simp, HX1.out⟩
  case round =>
    clear q0 q1 q2 HX1
    obtain ⟨k, hk, rfl, rfl, hx⟩ := hrel
    by_cases hlt : k < c.xs.length
    · obtain ⟨b, off, op, s, num, rfl, hb1, hbw, hdrop, hget, io, inn, y0, y1, y2⟩ := HI.at hlt (HX0.out.trans hx) hh
      have hk2 : c.xs[k] = ⟨op, s, num⟩ := by have := hget; rw [List.getElem?_eq_getElem hlt] at this; exact Option.some.inj this
      have hnx : (dep && (c.xs.take (k + 1)).all numB) = ((dep && (c.xs.take k).all numB) && inB num (-1000000000) 1000000000) := by
        rw [List.take_succ_eq_append_getElem hlt, List.all_append, hk2, Bool.and_assoc]
        simp [numB]
      obtain ⟨cur, hcur⟩ : ∃ b, (dep && (c.xs.take k).all numB) = b := ⟨_, rfl⟩
      rw [hcur] at hnx ⊢
      have HNX := hid hnx
      have HX := hid hx
      clear hnx hcur hk2 hget hdrop hx
      cases cur
      · go_wp2
        go_roundw
        case rel => exact ⟨k + 1, by omega, by go_num, by rw [HNX.out]; rfl, by have hx := HX.out; exact (by repeat (first | with_reducible assumption | with_reducible exact Ext.refl _ | with_reducible apply Ext.alloc | with_reducible apply Ext.drew | with_reducible apply Ext.drewN | (with_reducible refine Ext.setCell ?_ (by simp; omega) _) | (with_reducible refine Ext.setCell ?_ (by simp) _)))⟩
        case measure => simp [intOf]; omega
      · cases hnb : inB num (-1000000000) 1000000000
        · have HNB := hid hnb
          clear hnb
          go_wp2_with fail
          refine (l01In_val HNB.out _).mono ?_
          rintro e w2 ⟨rfl, rfl⟩
          go_wp2
          go_roundw
          case rel => exact ⟨k + 1, by omega, by go_num, by rw [HNX.out, HNB.out]; rfl, by have hx := HX.out; exact (by repeat (first | with_reducible assumption | with_reducible exact Ext.refl _ | with_reducible apply Ext.alloc | with_reducible apply Ext.drew | with_reducible apply Ext.drewN | (with_reducible refine Ext.setCell ?_ (by simp; omega) _) | (with_reducible refine Ext.setCell ?_ (by simp) _)))⟩
          case measure => simp [intOf]; omega
        · have HNB := hid hnb
          clear hnb
          go_wp2_with fail
          refine (l01In_val HNB.out _).mono ?_
          rintro e w2 ⟨rfl, rfl⟩
          go_wp2
          go_roundw
          case rel => exact ⟨k + 1, by omega, by go_num, by rw [HNX.out, HNB.out]; rfl, by have hx := HX.out; exact (by repeat (first | with_reducible assumption | with_reducible exact Ext.refl _ | with_reducible apply Ext.alloc | with_reducible apply Ext.drew | with_reducible apply Ext.drewN | (with_reducible refine Ext.setCell ?_ (by simp; omega) _) | (with_reducible refine Ext.setCell ?_ (by simp) _)))⟩
          case measure => simp [intOf]; omega
    · obtain rfl : k = c.xs.length := by omega
      rw [List.take_length]
      have hrb : (dep && c.xs.all numB) = c.runB := by rw [← HDP.out]; rfl
      rw [hrb]
      have hgb := HGB.out.ext hx
      have hcb := HCB.out.ext hx
      have HX := hid hx
      have g0 := hgb.lt
      have g1 := hgb.c0
      have g2 := hgb.c1
      have g3 := hgb.c2
      have g4 := hgb.c3
      have g5 := hgb.c4
      have q0 := hcb.lt
      have q1 := hcb.c0
      have q2 := hcb.c1
      clear hrb hx hgb hcb
      rw [h1]
      have hzz := HX.out.size
      go_wp2_with fail
      refine (sValid_val h2 lo' hi' _ _ (by have := HU.out.ext hh' (HX0.out.trans HX.out); rw [hn.out] at this; exact this) (by omega)).mono ?_
      rintro e w2 ⟨rfl, x2⟩
      have X2 := HX.out.trans x2
      have hgb := HGB.out.ext X2
      have hcb := HCB.out.ext X2
      clear g0 g1 g2 g3 g4 g5 q0 q1 q2
      have g0 := hgb.lt
      have g1 := hgb.c0
      have g2 := hgb.c1
      have g3 := hgb.c2
      have g4 := hgb.c3
      have g5 := hgb.c4
      have q0 := hcb.lt
      have q1 := hcb.c0
      have q2 := hcb.c1
      have HX2 := hid X2
      have hz2 := X2.size
      clear hgb hcb X2 x2
      obtain ⟨i0, hi0, hz0', hz1', hz2'⟩ := info_parts info_ints
      go_wp2_with (at_make; refine wpList_make_row _ rfl _ _ 34 rfl 27 i0 (.slice none 0 0) Tryz.underlying34 hi0 hz0' hz1' rfl .i64 .i64 c.ls.length rfl rfl (by rw [hz2']; omega) (by omega) ?_)
      clear hi0 hz0' hz1' hz2'
      have M0 := hid (show Mst W0.heap.size (w2.heap.size + 1) ((w2.alloc (.cells (madeCells #[.slice none 0 0] c.ls.length) 27)).alloc (.cells #[] 27)) (.slice (some ⟨w2.heap.size + 1, 0, none⟩) 0 0) (.slice (some ⟨w2.heap.size, 0, none⟩) c.ls.length c.ls.length) [] (List.replicate c.ls.length (.slice none 0 0)) [] (List.replicate c.ls.length []) from by
        have hf := ownsRow.fresh w2 W0.heap.size c.ls.length hz2 hL
        refine ⟨?_, hf.alloc _, fun k hk => by simp [Value.ownBlock] at hk; omega, by omega, by simp, Rws.nil _ _, Rws.nils _ _ _⟩
        have := hnew (w2.alloc (.cells (madeCells #[.slice none 0 0] c.ls.length) 27)) (.cells #[] 27)
        exact ownsRow.empty (Nat.le_refl _) (by simpa using this))
      have X3 := hid (show Ext W0 ((w2.alloc (.cells (madeCells #[.slice none 0 0] c.ls.length) 27)).alloc (.cells #[] 27)) from (HX2.out.alloc _).alloc _)
      have hWw : w.heap.size ≤ W0.heap.size := by omega
      clear g0 g1 g2 g3 g4 g5 q0 q1 q2
      go_loopw [11, 52] (fun sv i wr => ∃ (k : Nat) (vs us : List Value) (S L : List (List Int)), k ≤ c.xs.length ∧ i = .int .i64 k ∧ Mst W0.heap.size (w2.heap.size + 1) wr sv (.slice (some ⟨w2.heap.size, 0, none⟩) c.ls.length c.ls.length) vs us S L ∧ (∃ g cap, sv = .slice (some ⟨g, 0, none⟩) vs.length cap) ∧ Okst c.ls.length g.m (c.xs.drop k) S L ∧ runG n g.m g.f g.tm g.t (c.xs.drop k) S L = c.out g ∧ S.length ≤ k ∧ Ext W0 wr) (fun _ i _ => c.xs.length - (intOf i).toNat)
      case atStart => exact ⟨0, _, _, _, _, by omega, rfl, M0.out, ⟨_, _, rfl⟩, by rw [List.drop_zero]; exact Okst.start HD.out, by rw [List.drop_zero]; exact HOUT.out, by simp, X3.out⟩
      case round =>
        clear M0 X3
        obtain ⟨k, vs, us, S, L, hk, rfl, M, ⟨gs, gc, rfl⟩, ok, hrun, hSk, hx⟩ := hrel
        by_cases hlt : k < c.xs.length
        · obtain ⟨b, off, op, s, num, rfl, hb1, hbw, hdrop, hget, io, inn, y0, y1, y2⟩ := HI.at hlt (HX0.out.trans hx) hh
          rw [hdrop] at ok hrun
          have hnb : numB ⟨op, s, num⟩ = true := HN.out _ (List.mem_of_getElem? hget)
          have hwf := ok.wf
          obtain ⟨p, hp, hpc⟩ := ok.pops
          have hloc := ok.local
          have HK := hid (ok.next (t := g.t) HG.out.hm hnb HG.out.f9 HG.out.tm9)
          have hgood := ok.rows
          have hlenL := ok.len
          simp only at hwf hp hpc hloc
          obtain ⟨q, hqd⟩ : ∃ q, cutI op s S = q := ⟨_, rfl⟩
          rw [hqd] at hpc
          have hvl := M.sr.len
          have hul := M.lr.len
          rw [← hvl] at hpc hSk
          replace hvl := hid hvl
          replace hul := hid hul
          obtain ⟨qv, hqv⟩ : ∃ q, pushI op = q := ⟨_, rfl⟩
          have hnum9 : S9 num := inB_iff.1 (show inB num (-1000000000) 1000000000 = true from hnb)
          obtain ⟨kc1, kc2⟩ := ownsRow.caps M.so
          obtain ⟨hgs1, hgs2⟩ := World.ownsRow.lt M.so gs rfl
          have hsub : (vs.length : Int) - p = q := by omega
          have hsub2 : vs.length - q = p := by omega
          have y00 : Ext wr (wr.alloc (.cells #[.int .i64 op, .string s, .int .i64 num] 64)) := (by repeat (with_reducible (first | assumption | exact Ext.refl _ | apply Ext.alloc | apply Ext.drew | apply Ext.drewN)))
          have HX := hid hx
          have HM := hid (M.ext y00)
          have HQ := hid hqd
          have HRUN := hid hrun
          have HP := hid hp
          have HQV := hid hqv
          have HWF := hid hwf
          have HGO := hid hgood
          have HLO := hid hloc
          have hdl : (vs.drop q).length = p := by simp; omega
          have HDL := hid hdl
          have HCE : Hid (∀ (w' : World), Ext wr w' → ∀ i y, (vs.drop q)[i]? = some y → w'.cell? ⟨gs, q + i, none⟩ = some y) := by
            intro w' x' i y hy
            rw [List.getElem?_drop] at hy
            have hlt2 := (List.getElem?_eq_some_iff.1 hy).1
            rw [x'.cells.1 _ _ hgs2, World.ownsRow.cellAt M.so (q + i) (by omega)]
            exact hy
          have HON : Hid (∀ y ∈ vs.drop q, y.oneCell' = true) := fun y hy => M.sr.one y (List.mem_of_mem_drop hy)
          have hcb := HCB.out.ext hx
          have hgb := HGB.out.ext hx
          have b0 := hcb.lt
          have b1 := hcb.c0
          have b2 := hcb.c1
          have g0 := hgb.lt
          have g1 := hgb.c0
          have g2 := hgb.c1
          have g3 := hgb.c2
          have g4 := hgb.c3
          have g5 := hgb.c4
          have hz4 := hx.size
          clear M ok hrun hget hdrop hx hnb hwf hp hqv hgood hloc hqd hdl hcb hgb
          go_wp2_with fail
          refine (sEff_wf _ _ _ _ _ c.ls.length hL op s num _ HWF.out HP.out HQV.out).mono ?_
          rintro e w4 ⟨rfl, x4⟩
          have x5 : Ext wr w4 := y00.trans x4
          have M4 := HM.out.ext x4
          have hcb := HCB.out.ext (HX.out.trans x5)
          have hgb := HGB.out.ext (HX.out.trans x5)
          have hxb := (XBox.made wr op s num 64).ext x4
          have HM4 := hid M4
          have HX4 := hid x5
          have HXB4 := hid hxb
          have hz5 := x5.size
          clear b0 b1 b2 g0 g1 g2 g3 g4 g5 y0 y1 y2 HM M4
          have b0 := hcb.lt
          have b1 := hcb.c0
          have b2 := hcb.c1
          have g0 := hgb.lt
          have g1 := hgb.c0
          have g2 := hgb.c1
          have g3 := hgb.c2
          have g4 := hgb.c3
          have g5 := hgb.c4
          have y0 := hxb.lt
          have y1 := hxb.c0
          have y2 := hxb.c1
          have y3 := hxb.c2
          clear hcb hgb hxb x4 x5 y00
          have hbx := hid (show ∀ w5, Ext w4 w5 → GBox w5 (w.heap.size + 1) n pu g.tm g.t.log tu ∧ XBox w5 wr.heap.size op s num from fun w5 x5 => ⟨(HGB.out.ext (HX.out.trans (HX4.out.trans x5))), by
            have hq := HXB4.out.ext x5
            exact hq⟩)
          by_cases hp0 : p = 0
          · subst hp0
            have hops : op = 1 ∨ op = 2 ∨ op = 3 := by
              have hw := HWF.out
              have hpp := HP.out
              have hab := arity_bd s
              by_cases h1 : 1 ≤ op ∧ op ≤ 7
              · rcases (show op = 1 ∨ op = 2 ∨ op = 3 ∨ op = 4 ∨ op = 5 ∨ op = 6 ∨ op = 7 by omega) with rfl | rfl | rfl | rfl | rfl | rfl | rfl
                · exact .inl rfl
                · exact .inr (.inl rfl)
                · exact .inr (.inr rfl)
                · exact absurd hpp (by have : popsI 4 s = 1 := rfl; omega)
                · exact absurd hpp (by have : popsI 5 s = 1 := rfl; omega)
                · exact absurd hpp (by have : popsI 6 s = 2 := rfl; omega)
                · exact absurd hpp (by have : popsI 7 s = arity s := rfl; omega)
              · unfold wfI at hw
                rw [if_neg (by omega), if_neg (by omega), if_neg (by omega), if_neg (by omega), if_neg (by omega), if_neg (by omega), if_neg (by omega)] at hw
                cases hw
            have h4 : (op == 4) = false := by rcases hops with rfl | rfl | rfl <;> rfl
            have h4n : op ≠ 4 := by rintro rfl; cases h4
            obtain rfl : q = vs.length := by omega
            have hops2 := hid hops
            have hr3 : Hid (op = 3 → ∃ j : Nat, num = j ∧ ∃ xs, L[j]? = some xs ∧ good g.m xs) := fun h3 => by
              obtain ⟨j, hj, _⟩ := wf_at HWF.out (.inl h3)
              obtain ⟨xs, hx, hgx⟩ := HLO.out h3
              rw [hj, Int.toNat_natCast] at hx
              exact ⟨j, hj, xs, hx, hgx⟩
            clear hops
            have eS : Hid (nextS n g.m g.f g.tm g.t ⟨op, s, num⟩ S L = S.take vs.length ++ [rowI n g.m g.f g.tm g.t op s num (S.drop vs.length) L]) := by
              unfold nextS
              rw [if_neg h4n, HQ.out]
              rfl
            have eL : Hid (nextL ⟨op, s, num⟩ S L = L) := by unfold nextL; rw [if_neg h4n]; rfl
            obtain ⟨row, hrow⟩ : ∃ r, rowI n g.m g.f g.tm g.t op s num (S.drop vs.length) L = r := ⟨_, rfl⟩
            have HROW := hid hrow
            clear hrow
            by_cases hgc : gc = vs.length
            · subst hgc
              go_wp2_with (at_builtin; refine wpList_append_rows _ rfl _ _ rfl w4.heap.size (.slice (some ⟨w4.heap.size, 0, none⟩) 0 0) 0 [] rfl (ownsRow.empty (Nat.le_refl _) (heap_alloc_new w4 _)) [] (fun y h => by cases h) _ _ _ rfl (fun i y h => by simp at h) (by simp) (by simp) ?_; intro v5 w5 hown5 hg5; have X5 : Ext w4 w5 := ((Ext.refl w4).alloc _).grown hg5 (fun k e => by simp [Value.ownBlock] at e; omega); obtain ⟨va5, vc5, rfl⟩ := ownsRow.form hown5; obtain ⟨⟨u0, u1, u2, u3, u4, u5⟩, ⟨t0, t1, t2, t3⟩⟩ := hbx.out w5 X5; have hz6 := X5.size)
              have M5 := HM4.out.ext X5
              have hfl := sFill_any (args := S.drop vs.length) (lo := w.heap.size) (lo' := w5.heap.size) (op := op) (s := s) (num := num) (HG.out.step (HX0.out.trans (HX.out.trans (HX4.out.trans X5)))) (by omega) (ownsRow.ss M5.lo' M5.lr) (Nat.le_refl _) hnum9 hops2.out hr3.out
              rw [HROW.out] at hfl
              refine hfl.mono ?_
              rintro e w6 ⟨r, rfl, hr, x6⟩
              obtain ⟨ra, rc, rfl, _⟩ := hr.form
              have M6 := hid (M5.ext x6)
              have hr6 := hid (hr.low (show W0.heap.size ≤ w5.heap.size by omega))
              have X6 := hid ((HX.out.trans (HX4.out.trans X5)).trans x6)
              have hz7 := x6.size
              clear hfl M5 hr x6 u0 u1 u2 u3 u4 u5 t0 t1 t2 t3 hown5 hg5 X5
              go_wp2_with (at_builtin; refine wpList_append_row _ rfl _ _ rfl (w2.heap.size + 1) _ vs.length vs rfl (World.ownsRow.alloc M6.out.so _) (.slice ra row.length rc) rfl w6.heap.size rfl (by simp [go_sem]) (by omega) (by have := M6.out.hl2; simp; omega) ?_; intro v7 w7 hown7 hg7; obtain ⟨g7, c7, rfl, _, _⟩ := ownsRow.form1 hown7 (by omega))
              have MB := (M6.out.ext ((Ext.refl w6).alloc (.cells #[.slice ra row.length rc] 27))).push hown7 hg7 (hr6.out.ext ((Ext.refl w6).alloc (.cells #[.slice ra row.length rc] 27)))
              have HMB := hid MB
              clear MB hown7 hg7
              go_wp2
              go_roundw
              case rel =>
                refine ⟨k + 1, vs ++ [.slice ra row.length rc], us, nextS n g.m g.f g.tm g.t ⟨op, s, num⟩ S L, nextL ⟨op, s, num⟩ S L, by omega, by go_num, ?_, ⟨g7, c7, by simp⟩, HK.out, HRUN.out, ?_, Below.trans (X6.out.alloc _) HMB.out.2⟩
                · have hS : S.take vs.length = S := by rw [hvl.out, List.take_length]
                  rw [eS.out, eL.out, HROW.out, hS]
                  exact HMB.out.1
                · have hv := hvl.out
                  rw [eS.out, List.length_append, List.length_take, List.length_singleton]
                  omega
              case measure => simp [intOf]; omega
            · skip
              go_wp2_with (at_builtin; refine wpList_append_rows _ rfl _ _ rfl w4.heap.size (.slice (some ⟨w4.heap.size, 0, none⟩) 0 0) 0 [] rfl (ownsRow.empty (Nat.le_refl _) (heap_alloc_new w4 _)) [] (fun y h => by cases h) _ _ _ rfl (fun i y h => by simp at h) (by simp) (by simp) ?_; intro v5 w5 hown5 hg5; have X5 : Ext w4 w5 := ((Ext.refl w4).alloc _).grown hg5 (fun k e => by simp [Value.ownBlock] at e; omega); obtain ⟨va5, vc5, rfl⟩ := ownsRow.form hown5; obtain ⟨⟨u0, u1, u2, u3, u4, u5⟩, ⟨t0, t1, t2, t3⟩⟩ := hbx.out w5 X5; have hz6 := X5.size)
              have M5 := HM4.out.ext X5
              have hfl := sFill_any (args := S.drop vs.length) (lo := w.heap.size) (lo' := w5.heap.size) (op := op) (s := s) (num := num) (HG.out.step (HX0.out.trans (HX.out.trans (HX4.out.trans X5)))) (by omega) (ownsRow.ss M5.lo' M5.lr) (Nat.le_refl _) hnum9 hops2.out hr3.out
              rw [HROW.out] at hfl
              refine hfl.mono ?_
              rintro e w6 ⟨r, rfl, hr, x6⟩
              obtain ⟨ra, rc, rfl, _⟩ := hr.form
              have M6 := hid (M5.ext x6)
              have hr6 := hid (hr.low (show W0.heap.size ≤ w5.heap.size by omega))
              have X6 := hid ((HX.out.trans (HX4.out.trans X5)).trans x6)
              have hz7 := x6.size
              clear hfl M5 hr x6 u0 u1 u2 u3 u4 u5 t0 t1 t2 t3 hown5 hg5 X5
              go_wp2_with (at_builtin; refine wpList_append_row _ rfl _ _ rfl (w2.heap.size + 1) _ vs.length vs rfl (World.ownsRow.alloc M6.out.so _) (.slice ra row.length rc) rfl w6.heap.size rfl (by simp [go_sem]) (by omega) (by have := M6.out.hl2; simp; omega) ?_; intro v7 w7 hown7 hg7; obtain ⟨g7, c7, rfl, _, _⟩ := ownsRow.form1 hown7 (by omega))
              have MB := (M6.out.ext ((Ext.refl w6).alloc (.cells #[.slice ra row.length rc] 27))).push hown7 hg7 (hr6.out.ext ((Ext.refl w6).alloc (.cells #[.slice ra row.length rc] 27)))
              have HMB := hid MB
              clear MB hown7 hg7
              go_wp2
              go_roundw
              case rel =>
                refine ⟨k + 1, vs ++ [.slice ra row.length rc], us, nextS n g.m g.f g.tm g.t ⟨op, s, num⟩ S L, nextL ⟨op, s, num⟩ S L, by omega, by go_num, ?_, ⟨g7, c7, by simp⟩, HK.out, HRUN.out, ?_, Below.trans (X6.out.alloc _) HMB.out.2⟩
                · have hS : S.take vs.length = S := by rw [hvl.out, List.take_length]
                  rw [eS.out, eL.out, HROW.out, hS]
                  exact HMB.out.1
                · have hv := hvl.out
                  rw [eS.out, List.length_append, List.length_take, List.length_singleton]
                  omega
              case measure => simp [intOf]; omega
          · have hgcn : ¬gc = q := by omega
            have hqv2 : q ≤ vs.length := by omega
            have hp1 : 1 ≤ p := by omega
            by_cases h4 : op = 4
            · subst h4
              have hp1' : p = 1 := by
                have := HP.out
                have e : popsI 4 s = 1 := rfl
                omega
              have hq1 : q + 1 = vs.length := by omega
              replace hp1' := hid hp1'
              obtain ⟨j, rfl, hjL⟩ := wf_at HWF.out (.inr rfl)
              obtain ⟨y, hy1, hy2⟩ := snoc_drop vs q hq1
              obtain ⟨row, hrow⟩ : ∃ r, S.getD q [] = r := ⟨_, rfl⟩
              have hyr : OwnInts W0.heap.size w4 y row := by
                have h1 : S[q]? = some row := by
                  rw [← hrow, List.getD, List.getElem?_eq_getElem (by have := hvl.out; omega)]
                  rfl
                have h2 : vs[q]? = some y := by
                  have : (vs.drop q)[0]? = some y := by rw [hy1]; rfl
                  rwa [List.getElem?_drop, Nat.add_zero] at this
                exact HM4.out.sr.own q y row h2 h1
              obtain ⟨ya, yc, rfl, _⟩ := hyr.form
              have HYR := hid hyr
              have HY1 := hid hy1
              have hul2 : us.length = c.ls.length := by have := hul.out; have := HM4.out.lr.len; omega
              have hju : j < us.length := by omega
              obtain ⟨y0, hy0⟩ : ∃ y, us[j]? = some y := ⟨us[j], by simp [hju]⟩
              have HY0 := hid hy0
              have HUL := hid hul2
              have hb0 : Hid (∀ (w' : World), Ext w4 w' → w'.cell? ⟨w2.heap.size, j, none⟩ = some y0 ∧ w'.frozen? ⟨w2.heap.size, j, none⟩ = false ∧ w2.heap.size < w'.heap.size) := fun w' x' => by
                have M' := (HM4.out.ext x').lo'
                have hb := (World.ownsRow.lt M' w2.heap.size rfl).2
                rw [HUL.out] at M'
                exact ⟨(World.ownsRow.cellAt M' j (by omega)).trans HY0.out, World.ownsRow.frozenAt M' j, hb⟩
              have eS : Hid (nextS n g.m g.f g.tm g.t ⟨4, s, j⟩ S L = S.take q) := by
                unfold nextS
                rw [if_pos rfl, HQ.out]
                rfl
              have eL : Hid (nextL ⟨4, s, j⟩ S L = L.set j row) := by
                unfold nextL
                rw [if_pos rfl, HQ.out, hrow, Int.toNat_natCast]
                rfl
              have hRR := hid hrow
              clear hyr hy1 hy2 hul2 hy0 hrow
              go_wp2_with (at_builtin; refine wpList_append_rows _ rfl _ _ rfl w4.heap.size (.slice (some ⟨w4.heap.size, 0, none⟩) 0 0) 0 [] rfl (ownsRow.empty (Nat.le_refl _) (heap_alloc_new w4 _)) (vs.drop q) HON.out gs q (gc - q) (Eq.trans (b := Value.slice (some ⟨gs, q, none⟩) p (gc - q)) rfl (by rw [HDL.out])) (HCE.out _ (HX4.out.alloc _)) (by rw [HDL.out]; omega) (by simp) ?_; intro v5 w5 hown5 hg5; have X5 : Ext w4 w5 := ((Ext.refl w4).alloc _).grown hg5 (fun k e => by simp [Value.ownBlock] at e; omega); rw [HDL.out, Nat.zero_add, List.nil_append] at hown5; obtain ⟨gb5, vc5, rfl, hgb1, hgb2⟩ := ownsRow.form1 hown5 (by omega); obtain ⟨⟨u0, u1, u2, u3, u4, u5⟩, ⟨t0, t1, t2, t3⟩⟩ := hbx.out w5 X5; have hz6 := X5.size ; rw [HY1.out] at hown5; have z0 := World.ownsRow.cellAt hown5 0 (by omega); simp at z0; obtain ⟨b0, b1, b2⟩ := hb0.out w5 X5)
              refine wp_region_stages [([0, 1, 2, 3, 4, 5, 6], 7)] 7 w5.heap.size (by kernel_rfl) (by kernel_rfl) ?_
              refine wpStages_cons ?_
              simp only [List.filterMap_cons, List.filterMap_nil, List.getElem?_toArray, List.getElem?_cons_zero, List.getElem?_cons_succ]
              show wpQuiet _ _ _ _ [_, _, _, _, _, _, _] _
              repeat (go_big_quiet_step (fail))
              refine wpQuiet_nil ⟨_, rfl, fun K hK => ?_⟩
              go_wp2_with fail
              go_wp2_with fail
              refine hK _ _ (.inl (by trivial)) ?_
              clear hK K
              refine wpStages_nil ?_
              have M5 := HM4.out.ext X5
              have MS := M5.shrink q hqv2
              have hyr5 := HYR.out.ext X5
              rw [← HUL.out] at MS
              have MT := MS.store j hyr5
              have HMT := hid MT
              have X6 := hid ((HX.out.trans (HX4.out.trans X5)))
              clear M5 MS MT hyr5 X5 hown5 hg5
              go_wp2
              go_roundw
              case rel =>
                refine ⟨k + 1, vs.take q, us.set j (.slice ya row.length yc), nextS n g.m g.f g.tm g.t ⟨4, s, j⟩ S L, nextL ⟨4, s, j⟩ S L, by omega, by go_num, ?_, ⟨gs, gc, by rw [List.length_take, Nat.min_eq_left hqv2]⟩, HK.out, HRUN.out, ?_, Below.trans X6.out ?_⟩
                · rw [eS.out, eL.out]
                  have := HMT.out.1
                  rw [HUL.out] at this
                  exact this.ext (Ext.drew (Ext.refl _))
                · rw [eS.out, List.length_take]
                  omega
                · exact HMT.out.2.drew
              case measure => simp [intOf]; omega
            · have hops : op = 5 ∨ op = 6 ∨ op = 7 := by
                have hw := HWF.out
                have hpp := HP.out
                by_cases h1 : 1 ≤ op ∧ op ≤ 7
                · rcases (show op = 1 ∨ op = 2 ∨ op = 3 ∨ op = 4 ∨ op = 5 ∨ op = 6 ∨ op = 7 by omega) with rfl | rfl | rfl | rfl | rfl | rfl | rfl
                  · exact absurd hpp (by have : popsI 1 s = 0 := rfl; omega)
                  · exact absurd hpp (by have : popsI 2 s = 0 := rfl; omega)
                  · exact absurd hpp (by have : popsI 3 s = 0 := rfl; omega)
                  · exact absurd rfl h4
                  · exact .inl rfl
                  · exact .inr (.inl rfl)
                  · exact .inr (.inr rfl)
                · unfold wfI at hw
                  rw [if_neg (by omega), if_neg (by omega), if_neg (by omega), if_neg (by omega), if_neg (by omega), if_neg (by omega), if_neg (by omega)] at hw
                  cases hw
              have eS : Hid (nextS n g.m g.f g.tm g.t ⟨op, s, num⟩ S L = S.take q ++ [rowI n g.m g.f g.tm g.t op s num (S.drop q) L]) := by
                unfold nextS
                rw [if_neg h4, HQ.out]
                rfl
              have eL : Hid (nextL ⟨op, s, num⟩ S L = L) := by unfold nextL; rw [if_neg h4]; rfl
              have h4b : (op == 4) = false := beq_eq_false_iff_ne.2 h4
              have hp0b : ((p : Int) == 0) = false := beq_eq_false_iff_ne.2 (by omega)
              have hga : Hid (∀ r ∈ S.drop q, good g.m r) := fun r hr => HGO.out r (List.mem_of_mem_drop hr)
              have hal : Hid ((S.drop q).length = p) := by have := hvl.out; show (S.drop q).length = p; rw [List.length_drop]; omega
              obtain ⟨row, hrow⟩ : ∃ r, rowI n g.m g.f g.tm g.t op s num (S.drop q) L = r := ⟨_, rfl⟩
              have HROW := hid hrow
              have HOPS := hid hops
              clear hrow hops
              go_wp2_with (at_builtin; refine wpList_append_rows _ rfl _ _ rfl w4.heap.size (.slice (some ⟨w4.heap.size, 0, none⟩) 0 0) 0 [] rfl (ownsRow.empty (Nat.le_refl _) (heap_alloc_new w4 _)) (vs.drop q) HON.out gs q (gc - q) (Eq.trans (b := Value.slice (some ⟨gs, q, none⟩) p (gc - q)) rfl (by rw [HDL.out])) (HCE.out _ (HX4.out.alloc _)) (by rw [HDL.out]; omega) (by simp) ?_; intro v5 w5 hown5 hg5; have X5 : Ext w4 w5 := ((Ext.refl w4).alloc _).grown hg5 (fun k e => by simp [Value.ownBlock] at e; omega); rw [HDL.out, Nat.zero_add, List.nil_append] at hown5; obtain ⟨gb5, vc5, rfl, hgb1, hgb2⟩ := ownsRow.form1 hown5 (by omega); obtain ⟨⟨u0, u1, u2, u3, u4, u5⟩, ⟨t0, t1, t2, t3⟩⟩ := hbx.out w5 X5; have hz6 := X5.size)
              have M5 := HM4.out.ext X5
              have hss := ownsRow.ss hown5 ((M5.sr).drop q)
              have hfl := sApply_any (L := L) (lo := w.heap.size) (lo' := w5.heap.size) (op := op) (s := s) (num := num) (HG.out.step (HX0.out.trans (HX.out.trans (HX4.out.trans X5)))) (by omega) hss (Nat.le_refl _) HOPS.out HWF.out HP.out hal.out hga.out
              rw [HROW.out] at hfl
              refine hfl.mono ?_
              rintro e w6 ⟨r, rfl, hr, x6⟩
              obtain ⟨ra, rc, rfl, _⟩ := hr.form
              have htl : (vs.take q).length = q := by rw [List.length_take, Nat.min_eq_left hqv2]
              have M6 := (M5.shrink q hqv2).ext x6
              have hso := M6.so
              rw [htl] at hso
              have HSO := hid hso
              have HM6 := hid M6
              have HTL := hid htl
              have hr6 := hid (hr.low (show W0.heap.size ≤ w5.heap.size by omega))
              have X6 := hid ((HX.out.trans (HX4.out.trans X5)).trans x6)
              have hz7 := x6.size
              clear hfl M5 M6 hso htl hr x6 u0 u1 u2 u3 u4 u5 t0 t1 t2 t3 hown5 hg5 X5 hss
              go_wp2_with (at_builtin; refine wpList_append_row _ rfl _ _ rfl (w2.heap.size + 1) _ q (vs.take q) rfl (World.ownsRow.alloc HSO.out _) (.slice ra row.length rc) rfl w6.heap.size rfl (by simp [go_sem]) (by omega) (by have := HM6.out.hl2; simp; omega) ?_; intro v7 w7 hown7 hg7; obtain ⟨g7, c7, rfl, _, _⟩ := ownsRow.form1 hown7 (by omega))
              have MB := (HM6.out.ext ((Ext.refl w6).alloc (.cells #[.slice ra row.length rc] 27))).push (by rw [HTL.out]; exact hown7) hg7 (hr6.out.ext ((Ext.refl w6).alloc (.cells #[.slice ra row.length rc] 27)))
              have HMB := hid MB
              clear MB hown7 hg7
              go_wp2
              go_roundw
              case rel =>
                refine ⟨k + 1, vs.take q ++ [.slice ra row.length rc], us, nextS n g.m g.f g.tm g.t ⟨op, s, num⟩ S L, nextL ⟨op, s, num⟩ S L, by omega, by go_num, ?_, ⟨g7, c7, by rw [List.length_append, HTL.out]; rfl⟩, HK.out, HRUN.out, ?_, Below.trans (X6.out.alloc _) HMB.out.2⟩
                · rw [eS.out, eL.out, HROW.out]
                  exact HMB.out.1
                · rw [eS.out, List.length_append, List.length_take, List.length_singleton]
                  omega
              case measure => simp [intOf]; omega
        · obtain rfl : k = c.xs.length := by omega
          rw [List.drop_length] at hrun
          have hrun' : L = c.out g := hrun
          have hss := ownsRow.ss M.lo' M.lr
          rw [hrun'] at hss
          have HSS := hid hss
          clear hrun hrun' hss M ok
          go_wp2
          refine bodyPost_ret (v := .tuple #[.slice (some ⟨w2.heap.size, 0, none⟩) c.ls.length c.ls.length, .bool true]) (by simp [results, Tryz.results7, go_sem]) rfl ⟨_, rfl, HSS.out, HX0.out.trans hx⟩
end Go.Proofs.YtdkohjeobjejeaaGreat
end

section
/- This text proves the reference's RunGrid where it hands back no rows. -/
namespace Go.Proofs.YtdkohjeobjejeaaGreat
open Go.RowKit

set_option maxRecDepth 100000 in
set_option maxHeartbeats 6400000 in
theorem sRunGrid_no (lo hi lo' hi' : Nat) (v u : Value) (c : Cod) (g : Grd) (w : World) (hv : c.R lo hi w v) (hh : hi ≤ w.heap.size) (hu : g.R lo' hi' w u) (hh' : hi' ≤ w.heap.size) (hL : c.ls.length ≤ 2000000) (hno : (c.runB && g.okB) = false) :
    Calls Tryz.prog 7 #[v, u] w fun e w' => e = .returned (.tuple #[.slice none 0 0, .bool false]) ∧ Ext w w' := by
  have HV := hid hv
  have HU := hid hu
  obtain ⟨a1, c1, a2, c2, rfl, HI, -⟩ := hv.form
  obtain ⟨pu, tu, rfl, -, t64, l64, hp, ht⟩ := hu
  clear hv
  have k1 := HI.le
  have k2 := HI.cap
  have x0 : Ext w ((w.alloc (.cells #[.slice a1 c.xs.length c1, .slice a2 c.ls.length c2] 39)).alloc (.cells #[.int .i64 g.n, pu, .int .i64 g.tm, .int .i64 g.t.log, tu] 44)) := (by repeat (with_reducible (first | assumption | exact Ext.refl _ | apply Ext.alloc | apply Ext.drew | apply Ext.drewN)))
  have cb := (TBox.made w (.slice a1 c.xs.length c1) (.slice a2 c.ls.length c2) 39).ext ((Ext.refl _).alloc (.cells #[.int .i64 g.n, pu, .int .i64 g.tm, .int .i64 g.t.log, tu] 44))
  have gb := GBox.made (w.alloc (.cells #[.slice a1 c.xs.length c1, .slice a2 c.ls.length c2] 39)) g.n pu g.tm g.t.log tu 44
  simp only [World.size_alloc] at gb
  obtain ⟨W0, hW0⟩ : ∃ W, (w.alloc (.cells #[.slice a1 c.xs.length c1, .slice a2 c.ls.length c2] 39)).alloc (.cells #[.int .i64 g.n, pu, .int .i64 g.tm, .int .i64 g.t.log, tu] 44) = W := ⟨_, rfl⟩
  rw [hW0] at x0 cb gb
  have HCB := hid cb
  have HGB := hid gb
  have HX0 := hid x0
  have HW0 := hid hW0
  have hz0 := x0.size
  have hzW : w.heap.size + 2 = W0.heap.size := by rw [← hW0]; simp
  clear cb gb x0 hW0
  obtain ⟨dep, hdep⟩ : ∃ b, c.depth.isSome = b := ⟨_, rfl⟩
  obtain ⟨dm, hdm⟩ : ∃ b, c.depth.getD 0 = b := ⟨_, rfl⟩
  have HDP := hid hdep
  have HDM := hid hdm
  clear hdep hdm
  go_enter Tryz.func7, Tryz.ntmps7
  go_wp2_with fail
  rw [HW0.out]
  refine (sDepth_val ⟨HDM.out, HDP.out⟩ lo hi _ _ (HV.out.ext hh HX0.out) (by omega) hL).mono ?_
  rintro e w1 ⟨rfl, x1⟩
  have hCB := HCB.out.ext x1
  have HX1 := hid x1
  have q0 := hCB.lt
  have q1 := hCB.c0
  have q2 := hCB.c1
  clear hCB x1
  go_wp2
  go_loopw [7, 26] (fun okv i wr => ∃ k : Nat, k ≤ c.xs.length ∧ i = .int .i64 k ∧ okv = .bool (dep && (c.xs.take k).all numB) ∧ Ext W0 wr) (fun _ i _ => c.xs.length - (intOf i).toNat)
  case atStart => exact ⟨0, by omega, rfl, by simp, HX1.out⟩
  case round =>
    clear q0 q1 q2 HX1
    obtain ⟨k, hk, rfl, rfl, hx⟩ := hrel
    by_cases hlt : k < c.xs.length
    · obtain ⟨b, off, op, s, num, rfl, hb1, hbw, hdrop, hget, io, inn, y0, y1, y2⟩ := HI.at hlt (HX0.out.trans hx) hh
      have hk2 : c.xs[k] = ⟨op, s, num⟩ := by have := hget; rw [List.getElem?_eq_getElem hlt] at this; exact Option.some.inj this
      have hnx : (dep && (c.xs.take (k + 1)).all numB) = ((dep && (c.xs.take k).all numB) && inB num (-1000000000) 1000000000) := by
        rw [List.take_succ_eq_append_getElem hlt, List.all_append, hk2, Bool.and_assoc]
        simp [numB]
      obtain ⟨cur, hcur⟩ : ∃ b, (dep && (c.xs.take k).all numB) = b := ⟨_, rfl⟩
      rw [hcur] at hnx ⊢
      have HNX := hid hnx
      have HX := hid hx
      clear hnx hcur hk2 hget hdrop hx
      cases cur
      · go_wp2
        go_roundw
        case rel => exact ⟨k + 1, by omega, by go_num, by rw [HNX.out]; rfl, by have hx := HX.out; exact (by repeat (first | with_reducible assumption | with_reducible exact Ext.refl _ | with_reducible apply Ext.alloc | with_reducible apply Ext.drew | with_reducible apply Ext.drewN | (with_reducible refine Ext.setCell ?_ (by simp; omega) _) | (with_reducible refine Ext.setCell ?_ (by simp) _)))⟩
        case measure => simp [intOf]; omega
      · cases hnb : inB num (-1000000000) 1000000000
        · have HNB := hid hnb
          clear hnb
          go_wp2_with fail
          refine (l01In_val HNB.out _).mono ?_
          rintro e w2 ⟨rfl, rfl⟩
          go_wp2
          go_roundw
          case rel => exact ⟨k + 1, by omega, by go_num, by rw [HNX.out, HNB.out]; rfl, by have hx := HX.out; exact (by repeat (first | with_reducible assumption | with_reducible exact Ext.refl _ | with_reducible apply Ext.alloc | with_reducible apply Ext.drew | with_reducible apply Ext.drewN | (with_reducible refine Ext.setCell ?_ (by simp; omega) _) | (with_reducible refine Ext.setCell ?_ (by simp) _)))⟩
          case measure => simp [intOf]; omega
        · have HNB := hid hnb
          clear hnb
          go_wp2_with fail
          refine (l01In_val HNB.out _).mono ?_
          rintro e w2 ⟨rfl, rfl⟩
          go_wp2
          go_roundw
          case rel => exact ⟨k + 1, by omega, by go_num, by rw [HNX.out, HNB.out]; rfl, by have hx := HX.out; exact (by repeat (first | with_reducible assumption | with_reducible exact Ext.refl _ | with_reducible apply Ext.alloc | with_reducible apply Ext.drew | with_reducible apply Ext.drewN | (with_reducible refine Ext.setCell ?_ (by simp; omega) _) | (with_reducible refine Ext.setCell ?_ (by simp) _)))⟩
          case measure => simp [intOf]; omega
    · obtain rfl : k = c.xs.length := by omega
      rw [List.take_length]
      have hrb : (dep && c.xs.all numB) = c.runB := by rw [← HDP.out]; rfl
      rw [hrb]
      have hgb := HGB.out.ext hx
      have hcb := HCB.out.ext hx
      have HX := hid hx
      have g0 := hgb.lt
      have g1 := hgb.c0
      have g2 := hgb.c1
      have g3 := hgb.c2
      have g4 := hgb.c3
      have g5 := hgb.c4
      have q0 := hcb.lt
      have q1 := hcb.c0
      have q2 := hcb.c1
      clear hrb hx hgb hcb
      cases h1 : c.runB
      · go_wp2
        refine bodyPost_ret (v := .tuple #[.slice none 0 0, .bool false]) (by simp [results, Tryz.results7, go_sem]) rfl ⟨rfl, HX0.out.trans HX.out⟩
      · have h2 : g.okB = false := by rw [h1] at hno; simpa using hno
        have hzz := HX.out.size
        go_wp2_with fail
        refine (sValid_val h2 lo' hi' _ _ (HU.out.ext hh' (HX0.out.trans HX.out)) (by omega)).mono ?_
        rintro e w2 ⟨rfl, x2⟩
        go_wp2
        refine bodyPost_ret (v := .tuple #[.slice none 0 0, .bool false]) (by simp [results, Tryz.results7, go_sem]) rfl ⟨rfl, (HX0.out.trans HX.out).trans x2⟩
end Go.Proofs.YtdkohjeobjejeaaGreat
end

section
/- This text holds RunGrid's contracts in one form, as the law wants them. -/
namespace Go.Proofs.YtdkohjeobjejeaaGreat
open Go.RowKit

theorem SS.kp {lo hi : Nat} {w w' : World} {v : Value} {S : List (List Int)} (h : SS lo hi w v S) (k : Kp lo hi w w') : SS lo hi w' v S := h.same k.same
/-- what RunGrid hands back -/
def Cod.res (c : Cod) (g : Grd) : List (List Int) := if (c.runB && g.okB) = true then c.out g else []
theorem OwnSS.nil (lo : Nat) (w : World) : OwnSS lo w (.slice none 0 0) [] := ⟨[], World.ownsRow_nil _ _ _ _, ⟨rfl, fun i v xs h => by simp at h⟩, List.Pairwise.nil, fun j u h => by simp at h⟩
theorem SS.nil (hi : Nat) (w : World) : SS 0 hi w (.slice none 0 0) [] := ⟨none, 0, rfl, Nat.le_refl _, by unfold maxLen; omega, fun i xs h => by simp at h⟩
theorem iRunGrid_one {b : Bool} {S : List (List Int)} (lo hi lo' hi' : Nat) (v u : Value) (c : Cod) (g : Grd) (w : World) (hb : (c.runB && g.okB) = b) (hS : c.res g = S) (hv : c.R lo hi w v) (hh : hi ≤ w.heap.size) (hu : g.R lo' hi' w u) (hh' : hi' ≤ w.heap.size) (hL : c.small) :
    Calls Tryz.prog 10 #[v, u] w fun e w' => ∃ r, e = .returned (.tuple #[r, .bool b]) ∧ OwnSS w.heap.size w' r S ∧ Ext w w' := by
  have hL' : c.ls.length ≤ 2000000 := by have := hL.2; omega
  subst hS
  unfold Cod.res
  cases b
  · rw [hb, if_neg (by decide)]
    exact (iRunGrid_no lo hi lo' hi' v u c g w hv hh hu hh' hL' hb).mono fun e w' ⟨h1, h2⟩ => ⟨_, h1, OwnSS.nil _ _, h2⟩
  · rw [hb, if_pos rfl]
    exact iRunGrid_yes lo hi lo' hi' v u c g w hv hh hu hh' hL' hb
theorem sRunGrid_one {b : Bool} {S : List (List Int)} (lo hi lo' hi' : Nat) (v u : Value) (c : Cod) (g : Grd) (w : World) (hb : (c.runB && g.okB) = b) (hS : c.res g = S) (hv : c.R lo hi w v) (hh : hi ≤ w.heap.size) (hu : g.R lo' hi' w u) (hh' : hi' ≤ w.heap.size) (hL : c.small) :
    Calls Tryz.prog 7 #[v, u] w fun e w' => ∃ r, e = .returned (.tuple #[r, .bool b]) ∧ SS 0 w'.heap.size w' r S ∧ Ext w w' := by
  have hL' : c.ls.length ≤ 2000000 := by have := hL.2; omega
  subst hS
  unfold Cod.res
  cases b
  · rw [hb, if_neg (by decide)]
    exact (sRunGrid_no lo hi lo' hi' v u c g w hv hh hu hh' hL' hb).mono fun e w' ⟨h1, h2⟩ => ⟨_, h1, SS.nil _ _, h2⟩
  · rw [hb, if_pos rfl]
    exact sRunGrid_yes lo hi lo' hi' v u c g w hv hh hu hh' hL' hb
theorem runG_small {L0 n m : Nat} {f : Nat → Int} {tm : Int} {t : Tex} (hm : n * n = m) (hf : ∀ i, i < m * 5 → S9 (f i)) (ht : S9 tm) :
    ∀ (xs : List Ins) (S L : List (List Int)), (∀ x ∈ xs, numB x = true) → Okst L0 m xs S L → (runG n m f tm t xs S L).length = L0 ∧ ∀ r ∈ runG n m f tm t xs S L, r.length ≤ m := by
  intro xs
  induction xs with
  | nil =>
    intro S L _ h
    refine ⟨h.len, fun r hr => ?_⟩
    obtain ⟨d, st, _, h2⟩ := h.run
    obtain ⟨j, hj⟩ := List.mem_iff_getElem?.1 hr
    rcases h2 j r hj with ⟨_, h3⟩ | ⟨_, h3⟩
    · have := h3.1; omega
    · rw [h3]; simp
  | cons x r ih =>
    intro S L hn h
    exact ih _ _ (fun y hy => hn y (List.mem_cons_of_mem _ hy)) (h.next hm (hn x List.mem_cons_self) hf ht)
theorem tot_le (S : List (List Int)) (m : Nat) (h : ∀ r ∈ S, r.length ≤ m) : tot S ≤ S.length * m := by
  induction S with
  | nil => simp [tot]
  | cons x r ih =>
    have h1 := h x List.mem_cons_self
    have h2 := ih fun y hy => h y (List.mem_cons_of_mem _ hy)
    simp only [tot, List.length_cons, Nat.add_mul, Nat.one_mul]
    omega
theorem Cod.res_tot {c : Cod} {g : Grd} (hc : c.small) : tot (c.res g) ≤ 4503599627370496 := by
  unfold Cod.res
  split
  · rename_i h
    simp only [Bool.and_eq_true] at h
    obtain ⟨h1, h2⟩ := h
    obtain ⟨n, hn, hm, hn1, hn8, ht, htm, hf⟩ := g.parts h2
    unfold Cod.runB at h1
    simp only [Bool.and_eq_true, List.all_eq_true] at h1
    have hnum := h1.2
    have hd := h1.1
    have key := runG_small (t := g.t) (f := g.f) (tm := g.tm) hm hf htm c.xs [] (List.replicate c.ls.length []) hnum (Okst.start hd)
    have e : c.out g = runG n g.m g.f g.tm g.t c.xs [] (List.replicate c.ls.length []) := by unfold Cod.out; rw [hn]; rfl
    rw [e]
    have h5 := tot_le _ _ key.2
    rw [key.1] at h5
    have h6 : n * n ≤ 8 * 8 := Nat.mul_le_mul hn8 hn8
    have h7 := Nat.mul_le_mul hc.2 (show g.m ≤ 64 by omega)
    omega
  · exact Nat.zero_le _
end Go.Proofs.YtdkohjeobjejeaaGreat
end

section
/- This text proves the search of a local by its name, of both sides. -/
namespace Go.Proofs.YtdkohjeobjejeaaGreat
open Go.RowKit

/-- the first place of the name s in ls, -1: none -/
def ixL (s : List UInt8) : List ByteArray → Int
  | [] => -1
  | x :: r => if x.toList = s then 0 else if ixL s r < 0 then -1 else ixL s r + 1
theorem ixL_bd (s : List UInt8) : ∀ ls, -1 ≤ ixL s ls ∧ ixL s ls < ls.length := by
  intro ls
  induction ls with
  | nil => simp [ixL]
  | cons x r ih =>
    simp only [ixL, List.length_cons]
    split
    · omega
    · split <;> omega
theorem ixL_at {s : List UInt8} : ∀ {ls : List ByteArray} {k : Nat} {y : ByteArray}, ls[k]? = some y → y.toList = s → (∀ j z, j < k → ls[j]? = some z → z.toList ≠ s) → ixL s ls = k := by
  intro ls
  induction ls with
  | nil => intro k y h; simp at h
  | cons x r ih =>
    intro k y h1 h2 h3
    cases k with
    | zero =>
      simp at h1
      subst h1
      simp [ixL, h2]
    | succ k =>
      have h0 := h3 0 x (by omega) rfl
      have := ih (k := k) (by simpa using h1) h2 (fun j z hj hz => h3 (j + 1) z (by omega) (by simpa using hz))
      simp only [ixL, if_neg h0, this]
      rw [if_neg (by omega)]
      simp
theorem ixL_no {s : List UInt8} : ∀ {ls : List ByteArray}, (∀ j z, j < ls.length → ls[j]? = some z → z.toList ≠ s) → ixL s ls = -1 := by
  intro ls
  induction ls with
  | nil => intro _; rfl
  | cons x r ih =>
    intro h
    have h0 := h 0 x (by simp) rfl
    have := ih (fun j z hj hz => h (j + 1) z (by simp; omega) (by simpa using hz))
    simp [ixL, if_neg h0, this]
set_option maxHeartbeats 1600000 in
theorem iIndex_any (lo hi : Nat) (u : Value) (ls : List ByteArray) (s : ByteArray) (w : World) (hu : Strs lo hi w u ls) (hl : ls.length ≤ 2000000) :
    Calls Tryz.prog 50 #[u, .string s] w fun e w' => e = .returned (.int .i64 (ixL s.toList ls)) ∧ w = w' := by
  obtain ⟨a, cap, rfl, HU⟩ := hu.open
  have l1 := HU.le
  have l2 := HU.cap
  clear hu
  go_enter Tryz.func50, Tryz.ntmps50
  go_wp2
  go_loopw [8] (fun i wr => ∃ k : Nat, k ≤ ls.length ∧ i = .int .i64 k ∧ wr = w ∧ ∀ j z, j < k → ls[j]? = some z → z.toList ≠ s.toList) (fun i _ => ls.length - (intOf i).toNat)
  case atStart => exact ⟨0, by omega, rfl, rfl, fun j x h => by omega⟩
  case round =>
    obtain ⟨k, hk, rfl, rfl, hno⟩ := hrel
    by_cases hlt : k < ls.length
    · obtain ⟨b, off, rfl, hb1, hb2, hc⟩ := HU.at hlt
      have hget : ls[k]? = some ls[k] := by simp [hlt]
      obtain ⟨y, hy⟩ : ∃ y, ls[k] = y := ⟨_, rfl⟩
      rw [hy] at hc hget
      clear hy
      by_cases he : (s.toList == y.toList) = true
      · have hv := hid (ixL_at hget (eq_of_beq he).symm hno)
        clear hno hget
        go_wp2
        go_ret
        exact ⟨by first | (rw [hv.out]; done) | (rw [hv.out]; rfl), rfl⟩
      · have HN : Hid (∀ j z, j < k + 1 → ls[j]? = some z → z.toList ≠ s.toList) := hid (fun j z hj hz => by
          by_cases hjk : j = k
          · subst hjk
            rw [hget] at hz
            injection hz with hz
            subst hz
            intro e
            exact he (by rw [e]; simp)
          · exact hno j z (by omega) hz)
        clear hno hget
        go_wp2
        go_roundw
        case rel => exact ⟨k + 1, by omega, by go_num, by trivial, HN.out⟩
        case measure => simp [intOf]; omega
    · obtain rfl : k = ls.length := by omega
      have hv := hid (ixL_no hno)
      clear hno
      go_wp2
      go_ret
      exact ⟨by first | (rw [hv.out]; done) | (rw [hv.out]; rfl), rfl⟩
set_option maxHeartbeats 1600000 in
theorem sLocal_any (lo hi : Nat) (u : Value) (ls : List ByteArray) (s : ByteArray) (w : World) (hu : Strs lo hi w u ls) (hl : ls.length ≤ 2000000) :
    Calls Tryz.prog 48 #[u, .string s] w fun e w' => e = .returned (.int .i64 (ixL s.toList ls)) ∧ w = w' := by
  obtain ⟨a, cap, rfl, HU⟩ := hu.open
  have l1 := HU.le
  have l2 := HU.cap
  clear hu
  go_enter Tryz.func48, Tryz.ntmps48
  go_wp2
  go_loopw [9] (fun i wr => ∃ k : Nat, k ≤ ls.length ∧ i = .int .i64 k ∧ wr = w ∧ ∀ j z, j < k → ls[j]? = some z → z.toList ≠ s.toList) (fun i _ => ls.length - (intOf i).toNat)
  case atStart => exact ⟨0, by omega, rfl, rfl, fun j x h => by omega⟩
  case round =>
    obtain ⟨k, hk, rfl, rfl, hno⟩ := hrel
    by_cases hlt : k < ls.length
    · obtain ⟨b, off, rfl, hb1, hb2, hc⟩ := HU.at hlt
      have hget : ls[k]? = some ls[k] := by simp [hlt]
      obtain ⟨y, hy⟩ : ∃ y, ls[k] = y := ⟨_, rfl⟩
      rw [hy] at hc hget
      clear hy
      by_cases he : (y.toList == s.toList) = true
      · have hv := hid (ixL_at hget (eq_of_beq he) hno)
        clear hno hget
        go_wp2
        go_ret
        exact ⟨by first | (rw [hv.out]; done) | (rw [hv.out]; rfl), rfl⟩
      · have HN : Hid (∀ j z, j < k + 1 → ls[j]? = some z → z.toList ≠ s.toList) := hid (fun j z hj hz => by
          by_cases hjk : j = k
          · subst hjk
            rw [hget] at hz
            injection hz with hz
            subst hz
            intro e
            exact he (by rw [e]; simp)
          · exact hno j z (by omega) hz)
        clear hno hget
        go_wp2
        go_roundw
        case rel => exact ⟨k + 1, by omega, by go_num, by trivial, HN.out⟩
        case measure => simp [intOf]; omega
    · obtain rfl : k = ls.length := by omega
      have hv := hid (ixL_no hno)
      clear hno
      go_wp2
      go_ret
      exact ⟨by first | (rw [hv.out]; done) | (rw [hv.out]; rfl), rfl⟩
end Go.Proofs.YtdkohjeobjejeaaGreat
end

section
/- This text says what ShadeGrid hands back, case by case, and opens the rows of RunGrid's result. -/
namespace Go.Proofs.YtdkohjeobjejeaaGreat
open Go.RowKit

theorem iIndex_val {i : Int} {s : ByteArray} {ls : List ByteArray} (h : ixL s.toList ls = i) (lo hi : Nat) (u : Value) (w : World) (hu : Strs lo hi w u ls) (hl : ls.length ≤ 2000000) :
    Calls Tryz.prog 50 #[u, .string s] w fun e w' => e = .returned (.int .i64 i) ∧ w = w' := h ▸ iIndex_any lo hi u ls s w hu hl
theorem sLocal_val {i : Int} {s : ByteArray} {ls : List ByteArray} (h : ixL s.toList ls = i) (lo hi : Nat) (u : Value) (w : World) (hu : Strs lo hi w u ls) (hl : ls.length ≤ 2000000) :
    Calls Tryz.prog 48 #[u, .string s] w fun e w' => e = .returned (.int .i64 i) ∧ w = w' := h ▸ sLocal_any lo hi u ls s w hu hl
def colorIx (ls : List ByteArray) : Int := ixL (⟨#[99, 111, 108, 111, 114]⟩ : ByteArray).toList ls
def alphaIx (ls : List ByteArray) : Int := ixL (⟨#[97, 108, 112, 104, 97]⟩ : ByteArray).toList ls
/-- what ShadeGrid hands back -/
def Cod.shade (c : Cod) (g : Grd) : List Int × List Int × Bool :=
  if (c.runB && g.okB) = true ∧ 0 ≤ colorIx c.ls ∧ (c.res g).getD (colorIx c.ls).toNat [] ≠ [] ∧ (alphaIx c.ls < 0 ∨ (c.res g).getD (alphaIx c.ls).toNat [] ≠ []) then
    (((c.res g).getD (colorIx c.ls).toNat []).map col, if alphaIx c.ls < 0 then List.replicate g.m 256 else ((c.res g).getD (alphaIx c.ls).toNat []).map col, true)
  else ([], [], false)
theorem Cod.res_small {c : Cod} {g : Grd} (h : (c.runB && g.okB) = true) : (c.res g).length = c.ls.length ∧ ∀ r ∈ c.res g, r.length ≤ 64 := by
  unfold Cod.res
  rw [if_pos h]
  simp only [Bool.and_eq_true] at h
  obtain ⟨h1, h2⟩ := h
  obtain ⟨n, hn, hm, hn1, hn8, ht, htm, hf⟩ := g.parts h2
  unfold Cod.runB at h1
  simp only [Bool.and_eq_true, List.all_eq_true] at h1
  have key := runG_small (t := g.t) (f := g.f) (tm := g.tm) hm hf htm c.xs [] (List.replicate c.ls.length []) h1.2 (Okst.start h1.1)
  have e : c.out g = runG n g.m g.f g.tm g.t c.xs [] (List.replicate c.ls.length []) := by unfold Cod.out; rw [hn]; rfl
  rw [e]
  have h6 : n * n ≤ 8 * 8 := Nat.mul_le_mul hn8 hn8
  exact ⟨key.1, fun r hr => by have := key.2 r hr; omega⟩
theorem shade_neg {P : Prop} [Decidable P] {A : List Int × List Int × Bool} {X Y : List Int} {b : Bool} (h : (if P then A else ([], [], false)) = (X, Y, b)) (hP : ¬P) : X = [] ∧ Y = [] ∧ b = false := by
  rw [if_neg hP] at h
  simp only [Prod.mk.injEq] at h
  exact ⟨h.1.symm, h.2.1.symm, h.2.2.symm⟩
/-- the cases of ShadeGrid -/
structure ShCases (m : Nat) (R : Bool) (S : List (List Int)) (i j : Int) (X Y : List Int) (b : Bool) : Prop where
  all : (R = false ∧ X = [] ∧ Y = [] ∧ b = false) ∨
    (R = true ∧ i = -1 ∧ X = [] ∧ Y = [] ∧ b = false) ∨
    (R = true ∧ ∃ k : Nat, i = k ∧ k ≤ 2000000 ∧ S[k]? = some [] ∧ X = [] ∧ Y = [] ∧ b = false) ∨
    (R = true ∧ ∃ (k : Nat) (r : List Int), i = k ∧ k ≤ 2000000 ∧ S[k]? = some r ∧ r ≠ [] ∧ r.length ≤ 64 ∧
      ((∃ l : Nat, j = l ∧ l ≤ 2000000 ∧ S[l]? = some [] ∧ X = [] ∧ Y = [] ∧ b = false) ∨ (j = -1 ∧ X = r.map col ∧ Y = List.replicate m 256 ∧ b = true) ∨
        ∃ (l : Nat) (q : List Int), j = l ∧ l ≤ 2000000 ∧ S[l]? = some q ∧ q ≠ [] ∧ q.length ≤ 64 ∧ X = r.map col ∧ Y = q.map col ∧ b = true))
theorem shade_cases {c : Cod} {g : Grd} {R : Bool} {S : List (List Int)} {i j : Int} {X Y : List Int} {b : Bool} (hL : c.small) (hs : c.shade g = (X, Y, b)) (eR : (c.runB && g.okB) = R) (eS : c.res g = S) (ei : colorIx c.ls = i) (ej : alphaIx c.ls = j) : ShCases g.m R S i j X Y b := by
  have bi := ixL_bd (⟨#[99, 111, 108, 111, 114]⟩ : ByteArray).toList c.ls
  have bj := ixL_bd (⟨#[97, 108, 112, 104, 97]⟩ : ByteArray).toList c.ls
  have hl := hL.2
  rw [show ixL (⟨#[99, 111, 108, 111, 114]⟩ : ByteArray).toList c.ls = i from ei] at bi
  rw [show ixL (⟨#[97, 108, 112, 104, 97]⟩ : ByteArray).toList c.ls = j from ej] at bj
  unfold Cod.shade at hs
  rw [eR, eS, ei, ej] at hs
  refine ⟨?_⟩
  cases R with
  | false => exact .inl ⟨rfl, shade_neg hs (fun h => by cases h.1)⟩
  | true =>
    right
    have hz := Cod.res_small eR
    rw [eS] at hz
    by_cases h1 : i < 0
    · exact .inl ⟨rfl, by omega, shade_neg hs (fun h => by have := h.2.1; omega)⟩
    · right
      obtain ⟨k, rfl⟩ : ∃ k : Nat, i = k := ⟨i.toNat, by omega⟩
      simp only [Int.toNat_natCast] at hs
      have hk : k < S.length := by omega
      have gk : S.getD k [] = S[k] := by simp [List.getD, hk]
      have sk : S[k]? = some S[k] := by simp [hk]
      rw [gk] at hs
      by_cases h2 : S[k] = []
      · exact .inl ⟨rfl, k, rfl, by omega, h2 ▸ sk, shade_neg hs (fun h => h.2.2.1 h2)⟩
      · refine .inr ⟨rfl, k, S[k], rfl, by omega, sk, h2, hz.2 _ (List.getElem_mem hk), ?_⟩
        by_cases h3 : j < 0
        · rw [if_pos ⟨by trivial, by omega, h2, .inl h3⟩, if_pos h3] at hs
          simp only [Prod.mk.injEq] at hs
          exact .inr (.inl ⟨by omega, hs.1.symm, hs.2.1.symm, hs.2.2.symm⟩)
        · obtain ⟨l, rfl⟩ : ∃ l : Nat, j = l := ⟨j.toNat, by omega⟩
          simp only [Int.toNat_natCast] at hs
          have hl' : l < S.length := by omega
          have gl : S.getD l [] = S[l] := by simp [List.getD, hl']
          have sl : S[l]? = some S[l] := by simp [hl']
          rw [gl] at hs
          by_cases h4 : S[l] = []
          · exact .inl ⟨l, rfl, by omega, h4 ▸ sl, shade_neg hs (fun h => by rcases h.2.2.2 with h | h; exact h3 h; exact h h4)⟩
          · rw [if_pos ⟨by trivial, by omega, h2, .inr h4⟩, if_neg h3] at hs
            simp only [Prod.mk.injEq] at hs
            exact .inr (.inr ⟨l, S[l], rfl, by omega, sl, h4, hz.2 _ (List.getElem_mem hl'), hs.1.symm, hs.2.1.symm, hs.2.2.symm⟩)
/-- the rows of a result of the program's RunGrid -/
theorem OwnSS.open1 {lo : Nat} {w : World} {v : Value} {S : List (List Int)} (h : OwnSS lo w v S) (hn : 1 ≤ S.length) : ∃ b cap, v = .slice (some ⟨b, 0, none⟩) S.length cap ∧ b < w.heap.size ∧ S.length ≤ cap ∧ cap ≤ 9223372036854775807 ∧ ∀ k r, S[k]? = some r → ∃ ru, w.cell? ⟨b, k, none⟩ = some ru ∧ OwnInts lo w ru r ∧ (r = [] → ru = .slice none 0 0) := by
  obtain ⟨us, h1, h2, h3, h4⟩ := h
  have hl := h2.len
  obtain ⟨b, cap, rfl, hb1, hb2⟩ := ownsRow.form1 h1 (by omega)
  obtain ⟨k1, k2⟩ := ownsRow.caps h1
  refine ⟨b, cap, by rw [hl], hb2, by omega, k2, fun k r hr => ?_⟩
  have hk : k < us.length := by have := (List.getElem?_eq_some_iff.1 hr).1; omega
  have hu : us[k]? = some us[k] := by simp [hk]
  refine ⟨us[k], ?_, h2.own k us[k] r hu hr, fun e => h4 k us[k] hu (e ▸ hr)⟩
  have := World.ownsRow.cellAt h1 k (by omega)
  rw [hu] at this
  exact this
theorem OwnInts.some {lo : Nat} {w : World} {v : Value} {xs : List Int} (h : OwnInts lo w v xs) (hx : xs ≠ []) : ∃ g c, v = .slice (some ⟨g, 0, none⟩) xs.length c ∧ g < w.heap.size := by
  rcases h.1.2 with ⟨rfl, h4⟩ | ⟨g, cap, cur, rfl, hb, hg, hc, hm, hs, ht⟩
  · exact absurd (List.length_eq_zero_iff.1 h4) hx
  · exact ⟨g, cap, rfl, (Array.getElem?_eq_some_iff.1 hg).1⟩
theorem IntsO.nil (lo hi : Nat) (w : World) : IntsO lo hi w (.slice none 0 0) [] := ⟨⟨World.ownsRow_nil _ _ _ _, fun x h => by cases h⟩, fun k h => by cases h⟩
theorem IntsO.high {lo hi hi' : Nat} {w : World} {v : Value} {xs : List Int} (h : IntsO lo hi w v xs) (hh : hi ≤ hi') : IntsO lo hi' w v xs := ⟨h.1, fun k hk => by have := h.2 k hk; omega⟩
end Go.Proofs.YtdkohjeobjejeaaGreat
end

section
/- This text proves the program's ShadeGrid. -/
namespace Go.Proofs.YtdkohjeobjejeaaGreat
open Go.RowKit

theorem iConstant_g {g : Grd} {n : Nat} (hg : g.n = n) (c : Int) (g1 : Value) (g2 g3 : Int) (g4 : Value) (w : World) (hm : (n : Int) * n = g.m) (hn : g.m ≤ 1000000) (hc : I64 c) :
    Calls Tryz.prog 52 #[.int .i64 c, .agg #[.int .i64 g.n, g1, .int .i64 g2, .int .i64 g3, g4]] w fun e w' => ∃ v, e = .returned v ∧ OwnInts w.heap.size w' v (List.replicate g.m c) ∧ Ext w w' := by
  rw [hg]
  exact iConstant_any c n g.m g1 g2 g3 g4 w hm hn hc
theorem shade_none {w w' : World} (h : Ext w w') : ∃ r1 r2, Ending.returned (.tuple #[.slice none 0 0, .slice none 0 0, .bool false]) = .returned (.tuple #[r1, r2, .bool false]) ∧ ∃ h, w.heap.size ≤ h ∧ h ≤ w'.heap.size ∧ IntsO w.heap.size h w' r1 [] ∧ IntsO h w'.heap.size w' r2 [] ∧ Ext w w' :=
  ⟨_, _, rfl, w'.heap.size, h.size, Nat.le_refl _, IntsO.nil _ _ _, IntsO.nil _ _ _, h⟩
set_option maxRecDepth 20000 in
set_option maxHeartbeats 6400000 in
theorem iShadeGrid_any (lo hi lo' hi' : Nat) (v u : Value) (c : Cod) (g : Grd) (w : World) {X Y : List Int} {b : Bool} (hs : c.shade g = (X, Y, b)) (hv : c.R lo hi w v) (hh : hi ≤ w.heap.size) (hu : g.R lo' hi' w u) (hh' : hi' ≤ w.heap.size) (hL : c.small) :
    Calls Tryz.prog 19 #[v, u] w fun e w' => ∃ r1 r2, e = .returned (.tuple #[r1, r2, .bool b]) ∧ ∃ h, w.heap.size ≤ h ∧ h ≤ w'.heap.size ∧ IntsO w.heap.size h w' r1 X ∧ IntsO h w'.heap.size w' r2 Y ∧ Ext w w' := by
  obtain ⟨R, eR⟩ : ∃ R, (c.runB && g.okB) = R := ⟨_, rfl⟩
  obtain ⟨S, eS⟩ : ∃ S, c.res g = S := ⟨_, rfl⟩
  obtain ⟨i, ei⟩ : ∃ i, colorIx c.ls = i := ⟨_, rfl⟩
  obtain ⟨j, ej⟩ : ∃ j, alphaIx c.ls = j := ⟨_, rfl⟩
  have hn : R = true → ∃ n : Nat, g.n = n ∧ (n : Int) * n = g.m ∧ g.m ≤ 64 := by
    intro h
    rw [h] at eR
    simp only [Bool.and_eq_true] at eR
    obtain ⟨n, hn, hm, hn1, hn8, -⟩ := g.parts eR.2
    have h6 : n * n ≤ 8 * 8 := Nat.mul_le_mul hn8 hn8
    exact ⟨n, hn, by rw [← hm]; simp, by omega⟩
  have CS := hid (shade_cases hL hs eR eS ei ej)
  have HC := hid hv
  have HG := hid hu
  have ER := hid eR
  have ES := hid eS
  have EI := hid ei
  have EJ := hid ej
  have HL := hid hL
  have HN := hid hn
  have hl : c.ls.length ≤ 1048576 := hL.2
  obtain ⟨iu, lu, rfl, -, hlu⟩ := hv
  have HLU := hid hlu
  obtain ⟨pu, tu, rfl, _⟩ := hu
  clear hs eR eS ei ej hn hlu hL
  have en : ∀ (w : World) (a : Option Addr) (n c : Nat), (binOp .eql 27 (.slice a n c) (.slice none 0 0)).run Tryz.prog w = .ok (.bool a.isNone) w := fun w a n c => Lib.run_eql_slice_nil w _ _ a n c 0 0 Tryz.underlying27
  go_enter Tryz.func19, Tryz.ntmps19
  go_wp2_with fail
  refine (iRunGrid_one lo hi lo' hi' _ _ c g _ ER.out ES.out (HC.out.ext hh (by repeat (with_reducible (first | assumption | exact Ext.refl _ | apply Ext.alloc | apply Ext.drew | apply Ext.drewN)))) (by simp; omega) (HG.out.ext hh' (by repeat (with_reducible (first | assumption | exact Ext.refl _ | apply Ext.alloc | apply Ext.drew | apply Ext.drewN)))) (by simp; omega) HL.out).mono ?_
  rintro e w1 ⟨r, rfl, O1, x1⟩
  have BP := hid (((Bx.made w #[iu, lu] _).ext ((Ext.refl _).alloc _)).ext x1)
  have BQ := hid ((Bx.madeAt (B := w.heap.size + 1) (w.alloc _) #[.int .i64 g.n, pu, .int .i64 g.tm, .int .i64 g.t.log, tu] _ (by simp)).ext x1)
  have E : Ext w w1 := Ext.trans (by repeat (with_reducible (first | assumption | exact Ext.refl _ | apply Ext.alloc | apply Ext.drew | apply Ext.drewN))) x1
  have z1 := E.size
  have O1' := O1
  obtain ⟨us0, h0, h0', -⟩ := O1'
  obtain ⟨ra, rc, hrr⟩ := ownsRow.form h0
  rw [h0'.len] at hrr
  subst hrr
  have OR := hid O1
  clear x1 O1 h0 h0'
  have p := BP.out.lt
  have p0 := BP.out.cell 0
  simp only [List.getElem?_toArray, List.getElem?_cons_zero, List.getElem?_cons_succ] at p0
  have p1 := BP.out.cell 1
  simp only [List.getElem?_toArray, List.getElem?_cons_zero, List.getElem?_cons_succ] at p1
  have q := BQ.out.lt
  have q0 := BQ.out.cell 0
  simp only [List.getElem?_toArray, List.getElem?_cons_zero, List.getElem?_cons_succ] at q0
  have q1 := BQ.out.cell 1
  simp only [List.getElem?_toArray, List.getElem?_cons_zero, List.getElem?_cons_succ] at q1
  have q2 := BQ.out.cell 2
  simp only [List.getElem?_toArray, List.getElem?_cons_zero, List.getElem?_cons_succ] at q2
  have q3 := BQ.out.cell 3
  simp only [List.getElem?_toArray, List.getElem?_cons_zero, List.getElem?_cons_succ] at q3
  have q4 := BQ.out.cell 4
  simp only [List.getElem?_toArray, List.getElem?_cons_zero, List.getElem?_cons_succ] at q4
  go_wp2_with fail
  refine wp_region_stages [([0, 1, 3, 4], 2), ([], 5), ([6], 7)] 7 w1.heap.size (by kernel_rfl) (by kernel_rfl) ?_
  refine wpStages_cons ?_
  simp only [List.filterMap_cons, List.filterMap_nil, List.getElem?_toArray, List.getElem?_cons_zero, List.getElem?_cons_succ]
  show wpQuiet _ _ _ _ [_, _, _, _] _
  repeat (go_big_quiet_step (fail))
  refine wpQuiet_nil ⟨_, rfl, fun K hK => ?_⟩
  go_wp2_with fail
  refine (iIndex_val EI.out lo hi _ _ (HLU.out.ext hh E.drew) (by omega)).mono ?_
  rintro e wx ⟨rfl, rfl⟩
  go_wp2_with fail
  refine hK _ _ (.inr (fun k _ hk => Ext.block (by repeat (with_reducible (first | assumption | exact Ext.refl _ | apply Ext.alloc | apply Ext.drew | apply Ext.drewN))) (by first | omega | (simp; omega)))) ?_
  clear hK K
  refine wpStages_cons ?_
  simp only [List.filterMap_nil]
  show wpQuiet _ _ _ _ [] _
  try simp only [Act.put, List.setIfInBounds_toArray, List.set_cons_succ, List.set_cons_zero]
  repeat (go_big_quiet_step (fail))
  refine wpQuiet_nil ⟨_, rfl, fun K hK => ?_⟩
  go_wp2_with fail
  refine (iIndex_val EJ.out lo hi _ _ (HLU.out.ext hh E.drew) (by omega)).mono ?_
  rintro e wx ⟨rfl, rfl⟩
  go_wp2_with fail
  refine hK _ _ (.inr (fun k _ hk => Ext.block (by repeat (with_reducible (first | assumption | exact Ext.refl _ | apply Ext.alloc | apply Ext.drew | apply Ext.drewN))) (by first | omega | (simp; omega)))) ?_
  clear hK K
  refine wpStages_cons ?_
  simp only [List.filterMap_cons, List.filterMap_nil, List.getElem?_toArray, List.getElem?_cons_zero, List.getElem?_cons_succ]
  show wpQuiet _ _ _ _ [_] _
  try simp only [Act.put, List.setIfInBounds_toArray, List.set_cons_succ, List.set_cons_zero]
  repeat (go_big_quiet_step (fail))
  refine wpQuiet_nil ⟨_, rfl, fun K hK => ?_⟩
  go_wp2_with fail
  go_wp2_with fail
  refine hK _ _ (.inl (by trivial)) ?_
  clear hK K
  refine wpStages_nil ?_
  rcases CS.out.all with ⟨rfl, rfl, rfl, rfl⟩ | ⟨rfl, rfl, rfl, rfl, rfl⟩ | ⟨rfl, k, rfl, hk, sk, rfl, rfl, rfl⟩ | ⟨rfl, k, a, rfl, hk, sk, ha, la, hrest⟩
  · go_wp2
    refine bodyPost_ret (v := .tuple #[.slice none 0 0, .slice none 0 0, .bool false]) (by simp [results, Tryz.results19, go_sem]) rfl (shade_none E.drew)
  · go_wp2
    refine bodyPost_ret (v := .tuple #[.slice none 0 0, .slice none 0 0, .bool false]) (by simp [results, Tryz.results19, go_sem]) rfl (shade_none E.drew)
  · have SK := hid sk
    have hkS : k < S.length := (List.getElem?_eq_some_iff.1 sk).1
    obtain ⟨rb, rc', hrv, hb1, hb2, hb3, hcell⟩ := OR.out.open1 (by omega)
    simp only [Value.slice.injEq] at hrv
    obtain ⟨rfl, -, rfl⟩ := hrv
    obtain ⟨ru, c0, -, e0⟩ := hcell k _ sk
    obtain rfl := e0 rfl
    clear sk hcell e0
    go_wp2
    refine bodyPost_ret (v := .tuple #[.slice none 0 0, .slice none 0 0, .bool false]) (by simp [results, Tryz.results19, go_sem]) rfl (shade_none E.drew)
  have SK := hid sk
  have hkS : k < S.length := (List.getElem?_eq_some_iff.1 sk).1
  obtain ⟨rb, rc', hrv, hb1, hb2, hb3, hcell⟩ := OR.out.open1 (by omega)
  simp only [Value.slice.injEq] at hrv
  obtain ⟨rfl, -, rfl⟩ := hrv
  obtain ⟨ru, c0, o0, -⟩ := hcell k _ sk
  obtain ⟨ga, ca, rfl, hga⟩ := o0.some ha
  have O0 := hid (o0.low (lo' := w.heap.size) (by simp <;> omega))
  clear o0
  obtain ⟨n, gn, hnn, hm⟩ := HN.out rfl
  rcases hrest with ⟨l, rfl, hl2, sl, rfl, rfl, rfl⟩ | ⟨rfl, rfl, rfl, rfl⟩ | ⟨l, q, rfl, hl2, sl, hq, lq, rfl, rfl, rfl⟩
  · have SL := hid sl
    have hlS : l < S.length := (List.getElem?_eq_some_iff.1 sl).1
    obtain ⟨rw, c1, -, e1⟩ := hcell l _ sl
    obtain rfl := e1 rfl
    clear sk sl hcell e1 hnn gn
    go_wp2
    refine bodyPost_ret (v := .tuple #[.slice none 0 0, .slice none 0 0, .bool false]) (by simp [results, Tryz.results19, go_sem]) rfl (shade_none E.drew)
  · clear sk hcell
    have GN := hid gn
    have NN := hid hnn
    clear gn hnn
    go_wp2_with fail
    refine wp_region_stages [([0, 1, 2, 3, 5], 4), ([], 6), ([7, 8], 9)] 9 w1.heap.size (by kernel_rfl) (by kernel_rfl) ?_
    refine wpStages_cons ?_
    simp only [List.filterMap_cons, List.filterMap_nil, List.getElem?_toArray, List.getElem?_cons_zero, List.getElem?_cons_succ]
    show wpQuiet _ _ _ _ [_, _, _, _, _] _
    repeat (go_big_quiet_step (fail))
    refine wpQuiet_nil ⟨_, rfl, fun K hK => ?_⟩
    go_wp2_with fail
    refine (iLimited_any w.heap.size w1.heap.size _ a _ (O0.out.ints.ext (Nat.le_refl _) (by repeat (with_reducible (first | assumption | exact Ext.refl _ | apply Ext.alloc | apply Ext.drew | apply Ext.drewN)))) (by simp) (by omega)).mono ?_
    rintro e w3 ⟨r1, rfl, o1, x1⟩
    have y3 : Ext w1 w3 := Ext.trans (by repeat (with_reducible (first | assumption | exact Ext.refl _ | apply Ext.alloc | apply Ext.drew | apply Ext.drewN))) x1
    have z3 := y3.size
    go_wp2_with fail
    refine hK _ _ (.inr (y3.same (Nat.le_refl _))) ?_
    clear hK K
    refine wpStages_cons ?_
    simp only [List.filterMap_nil]
    show wpQuiet _ _ _ _ [] _
    try simp only [Act.put, List.setIfInBounds_toArray, List.set_cons_succ, List.set_cons_zero]
    repeat (go_big_quiet_step (fail))
    refine wpQuiet_nil ⟨_, rfl, fun K hK => ?_⟩
    go_wp2_with fail
    refine (iConstant_g GN.out 256 _ _ _ _ _ NN.out (by omega) ⟨by omega, by omega⟩).mono ?_
    rintro e w4 ⟨r2, rfl, o2, x2⟩
    have y4 : Ext w1 w4 := y3.trans (Ext.trans (by repeat (with_reducible (first | assumption | exact Ext.refl _ | apply Ext.alloc | apply Ext.drew | apply Ext.drewN))) x2)
    have y34 : Ext w3 w4 := Ext.trans (by repeat (with_reducible (first | assumption | exact Ext.refl _ | apply Ext.alloc | apply Ext.drew | apply Ext.drewN))) x2
    have z4 := y34.size
    go_wp2_with fail
    refine hK _ _ (.inr (y4.same (Nat.le_refl _))) ?_
    clear hK K
    refine wpStages_cons ?_
    simp only [List.filterMap_cons, List.filterMap_nil, List.getElem?_toArray, List.getElem?_cons_zero, List.getElem?_cons_succ]
    show wpQuiet _ _ _ _ [_, _] _
    try simp only [Act.put, List.setIfInBounds_toArray, List.set_cons_succ, List.set_cons_zero]
    repeat (go_big_quiet_step (fail))
    refine wpQuiet_nil ⟨_, rfl, fun K hK => ?_⟩
    go_wp2_with fail
    go_wp2_with fail
    refine hK _ _ (.inl (by trivial)) ?_
    clear hK K
    refine wpStages_nil ?_
    go_wp2
    refine bodyPost_ret (v := .tuple #[r1, r2, .bool true]) (by simp [results, Tryz.results19, go_sem]) rfl ⟨r1, r2, rfl, w3.heap.size, by omega, z4, ?_, ?_, E.trans y4⟩
    · exact (o1.low (by simp; omega)).o.kp (y34.kp (Nat.le_refl _))
    · exact (o2.low (by simp)).o
  · have SL := hid sl
    have hlS : l < S.length := (List.getElem?_eq_some_iff.1 sl).1
    obtain ⟨rw, c1, o9, -⟩ := hcell l _ sl
    obtain ⟨gb, cb, rfl, hgb⟩ := o9.some hq
    have O9 := hid (o9.low (lo' := w.heap.size) (by simp <;> omega))
    clear sk sl hcell o9 hnn gn
    go_wp2_with fail
    refine wp_region_stages [([0, 1, 2, 3, 5, 6, 7, 8], 4), ([], 9), ([10, 11], 12)] 12 w1.heap.size (by kernel_rfl) (by kernel_rfl) ?_
    refine wpStages_cons ?_
    simp only [List.filterMap_cons, List.filterMap_nil, List.getElem?_toArray, List.getElem?_cons_zero, List.getElem?_cons_succ]
    show wpQuiet _ _ _ _ [_, _, _, _, _, _, _, _] _
    repeat (go_big_quiet_step (fail))
    refine wpQuiet_nil ⟨_, rfl, fun K hK => ?_⟩
    go_wp2_with fail
    refine (iLimited_any w.heap.size w1.heap.size _ a _ (O0.out.ints.ext (Nat.le_refl _) (by repeat (with_reducible (first | assumption | exact Ext.refl _ | apply Ext.alloc | apply Ext.drew | apply Ext.drewN)))) (by simp) (by omega)).mono ?_
    rintro e w3 ⟨r1, rfl, o1, x1⟩
    have y3 : Ext w1 w3 := Ext.trans (by repeat (with_reducible (first | assumption | exact Ext.refl _ | apply Ext.alloc | apply Ext.drew | apply Ext.drewN))) x1
    have z3 := y3.size
    go_wp2_with fail
    refine hK _ _ (.inr (y3.same (Nat.le_refl _))) ?_
    clear hK K
    refine wpStages_cons ?_
    simp only [List.filterMap_nil]
    show wpQuiet _ _ _ _ [] _
    try simp only [Act.put, List.setIfInBounds_toArray, List.set_cons_succ, List.set_cons_zero]
    repeat (go_big_quiet_step (fail))
    refine wpQuiet_nil ⟨_, rfl, fun K hK => ?_⟩
    go_wp2_with fail
    refine (iLimited_any w.heap.size w1.heap.size _ q _ (O9.out.ints.ext (Nat.le_refl _) (y3.trans (by repeat (with_reducible (first | assumption | exact Ext.refl _ | apply Ext.alloc | apply Ext.drew | apply Ext.drewN))))) (by first | omega | (simp; omega)) (by omega)).mono ?_
    rintro e w4 ⟨r2, rfl, o2, x2⟩
    have y4 : Ext w1 w4 := y3.trans (Ext.trans (by repeat (with_reducible (first | assumption | exact Ext.refl _ | apply Ext.alloc | apply Ext.drew | apply Ext.drewN))) x2)
    have y34 : Ext w3 w4 := Ext.trans (by repeat (with_reducible (first | assumption | exact Ext.refl _ | apply Ext.alloc | apply Ext.drew | apply Ext.drewN))) x2
    have z4 := y34.size
    go_wp2_with fail
    refine hK _ _ (.inr (y4.same (Nat.le_refl _))) ?_
    clear hK K
    refine wpStages_cons ?_
    simp only [List.filterMap_cons, List.filterMap_nil, List.getElem?_toArray, List.getElem?_cons_zero, List.getElem?_cons_succ]
    show wpQuiet _ _ _ _ [_, _] _
    try simp only [Act.put, List.setIfInBounds_toArray, List.set_cons_succ, List.set_cons_zero]
    repeat (go_big_quiet_step (fail))
    refine wpQuiet_nil ⟨_, rfl, fun K hK => ?_⟩
    go_wp2_with fail
    go_wp2_with fail
    refine hK _ _ (.inl (by trivial)) ?_
    clear hK K
    refine wpStages_nil ?_
    go_wp2
    refine bodyPost_ret (v := .tuple #[r1, r2, .bool true]) (by simp [results, Tryz.results19, go_sem]) rfl ⟨r1, r2, rfl, w3.heap.size, by omega, z4, ?_, ?_, E.trans y4⟩
    · exact (o1.low (by simp; omega)).o.kp (y34.kp (Nat.le_refl _))
    · exact (o2.low (by simp)).o
end Go.Proofs.YtdkohjeobjejeaaGreat
end
