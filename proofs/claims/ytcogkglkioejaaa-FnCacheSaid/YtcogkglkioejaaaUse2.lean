/- This text holds the walk of the program's UseTile. -/
import Derived.Test.YtcogkglkioejaaaUse1
import Derived.Test.YtcogkglkioejaaaUseV
import Derived.Test.YtcogkglkioejaaaOrd2
namespace Go.Proofs.Ytcogkglkioejaaa
open Go.RowKit Go.Maps

set_option maxRecDepth 10000 in
set_option maxHeartbeats 1600000 in
theorem oldest_any (t : T3) (L : List T3) (age : T3 → Int) (b n : Nat) (w : World) (h : Ages w b n (t :: L) age) (hlen : (t :: L).length < 1000) (hs : (t :: L).Pairwise fun x y => age x < age y) :
    Calls Try.prog 60 #[.map (some b)] w fun e w' => e = .returned t.val ∧ Ext w w' := by
  have hA : ∀ W : World, Ext w W → Ages W b n (t :: L) age := fun W e => by
    obtain ⟨D, ⟨es, clock, hb, r⟩, hD⟩ := h
    exact ⟨D, ⟨es, clock, (e.block (Array.getElem?_eq_some_iff.1 hb).1).trans hb, r⟩, hD⟩
  have HA := hid hA
  clear h hA
  go_enter Try.func60, Try.ntmps60
  go_wp2_with fail
  refine (ordered_any (t :: L) age b n _ (HA.out _ (by repeat (with_reducible (first | assumption | exact Ext.refl _ | apply Ext.alloc | apply Ext.drew | apply Ext.drewN)))) hlen (by simp) hs).mono ?_
  rintro e w3 ⟨v, rfl, ho, hx⟩
  have hz := hx.size
  simp at hz
  have c0 := hx.cells.1 w.heap.size 0 (by simp)
  have c1 := hx.cells.1 w.heap.size 1 (by simp)
  have c2 := hx.cells.1 w.heap.size 2 (by simp)
  have f0 := hx.cells.2 w.heap.size 0 (by simp)
  have f1 := hx.cells.2 w.heap.size 1 (by simp)
  have f2 := hx.cells.2 w.heap.size 2 (by simp)
  simp [go_sem] at c0 c1 c2 f0 f1 f2
  obtain ⟨a, cap, rfl, HV⟩ := Flats.open ho.R
  obtain ⟨g, off, rfl, hb1, hb2, hc⟩ := HV.at (i := 0) (by simp [TLof]) (by decide)
  have d0 := hc 0 (by decide)
  have d1 := hc 1 (by decide)
  have d2 := hc 2 (by decide)
  simp [TLof, T3.c] at d0 d1 d2 hb1
  have hw : w.heap.size < w3.heap.size := by omega
  have hle := HV.le
  have hcap := HV.cap
  simp only [TLof_n, List.length_cons] at hle ⊢
  have HX := hid (show Ext w w3 from Ext.trans (by repeat (with_reducible (first | assumption | exact Ext.refl _ | apply Ext.alloc | apply Ext.drew | apply Ext.drewN))) hx)
  clear ho hx hc HV HA
  go_wp2
  refine bodyPost_ret (v := .agg #[.int .i64 t.l, .int .i64 t.x, .int .i64 t.y]) (by simp [results, Try.results60, go_sem, *]) rfl ⟨rfl, ?_⟩
  exact ((HX.out.setCell (by simp) _).setCell (by simp) _).setCell (by simp) _

/-- while the tiles are laid into the map: the first k, each with its place -/
structure AgSt (w wr : World) (b : Nat) (L : List T3) (k : Nat) : Prop where
  ext : Ext w wr
  ages : ∃ age, Ages wr b k (L.take k) age ∧ ∀ i (h : i < L.length), i < k → age L[i] = i
theorem AgSt.sorted {L : List T3} {age : T3 → Int} (h : ∀ i (h : i < L.length), i < L.length → age L[i] = i) : L.Pairwise fun x y => age x < age y := by
  rw [List.pairwise_iff_getElem]
  intro i j hi hj hij
  rw [h i hi hi, h j hj hj]
  omega
/-- a[t] = c -/
theorem wpList_put (w : World) {ops : Array Oper} {rest : List Oper} {o : Oper} {a : Act} {Q : Exit → Act → World → Prop} (hg : o.guard = none) (m x v : Operand) (hop : o.op = Op.mapUpdate 92 m x v)
    (b n : Nat) (L : List T3) (age : T3 → Int) (hm : a.eval m = .map (some b)) (h : Ages w b n L age) (hn : n < 1000000) (t : T3) (ht : t.I) (hx : a.eval x = t.val) (c : Int) (hc : I64 c) (hv : a.eval v = .int .i64 c)
    (hK : ∀ w', Ages w' b (n + 1) (L.erase t ++ [t]) (bump age t c) → w.grownBy w' (some b) → wpList Try.prog ops Q rest a w') (hd : o.dst = none) : wpList Try.prog ops Q (o :: rest) a w := by
  obtain ⟨D, hown, hA⟩ := h
  refine wpList_mapUpdate_own w hg m x v 92 hop 60 3 tileLaw Try.underlying92 (plainElem Try.prog 3) b n D hm hown (by unfold maxLen; omega) t.val (.int .i64 c) t.key hx hv (keyOf_tile ht) (.lit (.int .i64 c)) [] (plainElem_int Try.underlying3 (litI hc)) ?_
  intro w1 hown1 hg1
  rw [hd]
  exact hK w1 ⟨_, hown1, hA.put ht⟩ hg1
/-- _, ok = a[t] -/
theorem wpList_there (w : World) {ops : Array Oper} {rest : List Oper} {o : Oper} {a : Act} {Q : Exit → Act → World → Prop} (hg : o.guard = none) (m x : Operand) (hop : o.op = Op.lookup 92 m x true)
    (b n : Nat) (L : List T3) (age : T3 → Int) (hm : a.eval m = .map (some b)) (h : Ages w b n L age) (t : T3) (ht : t.I) (hx : a.eval x = t.val)
    (hK : ∀ c : Int, wpList Try.prog ops Q rest (a.put o.dst (.tuple #[.int .i64 c, .bool (decide (t ∈ L))])) w) : wpList Try.prog ops Q (o :: rest) a w := by
  obtain ⟨D, hown, hA⟩ := h
  refine wpList_lookup_own_ok_int w hg m x 92 hop 60 3 .i64 tileLaw Try.underlying92 Try.underlying3 (zeroInt w) b n D hm hown t.val t.key hx (keyOf_tile ht) fun c _ _ => ?_
  rw [(hA.2.2.2.2 t ht).1]
  exact hK c
/-- len(a) -/
theorem wpList_count (w : World) {ops : Array Oper} {rest : List Oper} {o : Oper} {a : Act} {Q : Exit → Act → World → Prop} (hg : o.guard = none) (m : Operand) (hop : o.op = Op.call { callee := Callee.builtin Builtin.len, args := #[m], argTypes := #[92] })
    (b n : Nat) (L : List T3) (age : T3 → Int) (hm : a.eval m = .map (some b)) (h : Ages w b n L age)
    (hK : wpList Try.prog ops Q rest (a.put o.dst (.int .i64 L.length)) w) : wpList Try.prog ops Q (o :: rest) a w := by
  obtain ⟨D, hown, hA⟩ := h
  refine wpList_len_own w hg m 92 hop 60 3 Try.underlying92 (plainElem Try.prog 3) b n D hm hown ?_
  rw [hA.2.2.2.1]
  exact hK
/-- delete(a, t) -/
theorem wpList_drop (w : World) {ops : Array Oper} {rest : List Oper} {o : Oper} {a : Act} {Q : Exit → Act → World → Prop} (hg : o.guard = none) (m x : Operand) (hop : o.op = Op.call { callee := Callee.builtin Builtin.delete, args := #[m, x], argTypes := #[92, 60] })
    (b n : Nat) (L : List T3) (age : T3 → Int) (hm : a.eval m = .map (some b)) (h : Ages w b n L age) (t : T3) (ht : t.I) (hx : a.eval x = t.val) (hin : t ∈ L)
    (hK : ∀ w', Ages w' b n (L.erase t) age → w.grownBy w' (some b) → wpList Try.prog ops Q rest (a.put o.dst (.tuple #[])) w') : wpList Try.prog ops Q (o :: rest) a w := by
  obtain ⟨D, hown, hA⟩ := h
  refine wpList_delete_own w hg m x 92 60 hop 3 tileLaw Try.underlying92 (plainElem Try.prog 3) b n D hm hown t.val t.key hx (keyOf_tile ht) ?_
  intro w1 hown1 ht1
  exact hK w1 ⟨_, hown1, hA.del ht hin⟩ ht1.grown
end Go.Proofs.Ytcogkglkioejaaa
