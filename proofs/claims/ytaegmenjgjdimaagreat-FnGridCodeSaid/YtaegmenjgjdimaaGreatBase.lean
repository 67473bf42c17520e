/- This text holds the readings of Go values in a world (integers, slices of integers) and the small laws that the walks of this claim use; it speaks of no function of the program. -/
import Derived.WalkKit
import Derived.WalkLawsBesides
import Derived.WalkSpells
import Derived.Deep.QuietTactic
import Derived.BigQuiet
import Derived.Lib.Hide
namespace Go.Proofs.YtaegmenjgjdimaaGreat
open Go.RowKit

/-- the numbers of 64 bits -/
def I64 (n : Int) : Prop := -9223372036854775808 ≤ n ∧ n ≤ 9223372036854775807

theorem I64.mk {n : Int} (h1 : -9223372036854775808 ≤ n) (h2 : n ≤ 9223372036854775807) : I64 n := ⟨h1, h2⟩
theorem I64.lo {n : Int} (h : I64 n) : -9223372036854775808 ≤ n := h.1
theorem I64.hi {n : Int} (h : I64 n) : n ≤ 9223372036854775807 := h.2
theorem I64.wrap {n : Int} (h : I64 n) : wrap64 n = n := IntWalk.wrap64_in n ⟨h.1, h.2⟩

/-- an equation of numbers as one of values: a rule for the walk that no linear arithmetic looks at -/
theorem vint {a b : Int} (h : a = b) : Value.int .i64 a = Value.int .i64 b := by rw [h]
theorem ret_int {k : IntKind} {a b : Int} (h : a = b) : Ending.returned (.int k a) = .returned (.int k b) := by rw [h]
theorem ret_bool {a b : Bool} (h : a = b) : Ending.returned (.bool a) = .returned (.bool b) := by rw [h]

/-- the world w' holds all that w held; it may hold more -/
def Ext (w w' : World) : Prop := Below w.heap.size w w'

theorem Ext.refl (w : World) : Ext w w := Below.refl _ _
theorem Ext.size {w w' : World} (h : Ext w w') : w.heap.size ≤ w'.heap.size := Below.size h
theorem Ext.trans {w w1 w2 : World} (h : Ext w w1) (k : Ext w1 w2) : Ext w w2 := Below.trans h (Below.mono k (Below.size h))
theorem Ext.alloc {w w1 : World} (h : Ext w w1) (o : Obj) : Ext w (w1.alloc o) := Below.alloc h (Below.size h) o
theorem Ext.drew {w w1 : World} (h : Ext w w1) : Ext w w1.drew := Below.drew h
theorem Ext.drewN {w w1 : World} (h : Ext w w1) (n : Nat) : Ext w (w1.drewN n) := h.trans ⟨rfl, rfl, rfl, Nat.le_refl _, fun _ _ => rfl⟩
theorem Ext.setCell {w w1 : World} (h : Ext w w1) {p : Addr} (hp : w.heap.size ≤ p.block) (u : Value) : Ext w (w1.setCell p u) := Below.setCell h hp u
theorem Ext.grown {w w1 w2 : World} {row : Option Nat} (h : Ext w w1) (hg : w1.grownBy w2 row) (hr : ∀ k, row = some k → w.heap.size ≤ k) : Ext w w2 := Below.grown h hg (Below.size h) hr
theorem Ext.block {w w1 : World} (h : Ext w w1) {k : Nat} (hk : k < w.heap.size) : w1.heap[k]? = w.heap[k]? := Below.block h k hk
/-- the old cells and the old marks, as the walk reads them -/
theorem Ext.cells {w w1 : World} (h : Ext w w1) :
    (∀ b o, b < w.heap.size → w1.cell? ⟨b, o, none⟩ = w.cell? ⟨b, o, none⟩) ∧ (∀ b o, b < w.heap.size → w1.frozen? ⟨b, o, none⟩ = w.frozen? ⟨b, o, none⟩) :=
  ⟨fun b o hb => Below.cell (p := ⟨b, o, none⟩) h hb, fun b o hb => Below.frozen (p := ⟨b, o, none⟩) h hb⟩
theorem Ext.quiet {w w1 : World} (h : ∃ n, w1 = w.drewN n) : Ext w w1 := by obtain ⟨n, rfl⟩ := h; exact (Ext.refl w).drewN n

/-- the blocks from lo up to hi are in w' as they were in w -/
def Same (lo hi : Nat) (w w' : World) : Prop := ∀ b, lo ≤ b → b < hi → w'.heap[b]? = w.heap[b]?

theorem Ext.same {w w1 : World} (h : Ext w w1) {lo hi : Nat} (hh : hi ≤ w.heap.size) : Same lo hi w w1 := fun _ _ hb => h.block (by omega)
theorem Same.cell {lo hi : Nat} {w w' : World} (h : Same lo hi w w') {b o : Nat} (h1 : lo ≤ b) (h2 : b < hi) : w'.cell? ⟨b, o, none⟩ = w.cell? ⟨b, o, none⟩ :=
  World.cell?_of_block (w := w) (h b h1 h2)
theorem Same.frozen {lo hi : Nat} {w w' : World} (h : Same lo hi w w') {b o : Nat} (h1 : lo ≤ b) (h2 : b < hi) : w'.frozen? ⟨b, o, none⟩ = w.frozen? ⟨b, o, none⟩ :=
  World.frozen?_of_block (w := w) (h b h1 h2)

/-- v reads in w as the integers xs; its cells lie in the blocks from lo up to hi -/
def Ints (lo hi : Nat) (w : World) (v : Value) (xs : List Int) : Prop :=
  ∃ a cap, v = .slice a xs.length cap ∧ xs.length ≤ cap ∧ cap ≤ maxLen ∧ ∀ i x, xs[i]? = some x → I64 x ∧ ∃ b off, a = some ⟨b, off, none⟩ ∧ lo ≤ b ∧ b < hi ∧ w.cell? ⟨b, off + i, none⟩ = some (.int .i64 x)

theorem Ints.same {lo hi : Nat} {w w' : World} {v : Value} {xs : List Int} (h : Ints lo hi w v xs) (s : Same lo hi w w') : Ints lo hi w' v xs := by
  obtain ⟨a, cap, h1, h2, h3, h4⟩ := h
  refine ⟨a, cap, h1, h2, h3, fun i x hx => ?_⟩
  obtain ⟨h5, b, off, h6, h7, h8, h9⟩ := h4 i x hx
  exact ⟨h5, b, off, h6, h7, h8, by rw [s.cell h7 h8]; exact h9⟩
theorem Ints.ext {lo hi : Nat} {w w' : World} {v : Value} {xs : List Int} (h : Ints lo hi w v xs) (hh : hi ≤ w.heap.size) (e : Ext w w') : Ints lo hi w' v xs := h.same (e.same hh)
theorem Ints.wide {lo hi lo' hi' : Nat} {w : World} {v : Value} {xs : List Int} (h : Ints lo hi w v xs) (h1 : lo' ≤ lo) (h2 : hi ≤ hi') : Ints lo' hi' w v xs := by
  obtain ⟨a, cap, g1, g2, g3, g4⟩ := h
  refine ⟨a, cap, g1, g2, g3, fun i x hx => ?_⟩
  obtain ⟨h5, b, off, h6, h7, h8, h9⟩ := g4 i x hx
  exact ⟨h5, b, off, h6, by omega, by omega, h9⟩
theorem Ints.len {lo hi : Nat} {w : World} {v : Value} {xs : List Int} (h : Ints lo hi w v xs) : xs.length ≤ 9223372036854775807 := by
  obtain ⟨a, cap, g1, g2, g3, g4⟩ := h
  unfold maxLen at g3
  omega

/-- what Ints says of a slice whose value is written out -/
structure IntsAt (lo hi : Nat) (w : World) (a : Option Addr) (cap : Nat) (xs : List Int) : Prop where
  le : xs.length ≤ cap
  cap : cap ≤ 9223372036854775807
  cell : ∀ i x, xs[i]? = some x → I64 x ∧ ∃ b off, a = some ⟨b, off, none⟩ ∧ lo ≤ b ∧ b < hi ∧ w.cell? ⟨b, off + i, none⟩ = some (.int .i64 x)

theorem Ints.open {lo hi : Nat} {w : World} {v : Value} {xs : List Int} (h : Ints lo hi w v xs) : ∃ a cap, v = .slice a xs.length cap ∧ IntsAt lo hi w a cap xs := by
  obtain ⟨a, cap, g1, g2, g3, g4⟩ := h
  exact ⟨a, cap, g1, g2, by unfold maxLen at g3; omega, g4⟩
theorem IntsAt.shut {lo hi : Nat} {w : World} {a : Option Addr} {cap : Nat} {xs : List Int} (h : IntsAt lo hi w a cap xs) : Ints lo hi w (.slice a xs.length cap) xs :=
  ⟨a, cap, rfl, h.le, by unfold maxLen; have := h.cap; omega, h.cell⟩
theorem IntsAt.at {lo hi : Nat} {w : World} {a : Option Addr} {cap : Nat} {xs : List Int} (h : IntsAt lo hi w a cap xs) {k : Nat} (hk : k < xs.length) :
    ∃ b off, a = some ⟨b, off, none⟩ ∧ lo ≤ b ∧ b < hi ∧ w.cell? ⟨b, off + k, none⟩ = some (.int .i64 xs[k]) := (h.cell k xs[k] (by simp [hk])).2
theorem IntsAt.i64 {lo hi : Nat} {w : World} {a : Option Addr} {cap : Nat} {xs : List Int} (h : IntsAt lo hi w a cap xs) {k : Nat} (hk : k < xs.length) : I64 xs[k] := (h.cell k xs[k] (by simp [hk])).1

def SameUpTo {α : Type} (xs ys : List α) (k : Nat) : Prop := ∀ i, i < k → xs[i]? = ys[i]?
theorem SameUpTo.zero {α : Type} (xs ys : List α) : SameUpTo xs ys 0 := fun i h => by omega
theorem SameUpTo.succ {α : Type} {xs ys : List α} {k : Nat} (h : SameUpTo xs ys k) (h1 : k < xs.length) (h2 : k < ys.length) (he : xs[k] = ys[k]) : SameUpTo xs ys (k + 1) := by
  intro i hi
  by_cases hk : i = k
  · subst hk; simp [h1, h2, he]
  · exact h i (by omega)
theorem SameUpTo.all {α : Type} {xs ys : List α} {k : Nat} (h : SameUpTo xs ys k) (hl : xs.length = ys.length) (hk : xs.length ≤ k) : xs = ys := by
  apply List.ext_getElem?
  intro i
  by_cases hi : i < k
  · exact h i hi
  · rw [List.getElem?_eq_none (by omega), List.getElem?_eq_none (by omega)]

theorem hid {p : Prop} (h : p) : Hid p := h

/-- the slice value v owns, from block number lo on, a row that holds the integers xs -/
def OwnInts (lo : Nat) (w : World) (v : Value) (xs : List Int) : Prop := w.ownsRow lo 3 1 v xs.length (xs.map (Value.int .i64)) ∧ ∀ x ∈ xs, I64 x

theorem OwnInts.ints {lo : Nat} {w : World} {v : Value} {xs : List Int} (h : OwnInts lo w v xs) : Ints lo w.heap.size w v xs := by
  obtain ⟨⟨h1, h2⟩, h3⟩ := h
  rcases h2 with ⟨rfl, h4⟩ | ⟨g, cap, cur, rfl, hb, hg, hc, hm, hs, ht⟩
  · refine ⟨none, 0, by rw [h4], by omega, by unfold maxLen; omega, fun i x hx => ?_⟩
    have := (List.getElem?_eq_some_iff.1 hx).1
    omega
  · refine ⟨some ⟨g, 0, none⟩, cap, rfl, hc, hm, fun i x hx => ⟨h3 x (List.mem_of_getElem? hx), g, 0, rfl, hb, (Array.getElem?_eq_some_iff.1 hg).1, ?_⟩⟩
    have hi := (List.getElem?_eq_some_iff.1 hx).1
    have e : (xs.map (Value.int .i64))[i]? = some (.int .i64 x) := by simp [hx]
    rw [← ht, List.getElem?_take, if_pos (by omega)] at e
    simp only [World.cell?, hg, Nat.zero_add]
    simpa using e
theorem OwnInts.nil (lo : Nat) (w : World) : OwnInts lo w (.slice none 0 0) [] := ⟨World.ownsRow_nil _ _ _ _, fun _ h => by cases h⟩
theorem OwnInts.lt {lo : Nat} {w : World} {v : Value} {xs : List Int} (h : OwnInts lo w v xs) : ∀ k, v.ownBlock = some k → lo ≤ k ∧ k < w.heap.size := h.1.lt
theorem OwnInts.kept {lo : Nat} {w w' : World} {v : Value} {xs : List Int} (h : OwnInts lo w v xs) (s : Same lo w.heap.size w w') : OwnInts lo w' v xs := by
  obtain ⟨⟨h1, h2⟩, h3⟩ := h
  refine ⟨⟨h1, ?_⟩, h3⟩
  rcases h2 with hn | ⟨g, cap, cur, hv, hb, hg, r⟩
  · exact .inl hn
  · exact .inr ⟨g, cap, cur, hv, hb, by rw [s g hb (Array.getElem?_eq_some_iff.1 hg).1]; exact hg, r⟩
theorem OwnInts.ext {lo : Nat} {w w' : World} {v : Value} {xs : List Int} (h : OwnInts lo w v xs) (e : Ext w w') : OwnInts lo w' v xs := h.kept (e.same (Nat.le_refl _))

theorem OwnInts.form {lo : Nat} {w : World} {v : Value} {xs : List Int} (h : OwnInts lo w v xs) : ∃ a cap, v = .slice a xs.length cap ∧ xs.length ≤ 9223372036854775807 := by
  obtain ⟨⟨h1, h2⟩, h3⟩ := h
  rcases h2 with ⟨rfl, h4⟩ | ⟨g, cap, cur, rfl, hb, hg, hc, hm, hs, ht⟩
  · exact ⟨none, 0, by rw [h4], by omega⟩
  · exact ⟨some ⟨g, 0, none⟩, cap, rfl, by unfold maxLen at hm; omega⟩
/-- element k of an owned row: where it lies, and what becomes of the row when it is written -/
theorem OwnInts.at {lo : Nat} {w : World} {a : Option Addr} {n cap : Nat} {xs : List Int} (h : OwnInts lo w (.slice a n cap) xs) (hn : n = xs.length) {k : Nat} (hk : k < xs.length) :
    ∃ g y, a = some ⟨g, 0, none⟩ ∧ lo ≤ g ∧ g < w.heap.size ∧ xs[k]? = some y ∧ w.cell? ⟨g, k, none⟩ = some (.int .i64 y) ∧ w.frozen? ⟨g, k, none⟩ = false ∧
      ∀ x, I64 x → OwnInts lo (w.setCell ⟨g, k, none⟩ (.int .i64 x)) (.slice a n cap) (xs.set k x) ∧ w.grownBy (w.setCell ⟨g, k, none⟩ (.int .i64 x)) (some g) := by
  subst hn
  obtain ⟨hown, h3⟩ := h
  have hown' := hown
  rcases hown.2 with ⟨h1, h4⟩ | ⟨g, cap', cur, h1, hb, hg, hc, hm, hs, ht⟩
  · omega
  · simp only [Value.slice.injEq, true_and] at h1
    obtain ⟨rfl, rfl⟩ := h1
    refine ⟨g, xs[k], rfl, hb, (Array.getElem?_eq_some_iff.1 hg).1, by simp [hk], ?_, hown'.frozenAt k, fun x hx => ?_⟩
    · rw [hown'.cellAt k (by omega)]; simp [hk]
    · have hst := hown'.stored k (.int .i64 x)
      rw [← List.map_set] at hst
      refine ⟨⟨by simpa using hst.1, fun y hy => ?_⟩, hst.2⟩
      rcases List.mem_or_eq_of_mem_set hy with h | h
      · exact h3 y h
      · rw [h]; exact hx

theorem Same.setLow {lo hi : Nat} (w : World) {p : Addr} (hp : p.block < lo) (u : Value) : Same lo hi w (w.setCell p u) := fun b h1 _ => Below.heap_setCell w p u b (by omega)
theorem OwnInts.setLow {lo : Nat} {w : World} {v : Value} {xs : List Int} (h : OwnInts lo w v xs) {p : Addr} (hp : p.block < lo) (u : Value) : OwnInts lo (w.setCell p u) v xs := h.kept (Same.setLow w hp u)
theorem OwnInts.low {lo lo' : Nat} {w : World} {v : Value} {xs : List Int} (h : OwnInts lo w v xs) (hl : lo' ≤ lo) : OwnInts lo' w v xs := by
  obtain ⟨⟨h1, h2⟩, h3⟩ := h
  refine ⟨⟨h1, ?_⟩, h3⟩
  rcases h2 with hn | ⟨g, cap, cur, hv, hb, r⟩
  · exact .inl hn
  · exact .inr ⟨g, cap, cur, hv, by omega, r⟩
theorem OwnInts.drewN {lo : Nat} {w : World} {v : Value} {xs : List Int} (h : OwnInts lo w v xs) (n : Nat) : OwnInts lo (w.drewN n) v xs := h.ext ((Ext.refl w).drewN n)
theorem OwnInts.alloc {lo : Nat} {w : World} {v : Value} {xs : List Int} (h : OwnInts lo w v xs) (o : Obj) : OwnInts lo (w.alloc o) v xs := h.ext ((Ext.refl w).alloc o)

theorem grownBy.refl (w : World) (row : Option Nat) : w.grownBy w row := World.grownBy.refl w row
theorem grownBy.trans {w w1 w2 : World} {row : Option Nat} (h : w.grownBy w1 row) (k : w1.grownBy w2 row) : w.grownBy w2 row :=
  ⟨k.os.trans h.os, k.tape.trans h.tape, k.output.trans h.output, Nat.le_trans h.size k.size, fun i hi hne => (k.block i (Nat.lt_of_lt_of_le hi h.size) hne).trans (h.block i hi hne)⟩

theorem all_no {α : Type} {xs : List α} {p : α → Bool} {k : Nat} (h : k < xs.length) (hp : p xs[k] = false) : xs.all p = false := by
  rw [List.all_eq_false]
  exact ⟨xs[k], List.getElem_mem h, by simp [hp]⟩
theorem all_step {α : Type} {xs : List α} {p : α → Bool} {k : Nat} (h : k < xs.length) (h1 : (xs.take k).all p = true) (hp : p xs[k] = true) : (xs.take (k + 1)).all p = true := by
  rw [List.take_succ_eq_append_getElem h, List.all_append, h1]
  simp [hp]

theorem wrap_small {n : Int} (h1 : -1152921504606846976 ≤ n) (h2 : n ≤ 1152921504606846976) : wrap64 n = n := IntWalk.wrap64_in n ⟨by omega, by omega⟩

/-- a contract that leaves the world alone, met inside a region that draws its order -/
theorem quiet_same {P : Program} {f : FuncId} {args : Array Value} {w : World} {n : Nat} {v : Value}
    (h : Calls P f args (w.drewN n) fun e w' => e = .returned v ∧ w.drewN n = w') : Calls P f args (w.drewN n) fun e w'' => e = .returned v ∧ ∃ m, w'' = w.drewN m :=
  h.mono fun _ _ ⟨he, hm⟩ => ⟨he, n, hm.symm⟩

open Classical in
/-- w, grown to what d is where d is w with more in it -/
noncomputable def grow (w d : World) : World := if Ext w d then d else w
theorem grow_ext (w d : World) : Ext w (grow w d) := by
  unfold grow
  split
  · assumption
  · exact Ext.refl w
theorem grow_of {w d : World} (h : Ext w d) : d = grow w d := by unfold grow; rw [if_pos h]
@[go_sem] theorem cell?_grow (w d : World) (a : Addr) (h : a.block < w.heap.size) : (grow w d).cell? a = w.cell? a := Below.cell (grow_ext w d) h
@[go_sem] theorem frozen?_grow (w d : World) (a : Addr) (h : a.block < w.heap.size) : (grow w d).frozen? a = w.frozen? a := Below.frozen (grow_ext w d) h

/-- a region that draws its order, whose operations read and whose callees only add to the world: one walk in the order of the text serves every order -/
theorem wp_region_ext {P : Program} {id : Nat} {Q : Exit → Act → World → Prop} {a : Act} {w : World} {l : List Oper} (hm : P.follows .mixedOrders = true) (hB : Region.lexB .any l.toArray = true)
    (h : wpQuiet P l.toArray (fun w' => ∃ d, w' = grow w d) (fun a' => ∀ w', Ext w w' → Q .normal a' w') l a) : (Code.region id l.toArray true).wp P Q a w := by
  refine wp_region_quiet (C := fun w' => ∃ d, w' = grow w d) hm hB ⟨_, grow_of ((Ext.refl w).drew)⟩ ?_
  have e : (fun a' => ∀ w', Ext w w' → Q .normal a' w') = (fun a' => ∀ w', (∃ d, w' = grow w d) → Q .normal a' w') := by
    funext a'
    refine propext ⟨fun k w' hw' => ?_, fun k w' hw' => k w' ⟨_, grow_of hw'⟩⟩
    obtain ⟨d, rfl⟩ := hw'
    exact k _ (grow_ext w d)
  rw [e] at h
  simpa using h
/-- a contract of a callee that only adds to the world, met inside such a region -/
theorem grow_call {P : Program} {f : FuncId} {args : Array Value} {w d : World} {v : Value}
    (h : Calls P f args (grow w d) fun e w' => e = .returned v ∧ Ext (grow w d) w') : Calls P f args (grow w d) fun e w'' => e = .returned v ∧ ∃ d', w'' = grow w d' :=
  h.mono fun _ _ ⟨he, hx⟩ => ⟨he, _, grow_of ((grow_ext w d).trans hx)⟩
theorem grow_same {P : Program} {f : FuncId} {args : Array Value} {w d : World} {v : Value}
    (h : Calls P f args (grow w d) fun e w' => e = .returned v ∧ grow w d = w') : Calls P f args (grow w d) fun e w'' => e = .returned v ∧ ∃ d', w'' = grow w d' :=
  h.mono fun _ _ ⟨he, hx⟩ => ⟨he, d, hx.symm⟩
theorem grow_quiet {P : Program} {f : FuncId} {args : Array Value} {w d : World} {v : Value}
    (h : Calls P f args (grow w d) fun e w' => e = .returned v ∧ ∃ n, w' = (grow w d).drewN n) : Calls P f args (grow w d) fun e w'' => e = .returned v ∧ ∃ d', w'' = grow w d' :=
  h.mono fun _ _ ⟨he, hx⟩ => ⟨he, _, grow_of ((grow_ext w d).trans (Ext.quiet hx))⟩

end Go.Proofs.YtaegmenjgjdimaaGreat
