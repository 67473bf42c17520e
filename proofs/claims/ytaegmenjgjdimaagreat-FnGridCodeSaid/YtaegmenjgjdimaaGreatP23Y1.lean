/- Texts of this claim, one behind another: Lk5, Cd1, Cd2, Cd3, Cd4, Cd5, Cd6, Lk6, Lk7, Pr1, Ck1, Ck2, Ck3, Ck4, Ck5, Ck6, Ow1, Ow2, Ow3, Ow4, Ow5, Ow6, Ow7, Ow8. -/
import Derived.Test.YtaegmenjgjdimaaGreatLk4
import Derived.Test.YtaegmenjgjdimaaGreatSh17
import Derived.Test.YtaegmenjgjdimaaGreatGr1
import Derived.Test.YtaegmenjgjdimaaGreatStrB
import Derived.Test.YtaegmenjgjdimaaGreatLawKit
import Derived.Lib.OthersKept
import Derived.Laws.RangeAny
import Derived.Maps.OwnSet
import Derived.Maps.OwnOps
import Derived.Maps.Views
set_option linter.unusedSimpArgs false
set_option linter.unusedVariables false
section
/- This text proves what the laws' helper functions over slices of strings do. -/
namespace Go.Proofs.YtaegmenjgjdimaaGreat
open Go.RowKit

/-- what a copy of strings holds after c rounds -/
def fillS (xs : List ByteArray) (c i : Nat) : Value := if i < c then .string (xs.getD i ⟨#[]⟩) else .string ⟨#[]⟩
def strC (xs : List ByteArray) (i : Nat) : Value := .string (xs.getD i ⟨#[]⟩)
theorem fillS_set {w : World} {b : Nat} {t : TypeId} {n : Nat} {xs : List ByteArray} {c : Nat} (h : w.rowIs b t n (fillS xs c)) {x : ByteArray} (hx : xs[c]? = some x) : (w.setCell ⟨b, c, none⟩ (.string x)).rowIs b t n (fillS xs (c + 1)) := by
  refine World.rowIs.congr (World.rowIs.set h c (.string x)) fun j _ => ?_
  unfold fillS
  by_cases e : j = c
  · subst e
    simp [List.getD, hx]
  · rw [if_neg e]
    by_cases h1 : j < c
    · rw [if_pos h1, if_pos (by omega)]
    · rw [if_neg h1, if_neg (by omega)]
theorem info_str : (Tryz.prog.info? 9).map (fun i => (i.zero, i.size, i.bytes)) = some (some (.string ⟨#[]⟩), 1, 16) := by kernel_rfl
/-- a store of a string into a whole block -/
theorem rowIs.put {w : World} {b : Nat} {t : TypeId} {n : Nat} {f : Nat → Value} (h : w.rowIs b t n f) (i : Nat) (x : Value) : ∃ f', (w.setCell ⟨b, i, none⟩ x).rowIs b t n f' ∧ (∀ j, j ≠ i → f' j = f j) :=
  ⟨fun j => if j = i then x else f j, World.rowIs.set h i x, fun j hj => by simp [hj]⟩
end Go.Proofs.YtaegmenjgjdimaaGreat
end

section
/- This text holds the instructions of the grid's machine and proves when one is well formed and what it pops and pushes, on both sides. -/
namespace Go.Proofs.YtaegmenjgjdimaaGreat
open Go.RowKit

theorem sIsVariable_val {s : ByteArray} {b : Bool} (h : isVar s = b) (w : World) : Calls Tryz.prog 79 #[.string s] w fun e w' => e = .returned (.bool b) ∧ Ext w w' := h ▸ sIsVariable_any s w
theorem sArity_val {s : ByteArray} {b : Int} (h : arity s = b) (w : World) : Calls Tryz.prog 78 #[.string s] w fun e w' => e = .returned (.int .i64 b) ∧ w = w' := h ▸ sArity_any s w
theorem iArity_val {s : ByteArray} {b : Int} (h : arity s = b) (w : World) : Calls Tryz.prog 69 #[.string s] w fun e w' => e = .returned (.int .i64 b) ∧ w = w' := h ▸ iArity_any s w
structure Ins where
  op : Int
  name : ByteArray
  num : Int
def Ins.val (x : Ins) : Value := .agg #[.int .i64 x.op, .string x.name, .int .i64 x.num]
/-- may instruction x stand in a code of L locals? -/
def wfI (op : Int) (s : ByteArray) (n L : Int) : Bool :=
  if op = 1 then s.toList == [] else if op = 2 then isVar s && decide (n = 0) else if op = 3 then s.toList == [] && inB n 0 (L - 1) else if op = 4 then s.toList == [] && inB n 0 (L - 1)
  else if op = 5 then s.toList == [] && decide (n = 3) else if op = 6 then s.toList == [] && inB n 4 7 else if op = 7 then decide (0 ≤ arity s) && decide (n = 0) else false
theorem iWf_any (op : Int) (s : ByteArray) (n L : Int) (w : World) (h0 : 0 ≤ L) (h1 : L ≤ 2000000) : Calls Tryz.prog 41 #[.agg #[.int .i64 op, .string s, .int .i64 n], .int .i64 L] w fun e w' => e = .returned (.bool (wfI op s n L)) ∧ Ext w w' := by
  by_cases h : 1 ≤ op ∧ op ≤ 7
  case neg =>
    have e : wfI op s n L = false := by
      unfold wfI
      rw [if_neg (by omega), if_neg (by omega), if_neg (by omega), if_neg (by omega), if_neg (by omega), if_neg (by omega), if_neg (by omega)]
    rw [e]
    exact iWfE op s n L w h
  rcases (show op = 1 ∨ op = 2 ∨ op = 3 ∨ op = 4 ∨ op = 5 ∨ op = 6 ∨ op = 7 by omega) with rfl | rfl | rfl | rfl | rfl | rfl | rfl
  · cases he : (s.toList == [])
    · rw [show wfI 1 s n L = false by simp [wfI, he]]; exact iWf1n s n L w he
    · rw [show wfI 1 s n L = true by simp [wfI, he]]; exact iWf1 s n L w he
  · cases he : isVar s
    · rw [show wfI 2 s n L = false by simp [wfI, he]]; exact iWf2n s n L w he
    · rw [show wfI 2 s n L = decide (n = 0) by simp [wfI, he]]; exact iWf2 s n L w he
  · cases he : (s.toList == [])
    · rw [show wfI 3 s n L = false by simp [wfI, he]]; exact iWf3n s n L w he
    · rw [show wfI 3 s n L = inB n 0 (L - 1) by simp [wfI, he]]; exact iWf3 s n L w he h0 h1
  · cases he : (s.toList == [])
    · rw [show wfI 4 s n L = false by simp [wfI, he]]; exact iWf4n s n L w he
    · rw [show wfI 4 s n L = inB n 0 (L - 1) by simp [wfI, he]]; exact iWf4 s n L w he h0 h1
  · cases he : (s.toList == [])
    · rw [show wfI 5 s n L = false by simp [wfI, he]]; exact iWf5n s n L w he
    · rw [show wfI 5 s n L = decide (n = 3) by simp [wfI, he]]; exact iWf5 s n L w he
  · cases he : (s.toList == [])
    · rw [show wfI 6 s n L = false by simp [wfI, he]]; exact iWf6n s n L w he
    · rw [show wfI 6 s n L = inB n 4 7 by simp [wfI, he]]; exact iWf6 s n L w he
  · by_cases he : 0 ≤ arity s
    · rw [show wfI 7 s n L = decide (n = 0) by simp [wfI, he]]; exact iWf7 s n L w he
    · rw [show wfI 7 s n L = false by simp [wfI, he]]; exact iWf7n s n L w (by omega)

end Go.Proofs.YtaegmenjgjdimaaGreat
end

section
/- This text proves what the reference takes an instruction to pop and push. -/
namespace Go.Proofs.YtaegmenjgjdimaaGreat
open Go.RowKit

end Go.Proofs.YtaegmenjgjdimaaGreat
end

section
/- This text holds the reading of codes, and what the simulation of a code's stack yields. -/
namespace Go.Proofs.YtaegmenjgjdimaaGreat
open Go.RowKit

/-- v reads in w as the instructions xs -/
def Inss (lo hi : Nat) (w : World) (v : Value) (xs : List Ins) : Prop :=
  ∃ a cap, v = .slice a xs.length cap ∧ xs.length ≤ cap ∧ cap ≤ maxLen ∧ ∀ i x, xs[i]? = some x → (I64 x.op ∧ I64 x.num) ∧ ∃ b off, a = some ⟨b, off, none⟩ ∧ lo ≤ b ∧ b < hi ∧ w.cell? ⟨b, off + i * 3, none⟩ = some (.int .i64 x.op) ∧ w.cell? ⟨b, off + i * 3 + 1, none⟩ = some (.string x.name) ∧ w.cell? ⟨b, off + i * 3 + 2, none⟩ = some (.int .i64 x.num)
theorem Inss.same {lo hi : Nat} {w w' : World} {v : Value} {xs : List Ins} (h : Inss lo hi w v xs) (s : Same lo hi w w') : Inss lo hi w' v xs := by
  obtain ⟨a, cap, h1, h2, h3, h4⟩ := h
  refine ⟨a, cap, h1, h2, h3, fun i x hx => ?_⟩
  obtain ⟨h5, b, off, h6, h7, h8, h9, h10, h11⟩ := h4 i x hx
  exact ⟨h5, b, off, h6, h7, h8, by rw [s.cell h7 h8]; exact h9, by rw [s.cell h7 h8]; exact h10, by rw [s.cell h7 h8]; exact h11⟩
theorem Inss.ext {lo hi : Nat} {w w' : World} {v : Value} {xs : List Ins} (h : Inss lo hi w v xs) (hh : hi ≤ w.heap.size) (e : Ext w w') : Inss lo hi w' v xs := h.same (e.same hh)
theorem Inss.wide {lo hi lo' hi' : Nat} {w : World} {v : Value} {xs : List Ins} (h : Inss lo hi w v xs) (h1 : lo' ≤ lo) (h2 : hi ≤ hi') : Inss lo' hi' w v xs := by
  obtain ⟨a, cap, g1, g2, g3, g4⟩ := h
  refine ⟨a, cap, g1, g2, g3, fun i x hx => ?_⟩
  obtain ⟨h5, b, off, h6, h7, h8, h9⟩ := g4 i x hx
  exact ⟨h5, b, off, h6, by omega, by omega, h9⟩
structure InssAt (lo hi : Nat) (w : World) (a : Option Addr) (cap : Nat) (xs : List Ins) : Prop where
  le : xs.length ≤ cap
  cap : cap ≤ 9223372036854775807
  cell : ∀ i x, xs[i]? = some x → (I64 x.op ∧ I64 x.num) ∧ ∃ b off, a = some ⟨b, off, none⟩ ∧ lo ≤ b ∧ b < hi ∧ w.cell? ⟨b, off + i * 3, none⟩ = some (.int .i64 x.op) ∧ w.cell? ⟨b, off + i * 3 + 1, none⟩ = some (.string x.name) ∧ w.cell? ⟨b, off + i * 3 + 2, none⟩ = some (.int .i64 x.num)
theorem Inss.open {lo hi : Nat} {w : World} {v : Value} {xs : List Ins} (h : Inss lo hi w v xs) : ∃ a cap, v = .slice a xs.length cap ∧ InssAt lo hi w a cap xs := by
  obtain ⟨a, cap, g1, g2, g3, g4⟩ := h
  exact ⟨a, cap, g1, g2, by unfold maxLen at g3; omega, g4⟩
theorem InssAt.shut {lo hi : Nat} {w : World} {a : Option Addr} {cap : Nat} {xs : List Ins} (h : InssAt lo hi w a cap xs) : Inss lo hi w (.slice a xs.length cap) xs :=
  ⟨a, cap, rfl, h.le, by unfold maxLen; have := h.cap; omega, h.cell⟩
/-- element k, and its cells in a world that w grew to -/
theorem InssAt.at {lo hi : Nat} {w : World} {a : Option Addr} {cap : Nat} {xs : List Ins} (h : InssAt lo hi w a cap xs) {k : Nat} (hk : k < xs.length) {wr : World} (hx : Ext w wr) (hh : hi ≤ w.heap.size) :
    ∃ b off op s n, a = some ⟨b, off, none⟩ ∧ b < w.heap.size ∧ b < wr.heap.size ∧ xs.drop k = ⟨op, s, n⟩ :: xs.drop (k + 1) ∧ xs[k]? = some ⟨op, s, n⟩ ∧ I64 op ∧ I64 n ∧ wr.cell? ⟨b, off + k * 3, none⟩ = some (.int .i64 op) ∧ wr.cell? ⟨b, off + k * 3 + 1, none⟩ = some (.string s) ∧ wr.cell? ⟨b, off + k * 3 + 2, none⟩ = some (.int .i64 n) := by
  obtain ⟨⟨i1, i2⟩, b, off, e, h1, h2, c0, c1, c2⟩ := h.cell k xs[k] (by simp [hk])
  have hz := hx.size
  refine ⟨b, off, xs[k].op, xs[k].name, xs[k].num, e, by omega, by omega, List.drop_eq_getElem_cons hk, by simp [hk], i1, i2, ?_, ?_, ?_⟩
  · exact (hx.cells.1 b _ (by omega)).trans c0
  · exact (hx.cells.1 b _ (by omega)).trans c1
  · exact (hx.cells.1 b _ (by omega)).trans c2

structure Cod where
  xs : List Ins
  ls : List ByteArray
def Cod.R (c : Cod) (lo hi : Nat) (w : World) (v : Value) : Prop := ∃ iu lu, v = .agg #[iu, lu] ∧ Inss lo hi w iu c.xs ∧ Strs lo hi w lu c.ls
theorem Cod.R.same {c : Cod} {lo hi : Nat} {w w' : World} {v : Value} (h : c.R lo hi w v) (s : Same lo hi w w') : c.R lo hi w' v := by
  obtain ⟨iu, lu, h1, h2, h3⟩ := h
  exact ⟨iu, lu, h1, h2.same s, h3.same s⟩
theorem Cod.R.ext {c : Cod} {lo hi : Nat} {w w' : World} {v : Value} (h : c.R lo hi w v) (hh : hi ≤ w.heap.size) (e : Ext w w') : c.R lo hi w' v := h.same (e.same hh)
theorem Cod.R.form {c : Cod} {lo hi : Nat} {w : World} {v : Value} (h : c.R lo hi w v) : ∃ a1 c1 a2 c2, v = .agg #[.slice a1 c.xs.length c1, .slice a2 c.ls.length c2] ∧ InssAt lo hi w a1 c1 c.xs ∧ StrsAt lo hi w a2 c2 c.ls := by
  obtain ⟨iu, lu, rfl, h2, h3⟩ := h
  obtain ⟨a1, c1, rfl, H1⟩ := h2.open
  obtain ⟨a2, c2, rfl, H2⟩ := h3.open
  exact ⟨a1, c1, a2, c2, rfl, H1, H2⟩

/-- the marks behind an instruction -/
def markSt (op n : Int) (st : Nat → Bool) : Nat → Bool := if op = 4 then fun j => if j = n.toNat then true else st j else st
/-- the simulation of the stack: the depth d, the greatest depth m, the stored locals st -/
def runD (L : Nat) : List Ins → Int → Int → (Nat → Bool) → Option Int
  | [], d, m, _ => if d = 0 then some m else none
  | x :: r, d, m, st =>
    if wfI x.op x.name x.num L = true ∧ (x.op = 3 → st x.num.toNat = true) ∧ popsI x.op x.name ≤ d then
      runD L r (d - popsI x.op x.name + pushI x.op) (if d - popsI x.op x.name + pushI x.op > m then d - popsI x.op x.name + pushI x.op else m) (markSt x.op x.num st) else none
def Cod.depth (c : Cod) : Option Int := if c.xs.length ≤ 300 then runD c.ls.length c.xs 0 0 (fun _ => false) else none
theorem arity_bd (s : ByteArray) : -1 ≤ arity s ∧ arity s ≤ 3 ∧ arity s ≠ 0 := by
  unfold arity arityL
  repeat' split
  all_goals decide
theorem pops_bd {op : Int} {s : ByteArray} {n : Int} {L : Nat} (h : wfI op s n L = true) : 0 ≤ popsI op s ∧ popsI op s ≤ 3 := by
  have := arity_bd s
  unfold popsI
  split
  · omega
  split
  · omega
  split
  · omega
  split
  · rename_i h7
    subst h7
    simp [wfI] at h
    omega
  · omega
theorem push_bd (op : Int) : 0 ≤ pushI op ∧ pushI op ≤ 1 := by
  unfold pushI
  split <;> omega
theorem wf_at {op : Int} {s : ByteArray} {n : Int} {L : Nat} (h : wfI op s n L = true) (ho : op = 3 ∨ op = 4) : ∃ j : Nat, n = j ∧ j < L := by
  have e : inB n 0 ((L : Int) - 1) = true := by
    rcases ho with rfl | rfl <;> (simp [wfI] at h; exact h.2)
  have := inB_iff.1 e
  exact ⟨n.toNat, by omega, by omega⟩
end Go.Proofs.YtaegmenjgjdimaaGreat
end

section
/- This text proves the program's StackDepth. -/
namespace Go.Proofs.YtaegmenjgjdimaaGreat
open Go.RowKit

/-- block b is a row of n booleans -/
def RowB (w : World) (b : Nat) (n : Nat) (f : Nat → Bool) : Prop := w.rowIs b 4 n (fun i => .bool (f i))
theorem RowB.ext {w w' : World} {b : Nat} {n : Nat} {f : Nat → Bool} (h : RowB w b n f) (e : Ext w w') : RowB w' b n f := World.rowIs.of_block h (e.block (World.rowIs.lt h))
theorem RowB.mark {w : World} {b : Nat} {n : Nat} {f : Nat → Bool} (h : RowB w b n f) (j : Nat) : RowB (w.setCell ⟨b, j, none⟩ (.bool true)) b n (fun i => if i = j then true else f i) := by
  refine World.rowIs.congr (World.rowIs.set h j (.bool true)) fun i _ => ?_
  by_cases e : i = j
  · subst e; simp
  · simp [e]
theorem info_bool' : (Tryz.prog.info? 4).map (fun i => (i.zero, i.size, i.bytes)) = some (some (.bool false), 1, 1) := by kernel_rfl
theorem iWf_val {op : Int} {s : ByteArray} {n : Int} {L : Nat} {b : Bool} (h : wfI op s n L = b) (h1 : L ≤ 2000000) (w : World) : Calls Tryz.prog 41 #[.agg #[.int .i64 op, .string s, .int .i64 n], .int .i64 L] w fun e w' => e = .returned (.bool b) ∧ Ext w w' := h ▸ iWf_any op s n L w (by omega) (by omega)
theorem iPops_val {op : Int} {s : ByteArray} {p q : Int} (hp : popsI op s = p) (hq : pushI op = q) (n : Int) (w : World) : Calls Tryz.prog 42 #[.agg #[.int .i64 op, .string s, .int .i64 n]] w fun e w' => e = .returned (.tuple #[.int .i64 p, .int .i64 q]) ∧ Ext w w' := hp ▸ hq ▸ iPops_any op s n w
theorem runD_nil {L : Nat} {d m : Int} {st : Nat → Bool} {R : Option Int} (h : runD L [] d m st = R) : R = if d = 0 then some m else none := h.symm
/-- a box of one instruction -/
structure XBox (w : World) (B : Nat) (op : Int) (s : ByteArray) (n : Int) : Prop where
  lt : B < w.heap.size
  c0 : w.cell? ⟨B, 0, none⟩ = some (.int .i64 op)
  c1 : w.cell? ⟨B, 1, none⟩ = some (.string s)
  c2 : w.cell? ⟨B, 2, none⟩ = some (.int .i64 n)
theorem XBox.made (w : World) (op : Int) (s : ByteArray) (n : Int) (ty : TypeId) : XBox (w.alloc (.cells #[.int .i64 op, .string s, .int .i64 n] ty)) w.heap.size op s n := ⟨by simp, by simp [go_sem], by simp [go_sem], by simp [go_sem]⟩
theorem XBox.ext {w w' : World} {B : Nat} {op : Int} {s : ByteArray} {n : Int} (h : XBox w B op s n) (e : Ext w w') : XBox w' B op s n := by
  have := e.size
  have h0 := h.lt
  obtain ⟨a, b⟩ := e.cells
  exact ⟨by omega, (a B _ h0).trans h.c0, (a B _ h0).trans h.c1, (a B _ h0).trans h.c2⟩

set_option maxRecDepth 10000 in
set_option maxHeartbeats 3200000 in
theorem iDepth_any (lo hi : Nat) (v : Value) (c : Cod) (w : World) (hv : c.R lo hi w v) (hh : hi ≤ w.heap.size) (hL : c.ls.length ≤ 2000000) :
    Calls Tryz.prog 16 #[v] w fun e w' => e = .returned (.tuple #[.int .i64 (c.depth.getD 0), .bool c.depth.isSome]) ∧ Ext w w' := by
  obtain ⟨a1, c1, a2, c2, rfl, HI, HS⟩ := hv.form
  have l1 := HI.le
  have l2 := HI.cap
  have l3 := HS.le
  have l4 := HS.cap
  clear hv
  obtain ⟨L, hLL⟩ : ∃ L, c.ls.length = L := ⟨_, rfl⟩
  rw [hLL] at hL l3 ⊢
  by_cases hlen : c.xs.length ≤ 300
  case neg =>
    have e : c.depth = none := by unfold Cod.depth; rw [if_neg hlen]
    rw [e]
    go_enter Tryz.func16, Tryz.ntmps16
    go_wp2
    refine bodyPost_ret (v := .tuple #[.int .i64 0, .bool false]) (by simp [results, Tryz.results16, go_sem]) rfl ⟨rfl, (by repeat (first | with_reducible assumption | with_reducible exact Ext.refl _ | with_reducible apply Ext.alloc | with_reducible apply Ext.drew | with_reducible apply Ext.drewN | (with_reducible refine Ext.setCell ?_ (by simp; omega) _) | (with_reducible refine Ext.setCell ?_ (by simp) _)))⟩
  obtain ⟨R, hR⟩ : ∃ R, c.depth = R := ⟨_, rfl⟩
  have hrun : runD L c.xs 0 0 (fun _ => false) = R := by rw [← hR, ← hLL]; unfold Cod.depth; rw [if_pos hlen]
  rw [hR]
  have HRUN := hid hrun
  clear hrun hR
  obtain ⟨i0, hi0, hz0, hz1, hz2⟩ := info_parts info_bool'
  go_enter Tryz.func16, Tryz.ntmps16
  go_wp2_with (at_make; refine wpList_make_row _ rfl _ _ 63 rfl 4 i0 (.bool false) Tryz.underlying63 hi0 hz0 hz1 rfl .i64 .i64 L rfl rfl (by rw [hz2]; omega) (by omega) ?_)
  have hrow := hid (show RowB _ _ L (fun _ => false) from World.rowIs_made (w.alloc (.cells #[.slice a1 c.xs.length c1, .slice a2 L c2] 44)) (.bool false) L 4)
  have hbox := hid ((TBox.made w (.slice a1 c.xs.length c1) (.slice a2 L c2) 44).ext ((Ext.refl _).alloc (.cells (madeCells #[.bool false] L) 4)))
  have X0 := hid (show Ext w ((w.alloc (.cells #[.slice a1 c.xs.length c1, .slice a2 L c2] 44)).alloc (.cells (madeCells #[.bool false] L) 4)) from (by repeat (with_reducible (first | assumption | exact Ext.refl _ | apply Ext.alloc | apply Ext.drew | apply Ext.drewN))))
  clear hi0 hz0 hz1 hz2
  go_wp2
  simp only [World.size_alloc] at hrow
  generalize hB : w.heap.size + 1 = B at hrow
  go_loopw [5, 6, 22] (fun dv mv i wr => ∃ (k : Nat) (d m : Int) (st : Nat → Bool), k ≤ c.xs.length ∧ i = .int .i64 k ∧ dv = .int .i64 d ∧ mv = .int .i64 m ∧ runD L (c.xs.drop k) d m st = R ∧ 0 ≤ d ∧ d ≤ k ∧ 0 ≤ m ∧ m ≤ k ∧ Ext w wr ∧ RowB wr B L st ∧ TBox wr w.heap.size (.slice a1 c.xs.length c1) (.slice a2 L c2)) (fun _ _ i _ => c.xs.length - (intOf i).toNat)
  case atStart => exact ⟨0, 0, 0, _, by omega, rfl, rfl, rfl, HRUN.out, by omega, by omega, by omega, by omega, X0.out, hrow.out, hbox.out⟩
  case round =>
    clear HRUN X0 hrow hbox
    obtain ⟨k, d, m, st, hk, rfl, rfl, rfl, hrun, d0, d1, m0, m1, hx, hrow, hbox⟩ := hrel
    have k0 : k ≤ 300 := by omega
    by_cases hlt : k < c.xs.length
    · obtain ⟨b, off, op, s, n, rfl, hb1, hbw, hdrop, hget, io, inn, x0, x1, x2⟩ := HI.at hlt hx hh
      rw [hdrop] at hrun
      unfold runD at hrun
      have q0 := hbox.lt
      have q1 := hbox.c0
      have q2 := hbox.c1
      have HX := hid hx
      have HR := hid hrow
      have HQ := hid hbox
      clear hx hrow hbox hdrop hget
      cases hwf : wfI op s n L
      · have e : R = none := by rw [← hrun, if_neg (by simp [hwf])]
        subst e
        clear hrun
        go_wp2_with fail
        refine (iWf_val hwf hL _).mono ?_
        rintro e w1 ⟨rfl, x1⟩
        have X1 : Ext w w1 := Ext.trans (by have hx := HX.out; exact (by repeat (with_reducible (first | assumption | exact Ext.refl _ | apply Ext.alloc | apply Ext.drew | apply Ext.drewN)))) x1
        go_wp2
        refine bodyPost_ret (v := .tuple #[.int .i64 0, .bool false]) (by simp [results, Tryz.results16, go_sem]) rfl ⟨rfl, (by repeat (first | with_reducible assumption | with_reducible exact Ext.refl _ | with_reducible apply Ext.alloc | with_reducible apply Ext.drew | with_reducible apply Ext.drewN | (with_reducible refine Ext.setCell ?_ (by simp; omega) _) | (with_reducible refine Ext.setCell ?_ (by simp) _)))⟩
      have pb := pops_bd hwf
      have qb := push_bd op
      obtain ⟨p, hp⟩ : ∃ p, popsI op s = p := ⟨_, rfl⟩
      obtain ⟨q, hq⟩ : ∃ q, pushI op = q := ⟨_, rfl⟩
      rw [hp, hq] at hrun
      rw [hp] at pb
      rw [hq] at qb
      have HP := hid hp
      have HQ2 := hid hq
      simp only [hwf, true_and] at hrun
      by_cases h3 : op = 3 ∧ st n.toNat = false
      · obtain ⟨rfl, h3⟩ := h3
        obtain ⟨j, rfl, hj⟩ := wf_at hwf (.inl rfl)
        simp only [Int.toNat_natCast] at h3
        have e : R = none := by rw [← hrun, if_neg (by simp [h3])]
        subst e
        clear hrun hp hq
        go_wp2_with fail
        refine (iWf_val hwf hL _).mono ?_
        rintro e w1 ⟨rfl, x1⟩
        have X1 : Ext w w1 := Ext.trans (by have hx := HX.out; exact (by repeat (with_reducible (first | assumption | exact Ext.refl _ | apply Ext.alloc | apply Ext.drew | apply Ext.drewN)))) x1
        have K1 := (XBox.made wr 3 s j 81).ext x1
        have R1 := (HR.out.ext ((Ext.refl _).alloc (.cells #[.int .i64 3, .string s, .int .i64 j] 81))).ext x1
        have y0 := K1.lt
        have y1 := K1.c0
        have y2 := K1.c1
        have y3 := K1.c2
        have z0 := World.rowIs.cell R1 hj
        rw [h3] at z0
        have z1 := World.rowIs.lt R1
        clear K1 R1 x0 x1 x2
        go_wp2
        refine bodyPost_ret (v := .tuple #[.int .i64 0, .bool false]) (by simp [results, Tryz.results16, go_sem]) rfl ⟨rfl, (by repeat (first | with_reducible assumption | with_reducible exact Ext.refl _ | with_reducible apply Ext.alloc | with_reducible apply Ext.drew | with_reducible apply Ext.drewN | (with_reducible refine Ext.setCell ?_ (by simp; omega) _) | (with_reducible refine Ext.setCell ?_ (by simp) _)))⟩
      have h3' : op = 3 → st n.toNat = true := fun e => by
        cases h : st n.toNat
        · exact absurd ⟨e, h⟩ h3
        · rfl
      have H3 := hid h3'
      by_cases hpd : p ≤ d
      case neg =>
        rw [if_neg (fun h => hpd h.2)] at hrun
        subst hrun
        clear hp hq h3'
        have hdp : (decide (d < p)) = true := decide_eq_true (by omega)
        by_cases e3 : op = 3
        · subst e3
          have := HP.out
          have e : popsI 3 s = 0 := rfl
          omega
        go_wp2_with fail
        refine (iWf_val hwf hL _).mono ?_
        rintro e w1 ⟨rfl, x1⟩
        have X1 : Ext w w1 := Ext.trans (by have hx := HX.out; exact (by repeat (with_reducible (first | assumption | exact Ext.refl _ | apply Ext.alloc | apply Ext.drew | apply Ext.drewN)))) x1
        have K1 := (XBox.made wr op s n 81).ext x1
        have y0 := K1.lt
        have y1 := K1.c0
        have y2 := K1.c1
        have y3 := K1.c2
        clear x0 x1 x2
        go_wp2_with fail
        refine (iPops_val HP.out HQ2.out n _).mono ?_
        rintro e w2 ⟨rfl, x2⟩
        have X2 : Ext w w2 := X1.trans x2
        go_wp2
        refine bodyPost_ret (v := .tuple #[.int .i64 0, .bool false]) (by simp [results, Tryz.results16, go_sem]) rfl ⟨rfl, (by repeat (first | with_reducible assumption | with_reducible exact Ext.refl _ | with_reducible apply Ext.alloc | with_reducible apply Ext.drew | with_reducible apply Ext.drewN | (with_reducible refine Ext.setCell ?_ (by simp; omega) _) | (with_reducible refine Ext.setCell ?_ (by simp) _)))⟩
      rw [if_pos ⟨h3', hpd⟩] at hrun
      have HR0 := hid hrun
      clear hrun hp hq h3'
      have pl : d - p + q ≤ (k : Int) + 1 := by omega
      have pn : 0 ≤ d - p + q := by omega
      obtain ⟨D, hD⟩ : ∃ D, d - p + q = D := ⟨_, rfl⟩
      rw [hD] at HR0 pl pn
      have hD2 : d + (q - p) = D := by omega
      have hM : ∃ M : Int, (if D > m then D else m) = M ∧ 0 ≤ M ∧ M ≤ (k : Int) + 1 := ⟨_, rfl, by split <;> omega, by split <;> omega⟩
      obtain ⟨M, hM, M0, M1⟩ := hM
      have HM := hid hM
      clear hD hM
      by_cases e3 : op = 3
      · subst e3
        obtain ⟨j, rfl, hj⟩ := wf_at hwf (.inl rfl)
        have hst := H3.out rfl
        simp only [Int.toNat_natCast] at hst
        go_wp2_with fail
        refine (iWf_val hwf hL _).mono ?_
        rintro e w1 ⟨rfl, x1⟩
        have X1 : Ext w w1 := Ext.trans (by have hx := HX.out; exact (by repeat (with_reducible (first | assumption | exact Ext.refl _ | apply Ext.alloc | apply Ext.drew | apply Ext.drewN)))) x1
        have g1 : Ext wr w1 := Ext.trans (by repeat (with_reducible (first | assumption | exact Ext.refl _ | apply Ext.alloc | apply Ext.drew | apply Ext.drewN))) x1
        have K1 := (XBox.made wr 3 s j 81).ext x1
        have R1 := HR.out.ext g1
        have z0 := World.rowIs.cell R1 hj
        rw [hst] at z0
        have z1 := World.rowIs.lt R1
        have y0 := K1.lt
        have y1 := K1.c0
        have y2 := K1.c1
        have y3 := K1.c2
        clear x0 x1 x2
        go_wp2_with fail
        refine (iPops_val HP.out HQ2.out j _).mono ?_
        rintro e w2 ⟨rfl, x2⟩
        have g2 : Ext wr w2 := g1.trans x2
        have X2 : Ext w w2 := X1.trans x2
        have K2 := K1.ext x2
        have R2 := R1.ext x2
        have B2 := HQ.out.ext g2
        clear y0 y1 y2 y3 X1 R1 K1 x2 g1 g2 z0 z1
        have y0 := K2.lt
        have y1 := K2.c0
        have y2 := K2.c1
        have y3 := K2.c2
        go_wp2
        rw [HM.out]
        go_roundw
        case rel => exact ⟨k + 1, D, M, _, by omega, by go_num, rfl, rfl, by rw [← HM.out]; exact HR0.out, pn, by omega, M0, by omega, X2, R2, B2⟩
        case measure => simp [intOf]; omega
      by_cases e4 : op = 4
      · subst e4
        obtain ⟨j, rfl, hj⟩ := wf_at hwf (.inr rfl)
        have hBs : B ≠ w.heap.size := by omega
        go_wp2_with fail
        refine (iWf_val hwf hL _).mono ?_
        rintro e w1 ⟨rfl, x1⟩
        have X1 : Ext w w1 := Ext.trans (by have hx := HX.out; exact (by repeat (with_reducible (first | assumption | exact Ext.refl _ | apply Ext.alloc | apply Ext.drew | apply Ext.drewN)))) x1
        have g1 : Ext wr w1 := Ext.trans (by repeat (with_reducible (first | assumption | exact Ext.refl _ | apply Ext.alloc | apply Ext.drew | apply Ext.drewN))) x1
        have K1 := (XBox.made wr 4 s j 81).ext x1
        have R1 := HR.out.ext g1
        have y0 := K1.lt
        have y1 := K1.c0
        have y2 := K1.c1
        have y3 := K1.c2
        clear x0 x1 x2
        go_wp2_with fail
        refine (iPops_val HP.out HQ2.out j _).mono ?_
        rintro e w2 ⟨rfl, x2⟩
        have g2 : Ext wr w2 := g1.trans x2
        have X2 : Ext w w2 := X1.trans x2
        have K2 := K1.ext x2
        have R2 := R1.ext x2
        have B2 := HQ.out.ext g2
        clear y0 y1 y2 y3 X1 R1 K1 x2 g1 g2 
        have y0 := K2.lt
        have y1 := K2.c0
        have y2 := K2.c1
        have y3 := K2.c2
        have z0 := World.rowIs.cell R2 hj
        have z1 := World.rowIs.lt R2
        have z2 := World.rowIs.frozen R2 j
        have HB2 := hid B2
        have HR2 := hid R2
        clear B2 R2
        go_wp2
        rw [HM.out]
        go_roundw
        case rel => exact ⟨k + 1, D, M, _, by omega, by go_num, rfl, rfl, by rw [← HM.out]; exact HR0.out, pn, by omega, M0, by omega, X2.setCell (by show w.heap.size ≤ B; omega) _, HR2.out.mark j, HB2.out.at (by simp) (Below.heap_setCell _ _ _ _ (by show w.heap.size ≠ B; omega))⟩
        case measure => simp [intOf]; omega
      · have hmk : markSt op n st = st := by unfold markSt; rw [if_neg e4]
        rw [hmk] at HR0
        clear hmk
        go_wp2_with fail
        refine (iWf_val hwf hL _).mono ?_
        rintro e w1 ⟨rfl, x1⟩
        have X1 : Ext w w1 := Ext.trans (by have hx := HX.out; exact (by repeat (with_reducible (first | assumption | exact Ext.refl _ | apply Ext.alloc | apply Ext.drew | apply Ext.drewN)))) x1
        have g1 : Ext wr w1 := Ext.trans (by repeat (with_reducible (first | assumption | exact Ext.refl _ | apply Ext.alloc | apply Ext.drew | apply Ext.drewN))) x1
        have K1 := (XBox.made wr op s n 81).ext x1
        have R1 := HR.out.ext g1
        have y0 := K1.lt
        have y1 := K1.c0
        have y2 := K1.c1
        have y3 := K1.c2
        clear x0 x1 x2
        go_wp2_with fail
        refine (iPops_val HP.out HQ2.out n _).mono ?_
        rintro e w2 ⟨rfl, x2⟩
        have g2 : Ext wr w2 := g1.trans x2
        have X2 : Ext w w2 := X1.trans x2
        have K2 := K1.ext x2
        have R2 := R1.ext x2
        have B2 := HQ.out.ext g2
        clear y0 y1 y2 y3 X1 R1 K1 x2 g1 g2 
        have y0 := K2.lt
        have y1 := K2.c0
        have y2 := K2.c1
        have y3 := K2.c2
        go_wp2
        rw [HM.out]
        go_roundw
        case rel => exact ⟨k + 1, D, M, _, by omega, by go_num, rfl, rfl, by rw [← HM.out]; exact HR0.out, pn, by omega, M0, by omega, X2, R2, B2⟩
        case measure => simp [intOf]; omega
    · obtain rfl : k = c.xs.length := by omega
      rw [List.drop_length] at hrun
      have e := runD_nil hrun
      clear hrun
      by_cases hd : d = 0
      · rw [if_pos hd] at e
        subst e hd
        go_wp2
        refine bodyPost_ret (v := .tuple #[.int .i64 m, .bool true]) (by simp [results, Tryz.results16, go_sem]) rfl ⟨rfl, (by repeat (first | with_reducible assumption | with_reducible exact Ext.refl _ | with_reducible apply Ext.alloc | with_reducible apply Ext.drew | with_reducible apply Ext.drewN | (with_reducible refine Ext.setCell ?_ (by simp; omega) _) | (with_reducible refine Ext.setCell ?_ (by simp) _)))⟩
      · rw [if_neg hd] at e
        have hd' : (d != 0) = true := by simp [hd]
        subst e
        go_wp2
        refine bodyPost_ret (v := .tuple #[.int .i64 0, .bool false]) (by simp [results, Tryz.results16, go_sem]) rfl ⟨rfl, (by repeat (first | with_reducible assumption | with_reducible exact Ext.refl _ | with_reducible apply Ext.alloc | with_reducible apply Ext.drew | with_reducible apply Ext.drewN | (with_reducible refine Ext.setCell ?_ (by simp; omega) _) | (with_reducible refine Ext.setCell ?_ (by simp) _)))⟩
end Go.Proofs.YtaegmenjgjdimaaGreat
end

section
/- This text proves the reference's StackDepth. -/
namespace Go.Proofs.YtaegmenjgjdimaaGreat
open Go.RowKit

theorem beN (s : ByteArray) : ∃ b, (s.toList == []) = b := ⟨_, rfl⟩
end Go.Proofs.YtaegmenjgjdimaaGreat
end

section
/- This text proves when a code may be run: the program's runnable, and that it agrees with the reference's look at all numbers. -/
namespace Go.Proofs.YtaegmenjgjdimaaGreat
open Go.RowKit

def numB (x : Ins) : Bool := inB x.num (-1000000000) 1000000000
/-- may the code be run? -/
def Cod.runB (c : Cod) : Bool := c.depth.isSome && c.xs.all numB
theorem runD_wf {L : Nat} : ∀ (xs : List Ins) (d m : Int) (st : Nat → Bool), (runD L xs d m st).isSome = true → ∀ x ∈ xs, wfI x.op x.name x.num L = true
  | [], _, _, _, _, x, hx => by cases hx
  | y :: r, d, m, st, h, x, hx => by
    unfold runD at h
    split at h
    · rename_i hc
      rcases List.mem_cons.1 hx with rfl | hx
      · exact hc.1
      · exact runD_wf r _ _ _ h x hx
    · simp at h
theorem Cod.wf {c : Cod} (h : c.depth.isSome = true) : ∀ x ∈ c.xs, wfI x.op x.name x.num c.ls.length = true := by
  unfold Cod.depth at h
  split at h
  · exact runD_wf _ _ _ _ h
  · simp at h
theorem wf_num {x : Ins} {L : Nat} (h : wfI x.op x.name x.num L = true) (hL : L ≤ 2000000) (h1 : x.op ≠ 1) : numB x = true := by
  unfold wfI at h
  rw [if_neg h1] at h
  refine inB_iff.2 ?_
  split at h
  · simp at h; omega
  split at h
  · simp [inB_iff] at h; omega
  split at h
  · simp [inB_iff] at h; omega
  split at h
  · simp at h; omega
  split at h
  · simp [inB_iff] at h; omega
  split at h
  · simp at h; omega
  · cases h
/-- the program looks at the numbers that are pushed alone -/
def pushB (x : Ins) : Bool := !(x.op == 1) || numB x
theorem Cod.runB_push {c : Cod} (hL : c.ls.length ≤ 2000000) : (c.xs.all pushB && c.depth.isSome) = c.runB := by
  unfold Cod.runB
  cases h : c.depth.isSome
  · simp
  · rw [Bool.and_true, Bool.true_and]
    have hw := Cod.wf h
    rw [Bool.eq_iff_iff, List.all_eq_true, List.all_eq_true]
    constructor
    · intro k x hx
      have h1 := k x hx
      by_cases e : x.op = 1
      · simpa [pushB, e] using h1
      · exact wf_num (hw x hx) hL e
    · intro k x hx
      simp [pushB, k x hx]
theorem iDepth_val {c : Cod} {m : Int} {b : Bool} (h : c.depth.getD 0 = m ∧ c.depth.isSome = b) (lo hi : Nat) (v : Value) (w : World) (hv : c.R lo hi w v) (hh : hi ≤ w.heap.size) (hL : c.ls.length ≤ 2000000) :
    Calls Tryz.prog 16 #[v] w fun e w' => e = .returned (.tuple #[.int .i64 m, .bool b]) ∧ Ext w w' := h.1 ▸ h.2 ▸ iDepth_any lo hi v c w hv hh hL
set_option maxRecDepth 10000 in
set_option maxHeartbeats 3200000 in
theorem iRunnable_val {c : Cod} {r : Bool} (hr : c.runB = r) (lo hi : Nat) (v : Value) (w : World) (hv : c.R lo hi w v) (hh : hi ≤ w.heap.size) (hL : c.ls.length ≤ 2000000) :
    Calls Tryz.prog 38 #[v] w fun e w' => e = .returned (.bool r) ∧ Ext w w' := by
  have HV := hid hv
  obtain ⟨a1, c1, a2, c2, rfl, HI, HS⟩ := hv.form
  have l1 := HI.le
  have l2 := HI.cap
  clear hv HS
  rw [← Cod.runB_push hL] at hr
  have HR := hid hr
  clear hr
  go_enter Tryz.func38, Tryz.ntmps38
  go_wp2
  have hbox := hid (TBox.made w (.slice a1 c.xs.length c1) (.slice a2 c.ls.length c2) 44)
  have X0 := hid (show Ext w (w.alloc (.cells #[.slice a1 c.xs.length c1, .slice a2 c.ls.length c2] 44)) from (by repeat (with_reducible (first | assumption | exact Ext.refl _ | apply Ext.alloc | apply Ext.drew | apply Ext.drewN))))
  go_loopw [10] (fun i wr => ∃ (k : Nat), k ≤ c.xs.length ∧ i = .int .i64 k ∧ (c.xs.take k).all pushB = true ∧ Ext w wr ∧ TBox wr w.heap.size (.slice a1 c.xs.length c1) (.slice a2 c.ls.length c2)) (fun i _ => c.xs.length - (intOf i).toNat)
  case atStart => exact ⟨0, by omega, rfl, rfl, X0.out, hbox.out⟩
  case round =>
    clear X0 hbox
    obtain ⟨k, hk, rfl, hall, hx, hbox⟩ := hrel
    by_cases hlt : k < c.xs.length
    · obtain ⟨b, off, op, s, n, rfl, hb1, hbw, hdrop, hget, io, inn, x0, x1, x2⟩ := HI.at hlt hx hh
      have hk2 : c.xs[k] = ⟨op, s, n⟩ := by have := hget; rw [List.getElem?_eq_getElem hlt] at this; exact Option.some.inj this
      have HX := hid hx
      have HQ := hid (hbox.ext ((Ext.refl _).alloc (.cells #[.int .i64 op, .string s, .int .i64 n] 81)))
      have HA := hid hall
      have HK := hid hk2
      clear hx hbox hdrop hget hall hk2
      by_cases h1 : op = 1
      · subst h1
        cases hn : inB n (-1000000000) 1000000000
        · have hn2 := hid hn
          go_wp2_with fail
          refine (within_val hn2.out _).mono ?_
          rintro e w1 ⟨rfl, rfl⟩
          go_wp2
          go_ret
          have e : c.xs.all pushB = false := all_no hlt (by rw [HK.out]; simp [pushB, numB, hn2.out])
          have hr := HR.out
          rw [e] at hr
          refine ⟨ret_bool hr, ?_⟩
          have hx := HX.out
          exact (by repeat (first | with_reducible assumption | with_reducible exact Ext.refl _ | with_reducible apply Ext.alloc | with_reducible apply Ext.drew | with_reducible apply Ext.drewN | (with_reducible refine Ext.setCell ?_ (by simp; omega) _) | (with_reducible refine Ext.setCell ?_ (by simp) _)))
        · have hn2 := hid hn
          go_wp2_with fail
          refine (within_val hn2.out _).mono ?_
          rintro e w1 ⟨rfl, rfl⟩
          go_wp2
          go_roundw
          case rel =>
            refine ⟨k + 1, by omega, by go_num, all_step hlt HA.out (by rw [HK.out]; simp [pushB, numB, hn2.out]), ?_, HQ.out⟩
            have hx := HX.out
            exact (by repeat (first | with_reducible assumption | with_reducible exact Ext.refl _ | with_reducible apply Ext.alloc | with_reducible apply Ext.drew | with_reducible apply Ext.drewN | (with_reducible refine Ext.setCell ?_ (by simp; omega) _) | (with_reducible refine Ext.setCell ?_ (by simp) _)))
          case measure => simp [intOf]; omega
      · have h1' : (op == 1) = false := beq_eq_false_iff_ne.2 h1
        have H1 := hid h1'
        go_wp2
        go_roundw
        case rel =>
          refine ⟨k + 1, by omega, by go_num, all_step hlt HA.out (by rw [HK.out]; simp [pushB, H1.out]), ?_, HQ.out⟩
          have hx := HX.out
          exact (by repeat (first | with_reducible assumption | with_reducible exact Ext.refl _ | with_reducible apply Ext.alloc | with_reducible apply Ext.drew | with_reducible apply Ext.drewN | (with_reducible refine Ext.setCell ?_ (by simp; omega) _) | (with_reducible refine Ext.setCell ?_ (by simp) _)))
        case measure => simp [intOf]; omega
    · obtain rfl : k = c.xs.length := by omega
      rw [List.take_length] at hall
      have hr := HR.out
      rw [hall, Bool.true_and] at hr
      have HR2 := hid hr
      clear hr hall
      have q0 := hbox.lt
      have q1 := hbox.c0
      have q2 := hbox.c1
      clear hbox
      go_wp2_with fail
      refine (iDepth_val ⟨rfl, HR2.out⟩ lo hi _ _ (HV.out.ext hh (by assumption)) (by have := hx.size; omega) hL).mono ?_
      rintro e w1 ⟨rfl, x1⟩
      go_wp2
      go_ret
      exact ⟨rfl, hx.trans x1⟩
end Go.Proofs.YtaegmenjgjdimaaGreat
end

section
/- This text proves what the laws' helper functions over instructions do. -/
namespace Go.Proofs.YtaegmenjgjdimaaGreat
open Go.RowKit

/-- the first c cells of f, then those of z -/
def fillG (f z : Nat → Value) (c i : Nat) : Value := if i < c then f i else z i
theorem fillG_step {w : World} {b : Nat} {t : TypeId} {n : Nat} {f z : Nat → Value} {c : Nat} (h : w.rowIs b t n (fillG f z c)) {i : Nat} {x : Value} (hi : i = c) (hx : x = f c) : (w.setCell ⟨b, i, none⟩ x).rowIs b t n (fillG f z (c + 1)) := by
  subst hi hx
  refine World.rowIs.congr (World.rowIs.set h i (f i)) fun j _ => ?_
  unfold fillG
  by_cases e : j = i
  · subst e; simp
  · rw [if_neg e]
    by_cases h1 : j < i
    · rw [if_pos h1, if_pos (by omega)]
    · rw [if_neg h1, if_neg (by omega)]
def insC (xs : List Ins) (i : Nat) : Value :=
  match xs[i / 3]? with
  | some x => if i % 3 = 0 then .int .i64 x.op else if i % 3 = 1 then .string x.name else .int .i64 x.num
  | none => .int .i64 0
def insZ (i : Nat) : Value := if i % 3 = 1 then .string ⟨#[]⟩ else .int .i64 0
theorem insC_at {xs : List Ins} {k : Nat} {x : Ins} (h : xs[k]? = some x) : insC xs (k * 3) = .int .i64 x.op ∧ insC xs (k * 3 + 1) = .string x.name ∧ insC xs (k * 3 + 2) = .int .i64 x.num := by
  refine ⟨?_, ?_, ?_⟩
  · unfold insC
    rw [show k * 3 / 3 = k by omega, h, show k * 3 % 3 = 0 by omega]
    rfl
  · unfold insC
    rw [show (k * 3 + 1) / 3 = k by omega, h, show (k * 3 + 1) % 3 = 1 by omega]
    rfl
  · unfold insC
    rw [show (k * 3 + 2) / 3 = k by omega, h, show (k * 3 + 2) % 3 = 2 by omega]
    rfl
theorem insZ_at (k : Nat) : insZ (k * 3) = .int .i64 0 ∧ insZ (k * 3 + 1) = .string ⟨#[]⟩ ∧ insZ (k * 3 + 2) = .int .i64 0 := by
  refine ⟨?_, ?_, ?_⟩
  · unfold insZ; rw [show k * 3 % 3 = 0 by omega]; rfl
  · unfold insZ; rw [show (k * 3 + 1) % 3 = 1 by omega]; rfl
  · unfold insZ; rw [show (k * 3 + 2) % 3 = 2 by omega]; rfl
theorem info_Ins : (Tryz.prog.info? 81).map (fun i => (i.zero, i.size, i.bytes)) = some (some (.agg #[.int .i64 0, .string ⟨#[]⟩, .int .i64 0]), 3, 32) := by kernel_rfl
theorem made_ins (n : Nat) : ∀ i, i < n → (madeCells #[.int .i64 0, .string ⟨#[]⟩, .int .i64 0] n)[i]? = some (insZ i) := by
  intro i hi
  unfold insZ
  have : i % 3 < 3 := Nat.mod_lt _ (by decide)
  rcases (show i % 3 = 0 ∨ i % 3 = 1 ∨ i % 3 = 2 by omega) with e | e | e <;> simp [madeCells, hi, e]
/-- what make laid, elements of several cells -/
theorem ownsRow_rowIs {w : World} {lo : Nat} {e : TypeId} {size n g : Nat} {z : Array Value} {f : Nat → Value} (hz : ∀ i, i < n * size → (madeCells z (n * size))[i]? = some (f i))
    (h : w.ownsRow lo e size (.slice (some ⟨g, 0, none⟩) n n) n (madeCells z (n * size)).toList) : w.rowIs g e (n * size) f := by
  rcases h.2 with ⟨h1, h4⟩ | ⟨g', cap, cur, h1, hb, hg, hc, hm, hs, ht⟩
  · simp at h1
  · simp only [Value.slice.injEq, true_and, Option.some.injEq, Addr.mk.injEq, and_true] at h1
    obtain ⟨rfl, rfl⟩ := h1
    refine ⟨cur, hg, hs, fun i hi => ?_⟩
    have h2 := hz i hi
    have h3 : cur.toList = (madeCells z (n * size)).toList := by
      rw [← ht, List.take_of_length_le]
      simp [hs]
    rw [← Array.getElem?_toList, h3, Array.getElem?_toList]
    exact h2
/-- the cells of instructions: a number, a text, a number -/
def insK (n : Nat) (f : Nat → Value) : Prop := ∀ i, i < n → (∃ x, f (i * 3) = .int .i64 x) ∧ (∃ s, f (i * 3 + 1) = .string s) ∧ ∃ x, f (i * 3 + 2) = .int .i64 x
theorem insK_of (xs : List Ins) : insK xs.length (insC xs) := fun i hi => by
  obtain ⟨a, b, c⟩ := insC_at (xs := xs) (k := i) (x := xs[i]) (by simp [hi])
  exact ⟨⟨_, a⟩, ⟨_, b⟩, ⟨_, c⟩⟩
end Go.Proofs.YtaegmenjgjdimaaGreat
end

section
/- This text proves what the laws' helper functions over codes do. -/
namespace Go.Proofs.YtaegmenjgjdimaaGreat
open Go.RowKit

/-- the texts in a code are of a size that memory holds -/
def Cod.bd (c : Cod) : Prop := (∀ x ∈ c.xs, x.name.size ≤ maxLen) ∧ ∀ s ∈ c.ls, s.size ≤ maxLen
def Cod.small (c : Cod) : Prop := c.xs.length ≤ 1048576 ∧ c.ls.length ≤ 1048576
/-- v owns the code c in the blocks from lo up to hi -/
def Cod.O (c : Cod) (lo hi : Nat) (w : World) (v : Value) : Prop := ∃ b b2, v = .agg #[.slice (some ⟨b, 0, none⟩) c.xs.length c.xs.length, .slice (some ⟨b2, 0, none⟩) c.ls.length c.ls.length] ∧ lo ≤ b ∧ b < hi ∧ lo ≤ b2 ∧ b2 < hi ∧ w.rowIs b 81 (c.xs.length * 3) (insC c.xs) ∧ w.rowIs b2 9 c.ls.length (strC c.ls) ∧ (∀ x ∈ c.xs, I64 x.op ∧ I64 x.num) ∧ c.small
theorem Cod.O.kp {c : Cod} {lo hi : Nat} {w w' : World} {v : Value} (h : c.O lo hi w v) (k : Kp lo hi w w') : c.O lo hi w' v := by
  obtain ⟨b, b2, h1, h2, h3, h4, h5, h6, h7, h8⟩ := h
  exact ⟨b, b2, h1, h2, h3, h4, h5, World.rowIs.of_block h6 (k.2 b h2 h3), World.rowIs.of_block h7 (k.2 b2 h4 h5), h8⟩
theorem Cod.O.R {c : Cod} {lo hi : Nat} {w : World} {v : Value} (h : c.O lo hi w v) : c.R lo hi w v := by
  obtain ⟨b, b2, rfl, h2, h3, h4, h5, h6, h7, h8, z1, z2⟩ := h
  refine ⟨_, _, rfl, ⟨_, _, rfl, Nat.le_refl _, by unfold maxLen; omega, fun i x hx => ⟨h8 x (List.mem_of_getElem? hx), b, 0, rfl, h2, h3, ?_⟩⟩, ⟨_, _, rfl, Nat.le_refl _, by unfold maxLen; omega, fun i x hx => ⟨b2, 0, rfl, h4, h5, ?_⟩⟩⟩
  · have hi := (List.getElem?_eq_some_iff.1 hx).1
    obtain ⟨e0, e1, e2⟩ := insC_at hx
    have hl := flat_lt (k := 3) (j := 2) hi (by decide)
    refine ⟨?_, ?_, ?_⟩
    · rw [Nat.zero_add, World.rowIs.cell h6 (by omega), e0]
    · rw [Nat.zero_add, World.rowIs.cell h6 (by omega), e1]
    · rw [Nat.zero_add, World.rowIs.cell h6 (by omega), e2]
  · have hi := (List.getElem?_eq_some_iff.1 hx).1
    rw [Nat.zero_add, World.rowIs.cell h7 hi]
    unfold strC
    rw [List.getD, hx]
    rfl
theorem Cod.O.form {c : Cod} {lo hi : Nat} {w : World} {v : Value} (h : c.O lo hi w v) : ∃ b b2, v = .agg #[.slice (some ⟨b, 0, none⟩) c.xs.length c.xs.length, .slice (some ⟨b2, 0, none⟩) c.ls.length c.ls.length] := by
  obtain ⟨b, b2, h1, _⟩ := h
  exact ⟨b, b2, h1⟩
theorem Cod.R.i64 {c : Cod} {lo hi : Nat} {w : World} {v : Value} (h : c.R lo hi w v) : ∀ x ∈ c.xs, I64 x.op ∧ I64 x.num := by
  obtain ⟨iu, lu, _, ⟨a, cap, _, _, _, h2⟩, _⟩ := h
  intro x hx
  obtain ⟨i, hi, rfl⟩ := List.getElem_of_mem hx
  exact (h2 i c.xs[i] (by simp [hi])).1
end Go.Proofs.YtaegmenjgjdimaaGreat
end

section
/- This text holds the reading of programs of the shading language, and what the laws' helper functions over them do: sizes. -/
namespace Go.Proofs.YtaegmenjgjdimaaGreat
open Go.RowKit

/-- a node: its operation, name, number, arguments -/
structure Nd where
  op : Int
  name : ByteArray
  num : Int
  args : List Int
/-- an assignment: its name, the root of its expression -/
structure Asg where
  name : ByteArray
  root : Int
structure Prg where
  ns : List Nd
  gs : List Asg
/-- v reads in w as the nodes xs -/
def Nds (lo hi : Nat) (w : World) (v : Value) (xs : List Nd) : Prop :=
  ∃ a cap, v = .slice a xs.length cap ∧ xs.length ≤ cap ∧ cap ≤ maxLen ∧ ∀ i x, xs[i]? = some x → (I64 x.op ∧ I64 x.num) ∧ ∃ b off u, a = some ⟨b, off, none⟩ ∧ lo ≤ b ∧ b < hi ∧ w.cell? ⟨b, off + i * 4, none⟩ = some (.int .i64 x.op) ∧ w.cell? ⟨b, off + i * 4 + 1, none⟩ = some (.string x.name) ∧ w.cell? ⟨b, off + i * 4 + 2, none⟩ = some (.int .i64 x.num) ∧ w.cell? ⟨b, off + i * 4 + 3, none⟩ = some u ∧ Ints lo hi w u x.args
theorem Nds.same {lo hi : Nat} {w w' : World} {v : Value} {xs : List Nd} (h : Nds lo hi w v xs) (s : Same lo hi w w') : Nds lo hi w' v xs := by
  obtain ⟨a, cap, h1, h2, h3, h4⟩ := h
  refine ⟨a, cap, h1, h2, h3, fun i x hx => ?_⟩
  obtain ⟨h5, b, off, u, h6, h7, h8, h9, h10, h11, h12, h13⟩ := h4 i x hx
  exact ⟨h5, b, off, u, h6, h7, h8, by rw [s.cell h7 h8]; exact h9, by rw [s.cell h7 h8]; exact h10, by rw [s.cell h7 h8]; exact h11, by rw [s.cell h7 h8]; exact h12, h13.same s⟩
structure NdsAt (lo hi : Nat) (w : World) (a : Option Addr) (cap : Nat) (xs : List Nd) : Prop where
  le : xs.length ≤ cap
  cap : cap ≤ 9223372036854775807
  cell : ∀ i x, xs[i]? = some x → (I64 x.op ∧ I64 x.num) ∧ ∃ b off u, a = some ⟨b, off, none⟩ ∧ lo ≤ b ∧ b < hi ∧ w.cell? ⟨b, off + i * 4, none⟩ = some (.int .i64 x.op) ∧ w.cell? ⟨b, off + i * 4 + 1, none⟩ = some (.string x.name) ∧ w.cell? ⟨b, off + i * 4 + 2, none⟩ = some (.int .i64 x.num) ∧ w.cell? ⟨b, off + i * 4 + 3, none⟩ = some u ∧ Ints lo hi w u x.args
theorem Nds.open {lo hi : Nat} {w : World} {v : Value} {xs : List Nd} (h : Nds lo hi w v xs) : ∃ a cap, v = .slice a xs.length cap ∧ NdsAt lo hi w a cap xs := by
  obtain ⟨a, cap, g1, g2, g3, g4⟩ := h
  exact ⟨a, cap, g1, g2, by unfold maxLen at g3; omega, g4⟩
theorem NdsAt.shut {lo hi : Nat} {w : World} {a : Option Addr} {cap : Nat} {xs : List Nd} (h : NdsAt lo hi w a cap xs) : Nds lo hi w (.slice a xs.length cap) xs :=
  ⟨a, cap, rfl, h.le, by unfold maxLen; have := h.cap; omega, h.cell⟩
/-- node k, and its cells in a world that w grew to -/
theorem NdsAt.at {lo hi : Nat} {w : World} {a : Option Addr} {cap : Nat} {xs : List Nd} (h : NdsAt lo hi w a cap xs) {k : Nat} (hk : k < xs.length) {wr : World} (hx : Ext w wr) (hh : hi ≤ w.heap.size) :
    ∃ b off op s n u r, a = some ⟨b, off, none⟩ ∧ b < w.heap.size ∧ b < wr.heap.size ∧ xs.drop k = ⟨op, s, n, r⟩ :: xs.drop (k + 1) ∧ xs[k]? = some ⟨op, s, n, r⟩ ∧ I64 op ∧ I64 n ∧ Ints lo hi wr u r ∧ wr.cell? ⟨b, off + k * 4, none⟩ = some (.int .i64 op) ∧ wr.cell? ⟨b, off + k * 4 + 1, none⟩ = some (.string s) ∧ wr.cell? ⟨b, off + k * 4 + 2, none⟩ = some (.int .i64 n) ∧ wr.cell? ⟨b, off + k * 4 + 3, none⟩ = some u := by
  obtain ⟨⟨i1, i2⟩, b, off, u, e, h1, h2, c0, c1, c2, c3, hu⟩ := h.cell k xs[k] (by simp [hk])
  have hz := hx.size
  refine ⟨b, off, xs[k].op, xs[k].name, xs[k].num, u, xs[k].args, e, by omega, by omega, List.drop_eq_getElem_cons hk, by simp [hk], i1, i2, hu.ext hh hx, ?_, ?_, ?_, ?_⟩
  · exact (hx.cells.1 b _ (by omega)).trans c0
  · exact (hx.cells.1 b _ (by omega)).trans c1
  · exact (hx.cells.1 b _ (by omega)).trans c2
  · exact (hx.cells.1 b _ (by omega)).trans c3
/-- v reads in w as the assignments xs -/
def Asgs (lo hi : Nat) (w : World) (v : Value) (xs : List Asg) : Prop :=
  ∃ a cap, v = .slice a xs.length cap ∧ xs.length ≤ cap ∧ cap ≤ maxLen ∧ ∀ i x, xs[i]? = some x → I64 x.root ∧ ∃ b off, a = some ⟨b, off, none⟩ ∧ lo ≤ b ∧ b < hi ∧ w.cell? ⟨b, off + i * 2, none⟩ = some (.string x.name) ∧ w.cell? ⟨b, off + i * 2 + 1, none⟩ = some (.int .i64 x.root)
theorem Asgs.same {lo hi : Nat} {w w' : World} {v : Value} {xs : List Asg} (h : Asgs lo hi w v xs) (s : Same lo hi w w') : Asgs lo hi w' v xs := by
  obtain ⟨a, cap, h1, h2, h3, h4⟩ := h
  refine ⟨a, cap, h1, h2, h3, fun i x hx => ?_⟩
  obtain ⟨h5, b, off, h6, h7, h8, h9, h10⟩ := h4 i x hx
  exact ⟨h5, b, off, h6, h7, h8, by rw [s.cell h7 h8]; exact h9, by rw [s.cell h7 h8]; exact h10⟩
structure AsgsAt (lo hi : Nat) (w : World) (a : Option Addr) (cap : Nat) (xs : List Asg) : Prop where
  le : xs.length ≤ cap
  cap : cap ≤ 9223372036854775807
  cell : ∀ i x, xs[i]? = some x → I64 x.root ∧ ∃ b off, a = some ⟨b, off, none⟩ ∧ lo ≤ b ∧ b < hi ∧ w.cell? ⟨b, off + i * 2, none⟩ = some (.string x.name) ∧ w.cell? ⟨b, off + i * 2 + 1, none⟩ = some (.int .i64 x.root)
theorem Asgs.open {lo hi : Nat} {w : World} {v : Value} {xs : List Asg} (h : Asgs lo hi w v xs) : ∃ a cap, v = .slice a xs.length cap ∧ AsgsAt lo hi w a cap xs := by
  obtain ⟨a, cap, g1, g2, g3, g4⟩ := h
  exact ⟨a, cap, g1, g2, by unfold maxLen at g3; omega, g4⟩
theorem AsgsAt.shut {lo hi : Nat} {w : World} {a : Option Addr} {cap : Nat} {xs : List Asg} (h : AsgsAt lo hi w a cap xs) : Asgs lo hi w (.slice a xs.length cap) xs :=
  ⟨a, cap, rfl, h.le, by unfold maxLen; have := h.cap; omega, h.cell⟩
theorem AsgsAt.at {lo hi : Nat} {w : World} {a : Option Addr} {cap : Nat} {xs : List Asg} (h : AsgsAt lo hi w a cap xs) {k : Nat} (hk : k < xs.length) {wr : World} (hx : Ext w wr) (hh : hi ≤ w.heap.size) :
    ∃ b off s r, a = some ⟨b, off, none⟩ ∧ b < w.heap.size ∧ b < wr.heap.size ∧ xs.drop k = ⟨s, r⟩ :: xs.drop (k + 1) ∧ xs[k]? = some ⟨s, r⟩ ∧ I64 r ∧ wr.cell? ⟨b, off + k * 2, none⟩ = some (.string s) ∧ wr.cell? ⟨b, off + k * 2 + 1, none⟩ = some (.int .i64 r) := by
  obtain ⟨i1, b, off, e, h1, h2, c0, c1⟩ := h.cell k xs[k] (by simp [hk])
  have hz := hx.size
  refine ⟨b, off, xs[k].name, xs[k].root, e, by omega, by omega, List.drop_eq_getElem_cons hk, by simp [hk], i1, ?_, ?_⟩
  · exact (hx.cells.1 b _ (by omega)).trans c0
  · exact (hx.cells.1 b _ (by omega)).trans c1
def Prg.R (p : Prg) (lo hi : Nat) (w : World) (v : Value) : Prop := ∃ nu au, v = .agg #[nu, au] ∧ Nds lo hi w nu p.ns ∧ Asgs lo hi w au p.gs
theorem Prg.R.same {p : Prg} {lo hi : Nat} {w w' : World} {v : Value} (h : p.R lo hi w v) (s : Same lo hi w w') : p.R lo hi w' v := by
  obtain ⟨nu, au, h1, h2, h3⟩ := h
  exact ⟨nu, au, h1, h2.same s, h3.same s⟩
theorem Prg.R.ext {p : Prg} {lo hi : Nat} {w w' : World} {v : Value} (h : p.R lo hi w v) (hh : hi ≤ w.heap.size) (e : Ext w w') : p.R lo hi w' v := h.same (e.same hh)
theorem Prg.R.kp {p : Prg} {lo hi : Nat} {w w' : World} {v : Value} (h : p.R lo hi w v) (k : Kp lo hi w w') : p.R lo hi w' v := h.same k.same
theorem Nds.ext {lo hi : Nat} {w w' : World} {v : Value} {xs : List Nd} (h : Nds lo hi w v xs) (hh : hi ≤ w.heap.size) (e : Ext w w') : Nds lo hi w' v xs := h.same (e.same hh)
theorem Asgs.ext {lo hi : Nat} {w w' : World} {v : Value} {xs : List Asg} (h : Asgs lo hi w v xs) (hh : hi ≤ w.heap.size) (e : Ext w w') : Asgs lo hi w' v xs := h.same (e.same hh)
theorem Prg.R.form {p : Prg} {lo hi : Nat} {w : World} {v : Value} (h : p.R lo hi w v) : ∃ a1 c1 a2 c2, v = .agg #[.slice a1 p.ns.length c1, .slice a2 p.gs.length c2] ∧ NdsAt lo hi w a1 c1 p.ns ∧ AsgsAt lo hi w a2 c2 p.gs := by
  obtain ⟨iu, lu, rfl, h2, h3⟩ := h
  obtain ⟨a1, c1, rfl, H1⟩ := h2.open
  obtain ⟨a2, c2, rfl, H2⟩ := h3.open
  exact ⟨a1, c1, a2, c2, rfl, H1, H2⟩
/-- the texts in a program are of a size that memory holds -/
def Prg.bd (p : Prg) : Prop := (∀ x ∈ p.ns, x.name.size ≤ maxLen) ∧ ∀ x ∈ p.gs, x.name.size ≤ maxLen
def Prg.small (p : Prg) : Prop := (p.ns.length ≤ 1048576 ∧ ∀ x ∈ p.ns, x.args.length ≤ 1048576) ∧ p.gs.length ≤ 1048576

end Go.Proofs.YtaegmenjgjdimaaGreat
end

section
/- This text proves what the names of the shading language are, on both sides. -/
namespace Go.Proofs.YtaegmenjgjdimaaGreat
open Go.RowKit

def letN (n : Nat) : Bool := decide (97 ≤ n) && decide (n ≤ 122)
def digN (n : Nat) : Bool := decide (48 ≤ n) && decide (n ≤ 57)
/-- byte k of a name is a letter, or a digit behind the first one -/
def identAt (s : ByteArray) (k : Nat) : Bool := if h : k < s.size then letN s[k].toNat || (decide (k ≠ 0) && digN s[k].toNat) else true
def identB (s : ByteArray) : Bool := decide (1 ≤ s.size) && decide (s.size ≤ 8) && (List.range s.size).all (identAt s)
theorem identB_no {s : ByteArray} {k : Nat} (hk : k < s.size) (h : identAt s k = false) : identB s = false := by
  unfold identB
  rw [Bool.and_eq_false_iff]
  right
  rw [List.all_eq_false]
  exact ⟨k, List.mem_range.2 hk, by simp [h]⟩
theorem identB_yes {s : ByteArray} (h : ∀ k, k < s.size → identAt s k = true) : identB s = (decide (1 ≤ s.size) && decide (s.size ≤ 8)) := by
  unfold identB
  have : (List.range s.size).all (identAt s) = true := List.all_eq_true.2 fun k hk => h k (List.mem_range.1 hk)
  rw [this, Bool.and_true]
theorem identAt_let {s : ByteArray} {k : Nat} (hk : k < s.size) (h : 97 ≤ s[k].toNat ∧ s[k].toNat ≤ 122) : identAt s k = true := by
  unfold identAt letN
  rw [dif_pos hk, decide_eq_true h.1, decide_eq_true h.2]
  rfl
theorem identAt_dig {s : ByteArray} {k : Nat} (hk : k < s.size) (h0 : k ≠ 0) (h : 48 ≤ s[k].toNat ∧ s[k].toNat ≤ 57) : identAt s k = true := by
  unfold identAt digN
  rw [dif_pos hk, decide_eq_true h.1, decide_eq_true h.2, decide_eq_true h0]
  simp
theorem identAt_no {s : ByteArray} {k : Nat} (hk : k < s.size) (h1 : ¬(97 ≤ s[k].toNat ∧ s[k].toNat ≤ 122)) (h2 : ¬(k ≠ 0 ∧ 48 ≤ s[k].toNat ∧ s[k].toNat ≤ 57)) : identAt s k = false := by
  unfold identAt letN digN
  rw [dif_pos hk]
  simp only [Bool.or_eq_false_iff, Bool.and_eq_false_iff, decide_eq_false_iff_not]
  omega
set_option maxHeartbeats 3200000 in
theorem sIsIdentifier_any (s : ByteArray) (w : World) (hs : s.size ≤ maxLen) : Calls Tryz.prog 109 #[.string s] w fun e w' => e = .returned (.bool (identB s)) ∧ w = w' := by
  unfold maxLen at hs
  go_enter Tryz.func109, Tryz.ntmps109
  go_wp2
  go_loopw [3] (fun i wr => ∃ k : Nat, k ≤ s.size ∧ i = .int .i64 k ∧ wr = w ∧ ∀ j, j < k → identAt s j = true) (fun i _ => s.size - (intOf i).toNat)
  case atStart => exact ⟨0, by omega, rfl, rfl, fun j h => by omega⟩
  case round =>
    obtain ⟨k, hk, rfl, rfl, hno⟩ := hrel
    by_cases hlt : k < s.size
    · have hno' : identAt s k = true → ∀ j, j < k + 1 → identAt s j = true := fun h j hj => by
        by_cases e : j = k
        · subst e; exact h
        · exact hno j (by omega)
      by_cases h1 : 97 ≤ s[k].toNat ∧ s[k].toNat ≤ 122
      · have HN := hid (hno' (identAt_let hlt h1))
        clear hno hno'
        go_wp2
        go_roundw
        case rel => exact ⟨k + 1, by omega, by go_num, by trivial, HN.out⟩
        case measure => simp [intOf]; omega
      · by_cases h2 : k ≠ 0 ∧ 48 ≤ s[k].toNat ∧ s[k].toNat ≤ 57
        · have HN := hid (hno' (identAt_dig hlt h2.1 h2.2))
          have ek : ((k : Int) == 0) = false := beq_eq_false_iff_ne.2 (by omega)
          clear hno hno'
          go_wp2
          all_goals first | (exfalso; omega) | skip
          all_goals (go_roundw <;> first | exact ⟨k + 1, by omega, by go_num, by trivial, HN.out⟩ | (simp [intOf]; omega))
        · have HN := hid (identB_no hlt (identAt_no hlt h1 h2))
          clear hno hno'
          by_cases h0 : k = 0
          · have ek : ((k : Int) == 0) = true := by subst h0; rfl
            go_wp2
            all_goals first | (exfalso; omega) | (go_ret; exact ⟨by rw [HN.out]; rfl, rfl⟩) | (exfalso; simp_all <;> omega) | trace_state
          · have ek : ((k : Int) == 0) = false := beq_eq_false_iff_ne.2 (by omega)
            go_wp2
            all_goals first | (exfalso; omega) | (go_ret; exact ⟨by rw [HN.out]; rfl, rfl⟩) | (exfalso; simp_all <;> omega) | trace_state
    · obtain rfl : k = s.size := by omega
      have HN := hid (identB_yes hno)
      clear hno
      obtain ⟨bi, hbi⟩ : ∃ b, inB (s.size : Int) 1 8 = b := ⟨_, rfl⟩
      have hb2 : identB s = bi := by
        rw [HN.out, ← hbi]
        unfold inB
        rw [Bool.eq_iff_iff]
        simp only [Bool.and_eq_true, decide_eq_true_eq]
        omega
      have HB := hid hb2
      go_wp2_with fail
      refine (l01In_val hbi _).mono ?_
      rintro e w1 ⟨rfl, rfl⟩
      go_wp2
      go_ret
      exact ⟨by rw [HB.out]; rfl, rfl⟩
set_option maxHeartbeats 6400000 in
theorem iIsIdentifier_any (s : ByteArray) (w : World) (hs : s.size ≤ maxLen) : Calls Tryz.prog 116 #[.string s] w fun e w' => e = .returned (.bool (identB s)) ∧ Ext w w' := by
  unfold maxLen at hs
  have hk0 : (w.iter s 0).heap[w.heap.size]? = some (.stringIter s 0) := World.iter_heap w s 0
  have hb0 : Ext w (w.iter s 0) := (Ext.refl w).alloc _
  go_enter Tryz.func116, Tryz.ntmps116
  go_wp2
  go_loopw [9] (fun _ wr => ∃ pos : Nat, pos ≤ s.size ∧ wr.heap[w.heap.size]? = some (.stringIter s pos) ∧ (∀ j, j < pos → identAt s j = true) ∧ Ext w wr) (fun _ wr => s.size - wr.iterPos w.heap.size)
  case atStart => exact ⟨0, Nat.zero_le _, hk0, fun j h => by omega, hb0⟩
  case round =>
    obtain ⟨pos, hps, hk, hno, hnx⟩ := hrel
    clear hk0 hb0
    by_cases hp : pos < s.size
    · have hno' : identAt s pos = true → ∀ j, j < pos + 1 → identAt s j = true := fun h j hj => by
        by_cases e : j = pos
        · subst e; exact h
        · exact hno j (by omega)
      have hmu : wr.iterPos w.heap.size = pos := by simp [World.iterPos, hk]
      by_cases ha : (s[pos]'hp).toNat < 128
      · have hnext : ∀ ty, (Instr.next (.pointer (some ⟨w.heap.size, 0, none⟩)) true ty).run Tryz.prog wr = _ := fun ty => Lib.run_next_ascii_at wr w.heap.size s pos ty hk hp ha
        have hk1 := Lib.iterAt_heap wr w.heap.size s pos (pos + 1) hk
        have hnx1 : Ext w (wr.iterAt w.heap.size s (pos + 1)) := Lib.below_iterAt hnx (by omega) s (pos + 1)
        generalize wr.iterAt w.heap.size s (pos + 1) = W1 at hnext hk1 hnx1
        have hmu1 : W1.iterPos w.heap.size = pos + 1 := by simp [World.iterPos, hk1]
        have HX := hid hnx1
        have HK := hid hk1
        clear hnx hk hnx1 hk1
        by_cases h1 : 97 ≤ s[pos].toNat ∧ s[pos].toNat ≤ 122
        · have HN := hid (hno' (identAt_let hp h1))
          clear hno hno'
          go_wp2
          all_goals first | (exfalso; omega) | skip
          all_goals (go_roundw <;> first | exact ⟨pos + 1, by omega, HK.out, HN.out, HX.out⟩ | (rw [hmu, hmu1]; omega))
        · by_cases h2 : pos ≠ 0 ∧ 48 ≤ s[pos].toNat ∧ s[pos].toNat ≤ 57
          · have HN := hid (hno' (identAt_dig hp h2.1 h2.2))
            have ek : ((pos : Int) == 0) = false := beq_eq_false_iff_ne.2 (by omega)
            clear hno hno'
            go_wp2
            all_goals first | (exfalso; omega) | skip
            all_goals (go_roundw <;> first | exact ⟨pos + 1, by omega, HK.out, HN.out, HX.out⟩ | (rw [hmu, hmu1]; omega))
          · have HN := hid (identB_no hp (identAt_no hp h1 h2))
            clear hno hno'
            by_cases h0 : pos = 0
            · have ek : ((pos : Int) == 0) = true := by subst h0; rfl
              go_wp2
              all_goals first | (exfalso; omega) | (go_ret; exact ⟨by rw [HN.out]; rfl, HX.out⟩) | (exfalso; simp_all <;> omega)
            · have ek : ((pos : Int) == 0) = false := beq_eq_false_iff_ne.2 (by omega)
              go_wp2
              all_goals first | (exfalso; omega) | (go_ret; exact ⟨by rw [HN.out]; rfl, HX.out⟩) | (exfalso; simp_all <;> omega)
      · have hnext : ∀ ty, (Instr.next (.pointer (some ⟨w.heap.size, 0, none⟩)) true ty).run Tryz.prog wr = _ := fun ty => Lib.run_next_any_at wr w.heap.size s pos ty hk hp
        have hnx1 : Ext w (wr.iterAt w.heap.size s (pos + (Utf8.decode s pos).2)) := Lib.below_iterAt hnx (by omega) s _
        have hhi := (decode_high s pos hp (by omega)).1
        generalize wr.iterAt w.heap.size s (pos + (Utf8.decode s pos).2) = W1 at hnext hnx1
        generalize (Utf8.decode s pos).1 = rn at hnext hhi
        have HX := hid hnx1
        have HN := hid (identB_no hp (identAt_no hp (by omega) (by omega)))
        clear hnx hk hnx1 hno hno'
        by_cases h0 : pos = 0
        · have ek : ((pos : Int) == 0) = true := by subst h0; rfl
          go_wp2
          all_goals first | (exfalso; omega) | (go_ret; exact ⟨by rw [HN.out]; rfl, HX.out⟩) | (exfalso; simp_all <;> omega)
        · have ek : ((pos : Int) == 0) = false := beq_eq_false_iff_ne.2 (by omega)
          go_wp2
          all_goals first | (exfalso; omega) | (go_ret; exact ⟨by rw [HN.out]; rfl, HX.out⟩) | (exfalso; simp_all <;> omega)
    · obtain rfl : pos = s.size := by omega
      have hnext : ∀ ty, (Instr.next (.pointer (some ⟨w.heap.size, 0, none⟩)) true ty).run Tryz.prog wr = _ := fun ty => Lib.run_next_end_at wr w.heap.size s s.size ty hk hp
      have HN := hid (identB_yes hno)
      have HX := hid hnx
      clear hno hnx hk
      by_cases h1 : 1 ≤ s.size
      · by_cases h8 : s.size ≤ 8
        · have HB := hid (show identB s = true by rw [HN.out, decide_eq_true h1, decide_eq_true h8]; rfl)
          go_wp2
          all_goals first | (exfalso; omega) | (go_ret; exact ⟨by rw [HB.out]; rfl, HX.out⟩) | (go_ret; exact ⟨by rw [HB.out]; simp <;> omega, HX.out⟩) | (exfalso; simp_all <;> omega)
        · have HB := hid (show identB s = false by rw [HN.out, decide_eq_false h8]; simp)
          go_wp2
          all_goals first | (exfalso; omega) | (go_ret; exact ⟨by rw [HB.out]; rfl, HX.out⟩) | (go_ret; exact ⟨by rw [HB.out]; simp <;> omega, HX.out⟩) | (exfalso; simp_all <;> omega)
      · have HB := hid (show identB s = false by rw [HN.out, decide_eq_false h1]; simp)
        go_wp2
        all_goals first | (exfalso; omega) | (go_ret; exact ⟨by rw [HB.out]; rfl, HX.out⟩) | (go_ret; exact ⟨by rw [HB.out]; simp <;> omega, HX.out⟩) | (exfalso; simp_all <;> omega)
end Go.Proofs.YtaegmenjgjdimaaGreat
end

section
/- This text proves which nodes of a program are valid by themselves, on both sides. -/
namespace Go.Proofs.YtaegmenjgjdimaaGreat
open Go.RowKit

def namedB (op : Int) : Bool := op == 2 || op == 8
def lenB (op l : Int) : Bool := if op = 1 ∨ op = 2 then l == 0 else if op = 3 then l == 1 else if 4 ≤ op ∧ op ≤ 7 then l == 2 else if op = 8 then decide (l ≤ 3) else false
/-- a node is valid by itself -/
def nodeF (x : Nd) : Bool := (if namedB x.op then identB x.name else x.name.toList == []) && (if x.op = 1 then inB x.num 0 2559999 else x.num == 0) && lenB x.op x.args.length
theorem ident_empty {s : ByteArray} (h : identB s = true) : (s.toList == []) = false := by
  rw [beq_eq_false_iff_ne]
  intro e
  have h1 : s.size = 0 := by
    rw [ByteArray.toList_eq] at e
    have : s.data.toList.length = s.size := by simp
    rw [← this, e]
    rfl
  unfold identB at h
  rw [h1] at h
  simp at h
theorem iIsIdentifier_val {s : ByteArray} {b : Bool} (h : identB s = b) (w : World) (hs : s.size ≤ maxLen) : Calls Tryz.prog 116 #[.string s] w fun e w' => e = .returned (.bool b) ∧ Ext w w' := h ▸ iIsIdentifier_any s w hs
theorem sIsIdentifier_val {s : ByteArray} {b : Bool} (h : identB s = b) (w : World) (hs : s.size ≤ maxLen) : Calls Tryz.prog 109 #[.string s] w fun e w' => e = .returned (.bool b) ∧ w = w' := h ▸ sIsIdentifier_any s w hs
theorem op_cases (op : Int) (bn : Bool) : (op = 1 ∧ bn = true) ∨ (op = 1 ∧ bn = false) ∨ op = 2 ∨ op = 3 ∨ op = 4 ∨ op = 5 ∨ op = 6 ∨ op = 7 ∨ op = 8 ∨ (op ≠ 1 ∧ op ≠ 2 ∧ op ≠ 3 ∧ op ≠ 4 ∧ op ≠ 5 ∧ op ≠ 6 ∧ op ≠ 7 ∧ op ≠ 8) := by
  cases bn <;> simp <;> omega
set_option maxRecDepth 20000 in
set_option maxHeartbeats 12800000 in
theorem iValidNode_any (op : Int) (s : ByteArray) (n : Int) (a : Option Addr) (r : List Int) (cap : Nat) (w : World) (hs : s.size ≤ maxLen) :
    Calls Tryz.prog 115 #[.agg #[.int .i64 op, .string s, .int .i64 n, .slice a r.length cap]] w fun e w' => e = .returned (.bool (nodeF ⟨op, s, n, r⟩)) ∧ Ext w w' := by
  obtain ⟨bi, hbi⟩ : ∃ b, identB s = b := ⟨_, rfl⟩
  obtain ⟨be, hbe⟩ : ∃ b, (s.toList == []) = b := ⟨_, rfl⟩
  obtain ⟨bn, hbn⟩ : ∃ b, inB n 0 2559999 = b := ⟨_, rfl⟩
  have hie : bi = true → be = false := fun h => by rw [← hbe]; exact ident_empty (by rw [hbi, h])
  have bA := Bx.made w #[.int .i64 op, .string s, .int .i64 n, .slice a r.length cap] 79
  have HS := hid hs
  have HI := hid hbi
  clear hs
  rcases op_cases op bn with ⟨rfl, rfl⟩ | ⟨rfl, rfl⟩ | rfl | rfl | rfl | rfl | rfl | rfl | rfl | ⟨o1, o2, o3, o4, o5, o6, o7, o8⟩
  all_goals cases bi <;> cases be
  all_goals first | (exfalso; simp at hie; done) | skip
  all_goals
    try have q1 : (op == 1) = false := beq_eq_false_iff_ne.2 o1
    try have q2 : (op == 2) = false := beq_eq_false_iff_ne.2 o2
    try have q3 : (op == 3) = false := beq_eq_false_iff_ne.2 o3
    try have q4 : (op == 4) = false := beq_eq_false_iff_ne.2 o4
    try have q5 : (op == 5) = false := beq_eq_false_iff_ne.2 o5
    try have q6 : (op == 6) = false := beq_eq_false_iff_ne.2 o6
    try have q7 : (op == 7) = false := beq_eq_false_iff_ne.2 o7
    try have q8 : (op == 8) = false := beq_eq_false_iff_ne.2 o8
    clear hie hbi
    go_enter Tryz.func115, Tryz.ntmps115
    go_wp2_with fail
    refine (iIsIdentifier_val HI.out _ HS.out).mono ?_
    rintro e w1 ⟨rfl, x1⟩
    have bA1 := bA.ext x1
    have X1 : Ext w w1 := Ext.trans (by repeat (with_reducible (first | assumption | exact Ext.refl _ | apply Ext.alloc | apply Ext.drew | apply Ext.drewN))) x1
    clear bA x1
    have y := bA1.lt
    have y0 := bA1.cell 0
    simp only [List.getElem?_toArray, List.getElem?_cons_zero, List.getElem?_cons_succ] at y0
    have y1 := bA1.cell 1
    simp only [List.getElem?_toArray, List.getElem?_cons_zero, List.getElem?_cons_succ] at y1
    have y2 := bA1.cell 2
    simp only [List.getElem?_toArray, List.getElem?_cons_zero, List.getElem?_cons_succ] at y2
    have y3 := bA1.cell 3
    simp only [List.getElem?_toArray, List.getElem?_cons_zero, List.getElem?_cons_succ] at y3
    clear bA1
    go_wp2_with (go_at_call 25; refine (within_val hbn _).mono ?_; rintro e w2 ⟨rfl, rfl⟩)
    all_goals (go_ret; exact ⟨by first | (simp [nodeF, namedB, lenB, HI.out, hbn, *]; done) | (simp [nodeF, namedB, lenB, HI.out, hbn, *] <;> simp_all; done) | (simp [nodeF, namedB, lenB, HI.out, hbn, *] <;> omega), X1⟩)
end Go.Proofs.YtaegmenjgjdimaaGreat
end

section
/- This text proves the reference's check of one node. -/
namespace Go.Proofs.YtaegmenjgjdimaaGreat
open Go.RowKit

/-- the arguments of node i lie ahead of it -/
def argsB (r : List Int) (i : Int) : Bool := r.all fun a => inB a 0 (i - 1)
theorem in47 : inB 4 4 7 = true ∧ inB 5 4 7 = true ∧ inB 6 4 7 = true ∧ inB 7 4 7 = true := ⟨rfl, rfl, rfl, rfl⟩
set_option maxRecDepth 20000 in
set_option maxHeartbeats 12800000 in
theorem sNode_any (lo hi : Nat) (op : Int) (s : ByteArray) (n : Int) (u : Value) (r : List Int) (i : Int) (w : World) (hu : Ints lo hi w u r) (hh : hi ≤ w.heap.size) (hs : s.size ≤ maxLen) (hi1 : 0 ≤ i) (hi2 : i ≤ 10000000) :
    Calls Tryz.prog 108 #[.agg #[.int .i64 op, .string s, .int .i64 n, u], .int .i64 i] w fun e w' => e = .returned (.bool (argsB r i && nodeF ⟨op, s, n, r⟩)) ∧ Ext w w' := by
  obtain ⟨a, cap, rfl, HU⟩ := hu.open
  have l1 := HU.le
  have l2 := HU.cap
  obtain ⟨bi, hbi⟩ : ∃ b, identB s = b := ⟨_, rfl⟩
  obtain ⟨be, hbe⟩ : ∃ b, (s.toList == []) = b := ⟨_, rfl⟩
  obtain ⟨bn, hbn⟩ : ∃ b, inB n 0 2559999 = b := ⟨_, rfl⟩
  have hie : bi = true → be = false := fun h => by rw [← hbe]; exact ident_empty (by rw [hbi, h])
  have HS := hid hs
  have HI := hid hbi
  have HE := hid hbe
  have HB := hid hbn
  have x0 : Ext w (w.alloc (.cells #[.int .i64 op, .string s, .int .i64 n, .slice a r.length cap] 79)) := (by repeat (with_reducible (first | assumption | exact Ext.refl _ | apply Ext.alloc | apply Ext.drew | apply Ext.drewN)))
  have HIE := hid hie
  clear hs hbi hbe hbn hie hu
  go_enter Tryz.func108, Tryz.ntmps108
  go_wp2
  go_loopw [11] (fun q wr => ∃ k : Nat, k ≤ r.length ∧ q = .int .i64 k ∧ wr = (w.alloc (.cells #[.int .i64 op, .string s, .int .i64 n, .slice a r.length cap] 79)) ∧ ∀ j x, j < k → r[j]? = some x → inB x 0 (i - 1) = true) (fun q _ => r.length - (intOf q).toNat)
  case atStart => exact ⟨0, by omega, rfl, rfl, fun j x h => by omega⟩
  case round =>
    obtain ⟨k, hk, rfl, rfl, hno⟩ := hrel
    by_cases hlt : k < r.length
    · obtain ⟨b, off, rfl, hb1, hb2, hc⟩ := HU.at hlt
      have hget : r[k]? = some r[k] := by simp [hlt]
      obtain ⟨y, hy⟩ : ∃ y, r[k] = y := ⟨_, rfl⟩
      rw [hy] at hc hget
      clear hy
      rw [← x0.cells.1 b _ (by omega)] at hc
      obtain ⟨bb, hbb⟩ : ∃ c, inB y 0 (i - 1) = c := ⟨_, rfl⟩
      have hb3 : b < (w.alloc (.cells #[.int .i64 op, .string s, .int .i64 n, .slice (some ⟨b, off, none⟩) r.length cap] 79)).heap.size := by simp; omega
      cases bb
      · have HN : Hid (argsB r i = false) := hid (by
          unfold argsB
          rw [List.all_eq_false]
          exact ⟨y, List.mem_of_getElem? hget, by rw [hbb]; simp⟩)
        have HBB := hid hbb
        clear hno hget hbb
        go_wp2_with (go_at_call 82; refine (l01In_val HBB.out _).mono ?_; rintro e w1 ⟨rfl, rfl⟩)
        go_ret
        exact ⟨by rw [HN.out]; rfl, x0⟩
      · have HN : Hid (∀ j x, j < k + 1 → r[j]? = some x → inB x 0 (i - 1) = true) := hid (fun j z hj hz => by
          by_cases e : j = k
          · subst e
            rw [hget] at hz
            injection hz with hz
            subst hz
            exact hbb
          · exact hno j z (by omega) hz)
        have HBB := hid hbb
        clear hno hget hbb
        go_wp2_with (go_at_call 82; refine (l01In_val HBB.out _).mono ?_; rintro e w1 ⟨rfl, rfl⟩)
        go_roundw
        case rel => exact ⟨k + 1, by omega, by go_num, by trivial, HN.out⟩
        case measure => simp [intOf]; omega
    · obtain rfl : k = r.length := by omega
      have HN : Hid (argsB r i = true) := hid (by
        unfold argsB
        rw [List.all_eq_true]
        intro x hx
        obtain ⟨j, hj, rfl⟩ := List.getElem_of_mem hx
        exact hno j _ hj (by simp [hj]))
      clear hno
      have hie := HIE.out
      have hbe := HE.out
      have hbn := HB.out
      rcases op_cases op bn with ⟨rfl, rfl⟩ | ⟨rfl, rfl⟩ | rfl | rfl | rfl | rfl | rfl | rfl | rfl | ⟨o1, o2, o3, o4, o5, o6, o7, o8⟩
      all_goals cases bi <;> cases be
      all_goals first | (exfalso; simp at hie; done) | skip
      all_goals
        try have q1 : (op == 1) = false := beq_eq_false_iff_ne.2 o1
        try have q2 : (op == 2) = false := beq_eq_false_iff_ne.2 o2
        try have q3 : (op == 3) = false := beq_eq_false_iff_ne.2 o3
        try have q8 : (op == 8) = false := beq_eq_false_iff_ne.2 o8
        try have q47 : inB op 4 7 = false := by unfold inB; simp; omega
        clear hie
        go_wp2_with (first | (go_at_call 109; refine (sIsIdentifier_val HI.out _ HS.out).mono ?_; rintro e w1 ⟨rfl, rfl⟩) | (go_at_call 82; (first | with_reducible refine (l01In_val hbn _).mono ?_ | with_reducible refine (l01In_val q47 _).mono ?_ | with_reducible refine (l01In_val in47.1 _).mono ?_ | with_reducible refine (l01In_val in47.2.1 _).mono ?_ | with_reducible refine (l01In_val in47.2.2.1 _).mono ?_ | with_reducible refine (l01In_val in47.2.2.2 _).mono ?_); rintro e w1 ⟨rfl, rfl⟩))
        all_goals (go_ret; exact ⟨by rw [HN.out, Bool.true_and]; first | (simp [nodeF, namedB, lenB, HI.out, hbn, *]; done) | (simp [nodeF, namedB, lenB, HI.out, hbn, *] <;> simp_all; done) | (simp [nodeF, namedB, lenB, HI.out, hbn, *] <;> omega), x0⟩)
end Go.Proofs.YtaegmenjgjdimaaGreat
end

section
/- This text says in plain numbers which programs of the shading language are valid, and proves the program's look for a node that is not used once. -/
namespace Go.Proofs.YtaegmenjgjdimaaGreat
open Go.RowKit

/-- one more use of node i -/
def bumpU (u : List Int) (i : Nat) : List Int := u.set i (u.getD i 0 + 1)
def bumpL (u : List Int) (es : List Int) : List Int := es.foldl (fun u a => bumpU u a.toNat) u
def usesN (u : List Int) (xs : List Nd) : List Int := xs.foldl (fun u x => bumpL u x.args) u
def usesG (u : List Int) (gs : List Asg) : List Int := gs.foldl (fun u a => bumpU u a.root.toNat) u
def Prg.usesA (p : Prg) : List Int := usesN (List.replicate p.ns.length 0) p.ns
def Prg.uses (p : Prg) : List Int := usesG p.usesA p.gs
def Prg.ndB (p : Prg) (k : Nat) : Bool := match p.ns[k]? with | some x => argsB x.args k && nodeF x | none => true
def Prg.agB (p : Prg) (k : Nat) : Bool := match p.gs[k]? with | some x => identB x.name && inB x.root 0 ((p.ns.length : Int) - 1) | none => true
/-- a program is valid -/
def Prg.okB (p : Prg) : Bool := decide (p.ns.length ≤ 60) && (List.range p.ns.length).all p.ndB && (List.range p.gs.length).all p.agB && p.uses.all (· == 1)
theorem Prg.ndB_at {p : Prg} {k : Nat} {x : Nd} (h : p.ns[k]? = some x) : p.ndB k = (argsB x.args k && nodeF x) := by unfold Prg.ndB; rw [h]
theorem Prg.agB_at {p : Prg} {k : Nat} {x : Asg} (h : p.gs[k]? = some x) : p.agB k = (identB x.name && inB x.root 0 ((p.ns.length : Int) - 1)) := by unfold Prg.agB; rw [h]
/-- the entries of u are at most t -/
def UpTo (u : List Int) (t : Nat) : Prop := ∀ i, 0 ≤ u.getD i 0 ∧ u.getD i 0 ≤ t
theorem UpTo.zero (n : Nat) : UpTo (List.replicate n 0) 0 := fun i => by
  rw [List.getD_eq_getElem?_getD, List.getElem?_replicate]
  split <;> simp
theorem UpTo.bump {u : List Int} {t : Nat} (h : UpTo u t) (i : Nat) : UpTo (bumpU u i) (t + 1) := fun j => by
  have h1 := h i
  have h2 := h j
  unfold bumpU
  rw [List.getD_eq_getElem?_getD, List.getElem?_set]
  split
  · split
    · simp only [Option.getD_some]; omega
    · simp; omega
  · rw [← List.getD_eq_getElem?_getD]; omega
theorem UpTo.mono {u : List Int} {t t' : Nat} (h : UpTo u t) (ht : t ≤ t') : UpTo u t' := fun i => ⟨(h i).1, by have := (h i).2; omega⟩
theorem bumpU_len (u : List Int) (i : Nat) : (bumpU u i).length = u.length := by simp [bumpU]
theorem bumpL_len (es : List Int) : ∀ u : List Int, (bumpL u es).length = u.length := by
  unfold bumpL
  induction es with
  | nil => intro u; rfl
  | cons a r ih => intro u; rw [List.foldl_cons, ih, bumpU_len]
theorem usesN_len (xs : List Nd) : ∀ u : List Int, (usesN u xs).length = u.length := by
  unfold usesN
  induction xs with
  | nil => intro u; rfl
  | cons a r ih => intro u; rw [List.foldl_cons, ih, bumpL_len]
theorem usesG_len (xs : List Asg) : ∀ u : List Int, (usesG u xs).length = u.length := by
  unfold usesG
  induction xs with
  | nil => intro u; rfl
  | cons a r ih => intro u; rw [List.foldl_cons, ih, bumpU_len]
theorem Prg.usesA_len (p : Prg) : p.usesA.length = p.ns.length := by unfold Prg.usesA; rw [usesN_len, List.length_replicate]
theorem take_step {α : Type} {xs : List α} {k : Nat} {x : α} (h : xs[k]? = some x) : xs.take (k + 1) = xs.take k ++ [x] := by
  obtain ⟨hk, rfl⟩ := List.getElem?_eq_some_iff.1 h
  exact List.take_succ_eq_append_getElem hk
theorem bumpL_step {u es : List Int} {k : Nat} {y : Int} (h : es[k]? = some y) : bumpU (bumpL u (es.take k)) y.toNat = bumpL u (es.take (k + 1)) := by
  rw [take_step h]; simp [bumpL]
theorem usesN_step {u : List Int} {xs : List Nd} {k : Nat} {x : Nd} (h : xs[k]? = some x) : bumpL (usesN u (xs.take k)) x.args = usesN u (xs.take (k + 1)) := by
  rw [take_step h]; simp [usesN]
theorem usesG_step {u : List Int} {xs : List Asg} {k : Nat} {x : Asg} (h : xs[k]? = some x) : bumpU (usesG u (xs.take k)) x.root.toNat = usesG u (xs.take (k + 1)) := by
  rw [take_step h]; simp [usesG]
theorem bumpL_upTo {es : List Int} : ∀ {u : List Int} {t : Nat}, UpTo u t → UpTo (bumpL u es) (t + es.length) := by
  unfold bumpL
  induction es with
  | nil => intro u t h; exact h
  | cons a r ih => intro u t h; rw [List.foldl_cons]; exact (ih (h.bump _)).mono (by simp; omega)
theorem usesN_upTo {xs : List Nd} (ha : ∀ x ∈ xs, x.args.length ≤ 3) : ∀ {u : List Int} {t : Nat}, UpTo u t → UpTo (usesN u xs) (t + 3 * xs.length) := by
  unfold usesN
  induction xs with
  | nil => intro u t h; exact h
  | cons a r ih =>
    intro u t h
    rw [List.foldl_cons]
    have h1 := ha a (by simp)
    exact (ih (fun x hx => ha x (by simp [hx])) (bumpL_upTo h)).mono (by simp; omega)
theorem usesG_upTo {xs : List Asg} : ∀ {u : List Int} {t : Nat}, UpTo u t → UpTo (usesG u xs) (t + xs.length) := by
  unfold usesG
  induction xs with
  | nil => intro u t h; exact h
  | cons a r ih => intro u t h; rw [List.foldl_cons]; exact (ih (h.bump _)).mono (by simp; omega)
theorem nodeF_len {x : Nd} (h : nodeF x = true) : x.args.length ≤ 3 := by
  unfold nodeF at h
  simp only [Bool.and_eq_true] at h
  have := h.2
  unfold lenB at this
  split at this
  · simp at this; simp [this]
  split at this
  · simp at this; omega
  split at this
  · simp at this; omega
  split at this
  · simp at this; omega
  · cases this
/-- a whole owned row: where entry q lies, and what becomes of the row when it is written -/
theorem OwnInts.upd {lo b n cap : Nat} {w : World} {u : List Int} (h : OwnInts lo w (.slice (some ⟨b, 0, none⟩) n cap) u) (hl : n = u.length) {q : Nat} (hq : q < n) :
    lo ≤ b ∧ b < w.heap.size ∧ w.cell? ⟨b, q, none⟩ = some (.int .i64 (u.getD q 0)) ∧ w.frozen? ⟨b, q, none⟩ = false ∧ ∀ x, I64 x → OwnInts lo (w.setCell ⟨b, q, none⟩ (.int .i64 x)) (.slice (some ⟨b, 0, none⟩) n cap) (u.set q x) := by
  obtain ⟨g, y, e, h1, h2, h3, h4, h5, h6⟩ := h.at hl (k := q) (by omega)
  simp only [Option.some.injEq, Addr.mk.injEq, and_true] at e
  subst e
  refine ⟨h1, h2, ?_, h5, fun x hx => (h6 x hx).1⟩
  rw [h4, List.getD_eq_getElem?_getD, h3]
  rfl
theorem all_one_no {xs : List Int} {k : Nat} (h : k < xs.length) (hp : xs[k] ≠ 1) : xs.all (· == 1) = false := all_no h (by simpa using hp)
set_option maxHeartbeats 1600000 in
theorem indexOnce_any (lo hi : Nat) (u : Value) (xs : List Int) (w : World) (hu : Ints lo hi w u xs) :
    Calls Tryz.prog 139 #[u, .func (.func 118) #[] #[]] w fun e w' => (∃ i : Int, e = .returned (.int .i64 i) ∧ decide (i ≥ 0) = !(xs.all (· == 1))) ∧ w = w' := by
  obtain ⟨a, cap, rfl, HU⟩ := hu.open
  have l1 := HU.le
  have l2 := HU.cap
  clear hu
  go_enter Tryz.func139, Tryz.ntmps139
  go_wp2
  go_loopw [8] (fun i wr => ∃ k : Nat, k ≤ xs.length ∧ i = .int .i64 k ∧ wr = w ∧ (xs.take k).all (· == 1) = true) (fun i _ => xs.length - (intOf i).toNat)
  case atStart => exact ⟨0, by omega, rfl, rfl, rfl⟩
  case round =>
    obtain ⟨k, hk, rfl, rfl, hall⟩ := hrel
    have HA := hid hall
    clear hall
    by_cases hlt : k < xs.length
    · obtain ⟨b, off, rfl, hb1, hb2, hc⟩ := HU.at hlt
      by_cases h1 : xs[k] = 1
      · rw [h1] at hc
        have H1 := hid h1
        clear h1
        go_wp2
        go_roundw
        case rel => exact ⟨k + 1, by omega, by go_num, by trivial, all_step hlt HA.out (by simp [H1.out])⟩
        case measure => simp [intOf]; omega
      · obtain ⟨y, hy⟩ : ∃ y, xs[k] = y := ⟨_, rfl⟩
        have H1 := hid (all_one_no hlt h1)
        rw [hy] at hc h1
        have h2 : (y == 1) = false := beq_eq_false_iff_ne.2 h1
        clear hy
        go_wp2
        go_ret
        exact ⟨⟨_, rfl, by rw [H1.out]; simp⟩, rfl⟩
    · obtain rfl : k = xs.length := by omega
      go_wp2
      go_ret
      have hA := HA.out
      rw [List.take_length] at hA
      exact ⟨⟨_, rfl, by rw [hA]; rfl⟩, rfl⟩
theorem containsOnce_val {b : Bool} (lo hi : Nat) (u : Value) (xs : List Int) (w : World) (hb : xs.all (· == 1) = b) (hu : Ints lo hi w u xs) :
    Calls Tryz.prog 117 #[u, .func (.func 118) #[] #[]] w fun e w' => e = .returned (.bool (!b)) ∧ w = w' := by
  obtain ⟨a, cap, rfl, HU⟩ := hu.open
  have HI := hid hu
  clear hu
  go_enter Tryz.func117, Tryz.ntmps117
  go_wp2_with fail
  refine (indexOnce_any lo hi _ xs _ HI.out).mono ?_
  rintro e w1 ⟨⟨i, rfl, hi2⟩, rfl⟩
  go_wp2
  go_ret
  exact ⟨ret_bool (by first | rfl | (rw [← hb]; exact hi2)), rfl⟩
end Go.Proofs.YtaegmenjgjdimaaGreat
end

section
/- This text proves the program's IsValidProgram. -/
namespace Go.Proofs.YtaegmenjgjdimaaGreat
open Go.RowKit

theorem iValidNode_val {x : Nd} {b : Bool} (h : nodeF x = b) (a : Option Addr) (cap : Nat) (w : World) (hs : x.name.size ≤ maxLen) :
    Calls Tryz.prog 115 #[.agg #[.int .i64 x.op, .string x.name, .int .i64 x.num, .slice a x.args.length cap]] w fun e w' => e = .returned (.bool b) ∧ Ext w w' := h ▸ iValidNode_any x.op x.name x.num a x.args cap w hs
theorem args_at {r : List Int} {i : Int} {j : Nat} {y : Int} (h : argsB r i = true) (hj : r[j]? = some y) : 0 ≤ y ∧ y ≤ i - 1 := by
  unfold argsB at h
  rw [List.all_eq_true] at h
  exact inB_iff.1 (h y (List.mem_of_getElem? hj))
theorem Ints.openS {lo hi : Nat} {w : World} {u : Value} {xs : List Int} (h : Ints lo hi w u xs) : ∃ a c, u = .slice a xs.length c ∧ Ints lo hi w (.slice a xs.length c) xs ∧ IntsAt lo hi w a c xs := by
  obtain ⟨a, c, rfl, H⟩ := h.open
  exact ⟨a, c, rfl, h, H⟩
/-- node k, its cells in a world that w grew to, its arguments as w has them -/
theorem NdsAt.atW {lo hi : Nat} {w : World} {a : Option Addr} {cap : Nat} {xs : List Nd} (h : NdsAt lo hi w a cap xs) {k : Nat} (hk : k < xs.length) {wr : World} (hx : Ext w wr) (hh : hi ≤ w.heap.size) :
    ∃ b off op s n sa sc r, a = some ⟨b, off, none⟩ ∧ b < w.heap.size ∧ b < wr.heap.size ∧ xs[k]? = some ⟨op, s, n, r⟩ ∧ I64 op ∧ I64 n ∧ Ints lo hi w (.slice sa r.length sc) r ∧ IntsAt lo hi w sa sc r ∧ wr.cell? ⟨b, off + k * 4, none⟩ = some (.int .i64 op) ∧ wr.cell? ⟨b, off + k * 4 + 1, none⟩ = some (.string s) ∧ wr.cell? ⟨b, off + k * 4 + 2, none⟩ = some (.int .i64 n) ∧ wr.cell? ⟨b, off + k * 4 + 3, none⟩ = some (.slice sa r.length sc) := by
  obtain ⟨⟨i1, i2⟩, b, off, u, e, h1, h2, c0, c1, c2, c3, hu⟩ := h.cell k xs[k] (by simp [hk])
  have hz := hx.size
  obtain ⟨sa, sc, rfl, hI, HI⟩ := hu.openS
  refine ⟨b, off, xs[k].op, xs[k].name, xs[k].num, sa, sc, xs[k].args, e, by omega, by omega, by simp [hk], i1, i2, hI, HI, ?_, ?_, ?_, ?_⟩
  · exact (hx.cells.1 b _ (by omega)).trans c0
  · exact (hx.cells.1 b _ (by omega)).trans c1
  · exact (hx.cells.1 b _ (by omega)).trans c2
  · exact (hx.cells.1 b _ (by omega)).trans c3
/-- entry k of a slice of numbers, in a world that w grew to -/
theorem IntsAt.atE {lo hi : Nat} {w : World} {a : Option Addr} {cap : Nat} {xs : List Int} (h : IntsAt lo hi w a cap xs) {k : Nat} (hk : k < xs.length) {wr : World} (hx : Ext w wr) (hh : hi ≤ w.heap.size) :
    ∃ b off y, a = some ⟨b, off, none⟩ ∧ b < wr.heap.size ∧ xs[k]? = some y ∧ I64 y ∧ wr.cell? ⟨b, off + k, none⟩ = some (.int .i64 y) := by
  obtain ⟨b, off, e, h1, h2, c0⟩ := h.at hk
  have hz := hx.size
  exact ⟨b, off, xs[k], e, by omega, by simp [hk], h.i64 hk, (hx.cells.1 b _ (by omega)).trans c0⟩
/-- store one more use into an owned row of uses -/
theorem OwnInts.bump {lo b n cap t : Nat} {w : World} {u : List Int} (h : OwnInts lo w (.slice (some ⟨b, 0, none⟩) n cap) u) (hl : n = u.length) {q : Nat} (hq : q < n) (hu : UpTo u t) (ht : t ≤ 1000000000) :
    ∃ x : Int, 0 ≤ x ∧ x ≤ 1000000000 ∧ b < w.heap.size ∧ lo ≤ b ∧ w.cell? ⟨b, q, none⟩ = some (.int .i64 x) ∧ w.frozen? ⟨b, q, none⟩ = false ∧ OwnInts lo (w.setCell ⟨b, q, none⟩ (.int .i64 (x + 1))) (.slice (some ⟨b, 0, none⟩) n cap) (bumpU u q) := by
  obtain ⟨h1, h2, h3, h4, h5⟩ := h.upd hl hq
  have := hu q
  exact ⟨_, this.1, by omega, h2, h1, h3, h4, h5 _ ⟨by omega, by omega⟩⟩
set_option maxRecDepth 20000 in
set_option maxHeartbeats 12800000 in
theorem iIsValidProgram_any (lo hi : Nat) (v : Value) (p : Prg) (w : World) (hv : p.R lo hi w v) (hh : hi ≤ w.heap.size) (hb : p.bd) (hgl : p.gs.length ≤ 1048576) :
    Calls Tryz.prog 87 #[v] w fun e w' => e = .returned (.bool p.okB) ∧ Ext w w' := by
  obtain ⟨i0, hi0, hz0, hz1, hz2⟩ := info_parts info_int
  obtain ⟨a1, c1, a2, c2, rfl, HN, HG⟩ := hv.form
  have l1 := HN.le
  have l2 := HN.cap
  have l3 := HG.le
  have l4 := HG.cap
  have HBD := hid hb
  clear hv hb
  by_cases hlen : p.ns.length ≤ 60
  case neg =>
    have e : p.okB = false := by unfold Prg.okB; rw [decide_eq_false hlen]; simp
    rw [e]
    clear e
    go_enter Tryz.func87, Tryz.ntmps87
    go_wp2
    go_ret
    exact ⟨rfl, (by repeat (with_reducible (first | assumption | exact Ext.refl _ | apply Ext.alloc | apply Ext.drew | apply Ext.drewN)))⟩
  have bB := Bx.made w #[.slice a1 p.ns.length c1, .slice a2 p.gs.length c2] 26
  have x0 : Ext w (w.alloc (.cells #[.slice a1 p.ns.length c1, .slice a2 p.gs.length c2] 26)) := (by repeat (with_reducible (first | assumption | exact Ext.refl _ | apply Ext.alloc | apply Ext.drew | apply Ext.drewN)))
  go_enter Tryz.func87, Tryz.ntmps87
  go_wp2_with (at_make; refine wpList_make_full _ rfl _ _ 29 rfl (w.heap.size + 1) 3 i0 (.int .i64 0) 1 Tryz.underlying29 hi0 hz0 hz1 _ _ _ _ p.ns.length rfl rfl rfl rfl (by rw [hz2]; omega) (by unfold maxLen; omega) (by simp) ?_)
  intro w1 hown hgrow
  rw [made_ints] at hown
  have hs1 := World.size_alloc w (.cells #[.slice a1 p.ns.length c1, .slice a2 p.gs.length c2] 26)
  have x1 : Ext (w.alloc (.cells #[.slice a1 p.ns.length c1, .slice a2 p.gs.length c2] 26)) w1 := (Ext.refl _).grown hgrow (fun k h => by cases h)
  have HO := hid (show OwnInts (w.heap.size + 1) w1 (.slice (some ⟨w.heap.size + 1, 0, none⟩) p.ns.length p.ns.length) (List.replicate p.ns.length 0) from ⟨by simpa using hown, fun x hx => by rw [(List.mem_replicate.1 hx).2]; exact ⟨by decide, by decide⟩⟩)
  have X1 := hid (x0.trans x1)
  have bB1' := bB.ext x1
  have bB1 := hid bB1'
  have q := bB1'.lt
  have q0 := bB1'.cell 0
  simp only [List.getElem?_toArray, List.getElem?_cons_zero, List.getElem?_cons_succ] at q0
  have q1 := bB1'.cell 1
  simp only [List.getElem?_toArray, List.getElem?_cons_zero, List.getElem?_cons_succ] at q1
  clear bB1'
  clear hown hgrow hi0 hz0 hz1 hz2 x1 x0 bB hs1
  go_wp2
  go_loopw [21] (fun i wr => ∃ k : Nat, k ≤ p.ns.length ∧ i = .int .i64 k ∧ (∀ j, j < k → p.ndB j = true) ∧ Ext w wr ∧ Bx wr w.heap.size #[.slice a1 p.ns.length c1, .slice a2 p.gs.length c2] 26 ∧ OwnInts (w.heap.size + 1) wr (.slice (some ⟨w.heap.size + 1, 0, none⟩) p.ns.length p.ns.length) (usesN (List.replicate p.ns.length 0) (p.ns.take k)) ∧ UpTo (usesN (List.replicate p.ns.length 0) (p.ns.take k)) (3 * k)) (fun i _ => p.ns.length - (intOf i).toNat)
  case atStart => exact ⟨0, by omega, rfl, fun j h => by omega, X1.out, bB1.out, HO.out, UpTo.zero _⟩
  case round =>
    clear HO X1 bB1 q q0 q1
    obtain ⟨k, hk, rfl, hall, hx, hB, hO, hU⟩ := hrel
    have HA := hid hall
    have HX := hid hx
    have HB := hid hB
    have HO := hid hO
    have HU := hid hU
    by_cases hlt : k < p.ns.length
    · obtain ⟨b, off, op, s, num, sa, sc, ra, rfl, hb1, hbw, hget, io, inn, hI, HI, y0, y1, y2, y3⟩ := HN.atW hlt hx hh
      have HII := hid (hI.ext hh hx)
      have li1 := HI.le
      have li2 := HI.cap
      have HG1 := hid hget
      have hsz := hid (HBD.out.1 _ (List.mem_of_getElem? hget))
      have zx := hx.size
      have bQ := Bx.made wr #[.int .i64 op, .string s, .int .i64 num, .slice sa ra.length sc] 79
      have q0 : Ext wr (wr.alloc (.cells #[.int .i64 op, .string s, .int .i64 num, .slice sa ra.length sc] 79)) := (by repeat (with_reducible (first | assumption | exact Ext.refl _ | apply Ext.alloc | apply Ext.drew | apply Ext.drewN)))
      clear hget hall hx hB hO hU hI
      obtain ⟨bn, hbn⟩ : ∃ b, nodeF ⟨op, s, num, ra⟩ = b := ⟨_, rfl⟩
      obtain ⟨ba, hba⟩ : ∃ b, argsB ra k = b := ⟨_, rfl⟩
      have HBN := hid hbn
      have HBA := hid hba
      have HND : Hid (p.ndB k = (ba && bn)) := hid (by rw [Prg.ndB_at HG1.out, hba, hbn])
      clear hbn hba
      go_wp2_with fail
      refine (iValidNode_val HBN.out sa sc _ hsz.out).mono ?_
      rintro e w2 ⟨rfl, x2⟩
      have X2 := q0.trans x2
      have zx2 := X2.size
      have bQ2 := bQ.ext x2
      have HII2 := hid (HII.out.ext (by omega) X2)
      have q := bQ2.lt
      have q0 := bQ2.cell 0
      simp only [List.getElem?_toArray, List.getElem?_cons_zero, List.getElem?_cons_succ] at q0
      have q1 := bQ2.cell 1
      simp only [List.getElem?_toArray, List.getElem?_cons_zero, List.getElem?_cons_succ] at q1
      have q2 := bQ2.cell 2
      simp only [List.getElem?_toArray, List.getElem?_cons_zero, List.getElem?_cons_succ] at q2
      have q3 := bQ2.cell 3
      simp only [List.getElem?_toArray, List.getElem?_cons_zero, List.getElem?_cons_succ] at q3
      clear x2 q0 bQ
      have HBQ := hid bQ2
      clear bQ2
      cases bn
      · go_wp2
        go_ret
        refine ⟨ret_bool ?_, HX.out.trans X2⟩
        unfold Prg.okB
        rw [rng_no hlt (by rw [HND.out]; simp)]
        simp
      go_wp2_with fail
      refine (allWithin_val HBA.out _ _ _ _ HII2.out).mono ?_
      rintro e w3 ⟨rfl, rfl⟩
      cases ba
      · go_wp2
        go_ret
        refine ⟨ret_bool ?_, HX.out.trans X2⟩
        unfold Prg.okB
        rw [rng_no hlt (by rw [HND.out]; simp)]
        simp
      have HXX := hid (HX.out.trans X2)
      have HB2 := hid (HB.out.ext X2)
      have HO2 := hid (HO.out.ext X2)
      have lar : Hid (ra.length ≤ 3) := hid (nodeF_len HBN.out)
      clear HB HO X2
      go_wp2
      go_loopw [40] (fun i wq => ∃ j : Nat, j ≤ ra.length ∧ i = .int .i64 j ∧ Ext w wq ∧ Bx wq w.heap.size #[.slice (some ⟨b, off, none⟩) p.ns.length c1, .slice a2 p.gs.length c2] 26 ∧ OwnInts (w.heap.size + 1) wq (.slice (some ⟨w.heap.size + 1, 0, none⟩) p.ns.length p.ns.length) (bumpL (usesN (List.replicate p.ns.length 0) (p.ns.take k)) (ra.take j)) ∧ UpTo (bumpL (usesN (List.replicate p.ns.length 0) (p.ns.take k)) (ra.take j)) (3 * k + j)) (fun i _ => ra.length - (intOf i).toNat)
      case atStart => exact ⟨0, by omega, rfl, HXX.out, HB2.out, HO2.out, HU.out⟩
      case round =>
        clear HB2 HO2 HXX
        obtain ⟨j, hj, rfl, hx, hB, hO, hU⟩ := hrel
        have HX := hid hx
        have HB := hid hB
        have HO := hid hO
        have HU := hid hU
        by_cases hlj : j < ra.length
        · obtain ⟨b3, off3, y, rfl, hb3, hy, _, hc3⟩ := HI.atE hlj hx hh
          obtain ⟨hy1, hy2⟩ := args_at HBA.out hy
          obtain ⟨q, rfl⟩ : ∃ q : Nat, y = q := ⟨y.toNat, by omega⟩
          have hq : q < p.ns.length := by omega
          have hjl := lar.out
          obtain ⟨x, hx1, hx2, hx3, hx4, hx5, hx6, hx7⟩ := hO.bump (by rw [bumpL_len, usesN_len, List.length_replicate]) hq hU (by omega)
          have HY := hid hy
          have HS := hid hx7
          clear hx hB hO hU hy hx7 hjl
          go_wp2
          go_roundw
          case rel =>
            refine ⟨j + 1, by omega, by go_num, ?_, ?_, ?_, ?_⟩
            · have hx := HX.out
              exact (by repeat (first | with_reducible assumption | with_reducible exact Ext.refl _ | with_reducible apply Ext.alloc | with_reducible apply Ext.drew | with_reducible apply Ext.drewN | (with_reducible refine Ext.setCell ?_ (by simp; omega) _) | (with_reducible refine Ext.setCell ?_ (by simp) _)))
            · exact HB.out.other (by simp) _
            · rw [← bumpL_step HY.out, Int.toNat_natCast]
              exact HS.out
            · rw [← bumpL_step HY.out]
              exact (HU.out.bump _).mono (by omega)
          case measure => simp [intOf]; omega
        · obtain rfl : j = ra.length := by omega
          rw [List.take_length] at hO hU
          rw [usesN_step HG1.out] at hO hU
          have HO := hid hO
          have HU := hid hU
          have hjl := lar.out
          clear hB hO hU hx
          go_wp2
          go_roundw
          case rel =>
            refine ⟨k + 1, by omega, by go_num, fun i hi => ?_, HX.out, HB.out, HO.out, HU.out.mono (by omega)⟩
            by_cases e : i = k
            · subst e; exact HND.out
            · exact HA.out i (by omega)
          case measure => simp [intOf]; omega
    · obtain rfl : k = p.ns.length := by omega
      rw [List.take_length] at hO hU
      have HO := hid (show OwnInts (w.heap.size + 1) wr (.slice (some ⟨w.heap.size + 1, 0, none⟩) p.ns.length p.ns.length) p.usesA from hO)
      have HU := hid (show UpTo p.usesA (3 * p.ns.length) from hU)
      have q := hB.lt
      have q0 := hB.cell 0
      simp only [List.getElem?_toArray, List.getElem?_cons_zero, List.getElem?_cons_succ] at q0
      have q1 := hB.cell 1
      simp only [List.getElem?_toArray, List.getElem?_cons_zero, List.getElem?_cons_succ] at q1
      clear hO hU hall hx hB
      go_wp2
      go_loopw [55] (fun i wr => ∃ k : Nat, k ≤ p.gs.length ∧ i = .int .i64 k ∧ (∀ j, j < k → p.agB j = true) ∧ Ext w wr ∧ Bx wr w.heap.size #[.slice a1 p.ns.length c1, .slice a2 p.gs.length c2] 26 ∧ OwnInts (w.heap.size + 1) wr (.slice (some ⟨w.heap.size + 1, 0, none⟩) p.ns.length p.ns.length) (usesG p.usesA (p.gs.take k)) ∧ UpTo (usesG p.usesA (p.gs.take k)) (3 * p.ns.length + k)) (fun i _ => p.gs.length - (intOf i).toNat)
      case atStart => exact ⟨0, by omega, rfl, fun j h => by omega, HX.out, HB.out, HO.out, HU.out⟩
      case round =>
        clear HO HX HB HU q q0 q1
        obtain ⟨k, hk, rfl, hall, hx, hB, hO, hU⟩ := hrel
        have HA2 := hid hall
        have HX := hid hx
        have HB := hid hB
        have HO := hid hO
        have HU := hid hU
        by_cases hlt : k < p.gs.length
        · obtain ⟨b, off, s, rt, rfl, hb1, hbw, hdrop, hget, ir, y0, y1⟩ := HG.at hlt hx hh
          have HG1 := hid hget
          have hsz := hid (HBD.out.2 _ (List.mem_of_getElem? hget))
          have zx := hx.size
          have bQ := Bx.made wr #[.string s, .int .i64 rt] 74
          have q0 : Ext wr (wr.alloc (.cells #[.string s, .int .i64 rt] 74)) := (by repeat (with_reducible (first | assumption | exact Ext.refl _ | apply Ext.alloc | apply Ext.drew | apply Ext.drewN)))
          clear hdrop hget hall hx hB hO hU
          obtain ⟨bn, hbn⟩ : ∃ b, identB s = b := ⟨_, rfl⟩
          obtain ⟨ba, hba⟩ : ∃ b, inB rt 0 ((p.ns.length : Int) - 1) = b := ⟨_, rfl⟩
          have HBN := hid hbn
          have HBA := hid hba
          have HND : Hid (p.agB k = (bn && ba)) := hid (by rw [Prg.agB_at HG1.out, hba, hbn])
          clear hbn hba
          go_wp2_with fail
          refine (iIsIdentifier_val HBN.out _ hsz.out).mono ?_
          rintro e w2 ⟨rfl, x2⟩
          have X2 := q0.trans x2
          have zx2 := X2.size
          have bQ2 := bQ.ext x2
          have HBw := hid (HB.out.ext X2)
          have HBw' := HBw.out
          have q := bQ2.lt
          have q0 := bQ2.cell 0
          simp only [List.getElem?_toArray, List.getElem?_cons_zero, List.getElem?_cons_succ] at q0
          have q1 := bQ2.cell 1
          simp only [List.getElem?_toArray, List.getElem?_cons_zero, List.getElem?_cons_succ] at q1
          have d := HBw'.lt
          have d0 := HBw'.cell 0
          simp only [List.getElem?_toArray, List.getElem?_cons_zero, List.getElem?_cons_succ] at d0
          have d1 := HBw'.cell 1
          simp only [List.getElem?_toArray, List.getElem?_cons_zero, List.getElem?_cons_succ] at d1
          have HBQ := hid bQ2
          clear x2 q0 bQ bQ2 HBw'
          cases bn
          · go_wp2
            go_ret
            refine ⟨ret_bool ?_, HX.out.trans X2⟩
            unfold Prg.okB
            rw [rng_no (p := p.agB) hlt (by rw [HND.out]; simp)]
            simp
          go_wp2_with fail
          refine (within_val HBA.out _).mono ?_
          rintro e w3 ⟨rfl, rfl⟩
          cases ba
          · go_wp2
            go_ret
            refine ⟨ret_bool ?_, HX.out.trans X2⟩
            unfold Prg.okB
            rw [rng_no (p := p.agB) hlt (by rw [HND.out]; simp)]
            simp
          have hO := HO.out.ext X2
          have hba := inB_iff.1 HBA.out
          obtain ⟨r, rfl⟩ : ∃ r : Nat, rt = r := ⟨rt.toNat, by omega⟩
          have hr : r < p.ns.length := by omega
          obtain ⟨x, hx1, hx2, hx3, hx4, hx5, hx6, hx7⟩ := hO.bump (by rw [usesG_len, Prg.usesA_len]) hr HU.out (by omega)
          have HS := hid hx7
          have HXX := hid (HX.out.trans X2)
          clear hO HO HX hx7 hba
          go_wp2
          go_roundw
          case rel =>
            refine ⟨k + 1, by omega, by go_num, fun i hi => ?_, ?_, ?_, ?_, ?_⟩
            · by_cases e : i = k
              · subst e; exact HND.out
              · exact HA2.out i (by omega)
            · have hx := HXX.out
              exact (by repeat (first | with_reducible assumption | with_reducible exact Ext.refl _ | with_reducible apply Ext.alloc | with_reducible apply Ext.drew | with_reducible apply Ext.drewN | (with_reducible refine Ext.setCell ?_ (by simp; omega) _) | (with_reducible refine Ext.setCell ?_ (by simp) _)))
            · exact HBw.out.other (by simp) _
            · rw [← usesG_step HG1.out, Int.toNat_natCast]
              exact HS.out
            · rw [← usesG_step HG1.out]
              exact (HU.out.bump _).mono (by omega)
          case measure => simp [intOf]; omega
        · obtain rfl : k = p.gs.length := by omega
          rw [List.take_length] at hO
          have HO := hid (show OwnInts (w.heap.size + 1) wr (.slice (some ⟨w.heap.size + 1, 0, none⟩) p.ns.length p.ns.length) p.uses from hO)
          have hul : p.uses.length = p.ns.length := by unfold Prg.uses; rw [usesG_len, Prg.usesA_len]
          have hok : p.okB = p.uses.all (· == 1) := by
            unfold Prg.okB
            rw [rng_all HA.out, rng_all HA2.out, decide_eq_true hlen]
            simp
          have hI := HO.out.ints
          have HOK := hid hok
          clear hO hU hall hx hB HO hok
          have HI := hid hI
          clear hI
          go_wp2_with fail
          refine (containsOnce_val _ _ _ p.uses _ rfl HI.out).mono ?_
          rintro e w3 ⟨rfl, rfl⟩
          go_wp2
          go_ret
          exact ⟨ret_bool (by rw [HOK.out]), HX.out⟩
end Go.Proofs.YtaegmenjgjdimaaGreat
end

section
/- This text proves the reference's IsValidProgram. -/
namespace Go.Proofs.YtaegmenjgjdimaaGreat
open Go.RowKit

theorem sNode_val {op num i : Int} {s : ByteArray} {r : List Int} {b : Bool} (h : (argsB r i && nodeF ⟨op, s, num, r⟩) = b) (lo hi : Nat) (u : Value) (w : World) (hu : Ints lo hi w u r) (hh : hi ≤ w.heap.size) (hs : s.size ≤ maxLen) (hi1 : 0 ≤ i) (hi2 : i ≤ 10000000) :
    Calls Tryz.prog 108 #[.agg #[.int .i64 op, .string s, .int .i64 num, u], .int .i64 i] w fun e w' => e = .returned (.bool b) ∧ Ext w w' := h ▸ sNode_any lo hi op s num u r i w hu hh hs hi1 hi2
set_option maxRecDepth 20000 in
set_option maxHeartbeats 12800000 in
theorem sUses_any (lo hi : Nat) (v : Value) (p : Prg) (w : World) (hv : p.R lo hi w v) (hh : hi ≤ w.heap.size) (hnl : p.ns.length ≤ 1048576) (hgl : p.gs.length ≤ 1048576) (hnd : ∀ k, k < p.ns.length → p.ndB k = true) (hag : ∀ k, k < p.gs.length → p.agB k = true) :
    Calls Tryz.prog 110 #[v] w fun e w' => ∃ a c, e = .returned (.slice a p.ns.length c) ∧ OwnInts w.heap.size w' (.slice a p.ns.length c) p.uses ∧ Ext w w' := by
  obtain ⟨i0, hi0, hz0, hz1, hz2⟩ := info_parts info_int
  obtain ⟨a1, c1, a2, c2, rfl, HN, HG⟩ := hv.form
  have l1 := HN.le
  have l2 := HN.cap
  have l3 := HG.le
  have l4 := HG.cap
  have HND := hid hnd
  have HAG := hid hag
  clear hv hnd hag
  have bB := Bx.made w #[.slice a1 p.ns.length c1, .slice a2 p.gs.length c2] 26
  have x0 : Ext w (w.alloc (.cells #[.slice a1 p.ns.length c1, .slice a2 p.gs.length c2] 26)) := (by repeat (with_reducible (first | assumption | exact Ext.refl _ | apply Ext.alloc | apply Ext.drew | apply Ext.drewN)))
  go_enter Tryz.func110, Tryz.ntmps110
  go_wp2_with (at_make; refine wpList_make_full _ rfl _ _ 29 rfl (w.heap.size + 1) 3 i0 (.int .i64 0) 1 Tryz.underlying29 hi0 hz0 hz1 _ _ _ _ p.ns.length rfl rfl rfl rfl (by rw [hz2]; omega) (by unfold maxLen; omega) (by simp) ?_)
  intro w1 hown hgrow
  rw [made_ints] at hown
  have hs1 := World.size_alloc w (.cells #[.slice a1 p.ns.length c1, .slice a2 p.gs.length c2] 26)
  have x1 : Ext (w.alloc (.cells #[.slice a1 p.ns.length c1, .slice a2 p.gs.length c2] 26)) w1 := (Ext.refl _).grown hgrow (fun k h => by cases h)
  have HO := hid (show OwnInts (w.heap.size + 1) w1 (.slice (some ⟨w.heap.size + 1, 0, none⟩) p.ns.length p.ns.length) (List.replicate p.ns.length 0) from ⟨by simpa using hown, fun x hx => by rw [(List.mem_replicate.1 hx).2]; exact ⟨by decide, by decide⟩⟩)
  have X1 := hid (x0.trans x1)
  have bB1' := bB.ext x1
  have bB1 := hid bB1'
  have q := bB1'.lt
  have q0 := bB1'.cell 0
  simp only [List.getElem?_toArray, List.getElem?_cons_zero, List.getElem?_cons_succ] at q0
  have q1 := bB1'.cell 1
  simp only [List.getElem?_toArray, List.getElem?_cons_zero, List.getElem?_cons_succ] at q1
  clear bB1'
  clear hown hgrow hi0 hz0 hz1 hz2 x1 x0 bB hs1
  go_wp2
  go_loopw [17] (fun i wr => ∃ k : Nat, k ≤ p.ns.length ∧ i = .int .i64 k ∧ Ext w wr ∧ Bx wr w.heap.size #[.slice a1 p.ns.length c1, .slice a2 p.gs.length c2] 26 ∧ OwnInts (w.heap.size + 1) wr (.slice (some ⟨w.heap.size + 1, 0, none⟩) p.ns.length p.ns.length) (usesN (List.replicate p.ns.length 0) (p.ns.take k)) ∧ UpTo (usesN (List.replicate p.ns.length 0) (p.ns.take k)) (3 * k)) (fun i _ => p.ns.length - (intOf i).toNat)
  case atStart => exact ⟨0, by omega, rfl, X1.out, bB1.out, HO.out, UpTo.zero _⟩
  case round =>
    clear HO X1 bB1 q q0 q1
    obtain ⟨k, hk, rfl, hx, hB, hO, hU⟩ := hrel
    have HX := hid hx
    have HB := hid hB
    have HO := hid hO
    have HU := hid hU
    by_cases hlt : k < p.ns.length
    · obtain ⟨b, off, op, s, num, sa, sc, ra, rfl, hb1, hbw, hget, io, inn, hI, HI, y0, y1, y2, y3⟩ := HN.atW hlt hx hh
      have li1 := HI.le
      have li2 := HI.cap
      have HG1 := hid hget
      have hb9 := HND.out k hlt
      rw [Prg.ndB_at hget, Bool.and_eq_true] at hb9
      have HBA := hid hb9.1
      have lar : Hid (ra.length ≤ 3) := hid (nodeF_len hb9.2)
      have q0 : Ext wr (wr.alloc (.cells #[.int .i64 op, .string s, .int .i64 num, .slice sa ra.length sc] 79)) := (by repeat (with_reducible (first | assumption | exact Ext.refl _ | apply Ext.alloc | apply Ext.drew | apply Ext.drewN)))
      have HXX := hid (hx.trans q0)
      have HB2 := hid (hB.ext q0)
      have HO2 := hid (hO.ext q0)
      clear hget hx hB hO hU hI q0 hb9 HB HO HX
      go_wp2
      go_loopw [24] (fun i wq => ∃ j : Nat, j ≤ ra.length ∧ i = .int .i64 j ∧ Ext w wq ∧ Bx wq w.heap.size #[.slice (some ⟨b, off, none⟩) p.ns.length c1, .slice a2 p.gs.length c2] 26 ∧ OwnInts (w.heap.size + 1) wq (.slice (some ⟨w.heap.size + 1, 0, none⟩) p.ns.length p.ns.length) (bumpL (usesN (List.replicate p.ns.length 0) (p.ns.take k)) (ra.take j)) ∧ UpTo (bumpL (usesN (List.replicate p.ns.length 0) (p.ns.take k)) (ra.take j)) (3 * k + j)) (fun i _ => ra.length - (intOf i).toNat)
      case atStart => exact ⟨0, by omega, rfl, HXX.out, HB2.out, HO2.out, HU.out⟩
      case round =>
        clear HB2 HO2 HXX
        obtain ⟨j, hj, rfl, hx, hB, hO, hU⟩ := hrel
        have HX := hid hx
        have HB := hid hB
        have HO := hid hO
        have HU := hid hU
        by_cases hlj : j < ra.length
        · obtain ⟨b3, off3, y, rfl, hb3, hy, _, hc3⟩ := HI.atE hlj hx hh
          obtain ⟨hy1, hy2⟩ := args_at HBA.out hy
          obtain ⟨q, rfl⟩ : ∃ q : Nat, y = q := ⟨y.toNat, by omega⟩
          have hq : q < p.ns.length := by omega
          have hjl := lar.out
          obtain ⟨x, hx1, hx2, hx3, hx4, hx5, hx6, hx7⟩ := hO.bump (by rw [bumpL_len, usesN_len, List.length_replicate]) hq hU (by omega)
          have HY := hid hy
          have HS := hid hx7
          clear hx hB hO hU hy hx7 hjl
          go_wp2
          go_roundw
          case rel =>
            refine ⟨j + 1, by omega, by go_num, ?_, ?_, ?_, ?_⟩
            · have hx := HX.out
              exact (by repeat (first | with_reducible assumption | with_reducible exact Ext.refl _ | with_reducible apply Ext.alloc | with_reducible apply Ext.drew | with_reducible apply Ext.drewN | (with_reducible refine Ext.setCell ?_ (by simp; omega) _) | (with_reducible refine Ext.setCell ?_ (by simp) _)))
            · exact HB.out.other (by simp) _
            · rw [← bumpL_step HY.out, Int.toNat_natCast]
              exact HS.out
            · rw [← bumpL_step HY.out]
              exact (HU.out.bump _).mono (by omega)
          case measure => simp [intOf]; omega
        · obtain rfl : j = ra.length := by omega
          rw [List.take_length] at hO hU
          rw [usesN_step HG1.out] at hO hU
          have HO := hid hO
          have HU := hid hU
          have hjl := lar.out
          clear hB hO hU hx
          go_wp2
          go_roundw
          case rel => exact ⟨k + 1, by omega, by go_num, HX.out, HB.out, HO.out, HU.out.mono (by omega)⟩
          case measure => simp [intOf]; omega
    · obtain rfl : k = p.ns.length := by omega
      rw [List.take_length] at hO hU
      have HO := hid (show OwnInts (w.heap.size + 1) wr (.slice (some ⟨w.heap.size + 1, 0, none⟩) p.ns.length p.ns.length) p.usesA from hO)
      have HU := hid (show UpTo p.usesA (3 * p.ns.length) from hU)
      have q := hB.lt
      have q0 := hB.cell 0
      simp only [List.getElem?_toArray, List.getElem?_cons_zero, List.getElem?_cons_succ] at q0
      have q1 := hB.cell 1
      simp only [List.getElem?_toArray, List.getElem?_cons_zero, List.getElem?_cons_succ] at q1
      clear hO hU hx hB
      go_wp2
      go_loopw [39] (fun i wr => ∃ k : Nat, k ≤ p.gs.length ∧ i = .int .i64 k ∧ Ext w wr ∧ OwnInts (w.heap.size + 1) wr (.slice (some ⟨w.heap.size + 1, 0, none⟩) p.ns.length p.ns.length) (usesG p.usesA (p.gs.take k)) ∧ UpTo (usesG p.usesA (p.gs.take k)) (3 * p.ns.length + k)) (fun i _ => p.gs.length - (intOf i).toNat)
      case atStart => exact ⟨0, by omega, rfl, HX.out, HO.out, HU.out⟩
      case round =>
        clear HO HX HB HU q q0 q1
        obtain ⟨k, hk, rfl, hx, hO, hU⟩ := hrel
        have HX := hid hx
        have HO := hid hO
        have HU := hid hU
        by_cases hlt : k < p.gs.length
        · obtain ⟨b, off, s, rt, rfl, hb1, hbw, hdrop, hget, ir, y0, y1⟩ := HG.at hlt hx hh
          have HG1 := hid hget
          have hb9 := HAG.out k hlt
          rw [Prg.agB_at hget, Bool.and_eq_true] at hb9
          have hba : 0 ≤ rt ∧ rt ≤ (p.ns.length : Int) - 1 := inB_iff.1 hb9.2
          have q0 : Ext wr (wr.alloc (.cells #[.string s, .int .i64 rt] 74)) := (by repeat (with_reducible (first | assumption | exact Ext.refl _ | apply Ext.alloc | apply Ext.drew | apply Ext.drewN)))
          have hO2 := hO.ext q0
          have HXX := hid (hx.trans q0)
          have zx := q0.size
          obtain ⟨r, rfl⟩ : ∃ r : Nat, rt = r := ⟨rt.toNat, by omega⟩
          have hr : r < p.ns.length := by omega
          obtain ⟨x, hx1, hx2, hx3, hx4, hx5, hx6, hx7⟩ := hO2.bump (by rw [usesG_len, Prg.usesA_len]) hr HU.out (by omega)
          have HS := hid hx7
          have hx3' : w.heap.size < wr.heap.size := by have := hO.lt _ rfl; omega
          clear hO hO2 HO HX hx7 hba hb9 hdrop hget hx hU q0
          go_wp2
          go_roundw
          case rel =>
            refine ⟨k + 1, by omega, by go_num, ?_, ?_, ?_⟩
            · have hx := HXX.out
              exact (by repeat (first | with_reducible assumption | with_reducible exact Ext.refl _ | with_reducible apply Ext.alloc | with_reducible apply Ext.drew | with_reducible apply Ext.drewN | (with_reducible refine Ext.setCell ?_ (by simp; omega) _) | (with_reducible refine Ext.setCell ?_ (by simp) _)))
            · rw [← usesG_step HG1.out, Int.toNat_natCast]
              exact HS.out
            · rw [← usesG_step HG1.out]
              exact (HU.out.bump _).mono (by omega)
          case measure => simp [intOf]; omega
        · obtain rfl : k = p.gs.length := by omega
          rw [List.take_length] at hO
          have HO := hid (show OwnInts (w.heap.size + 1) wr (.slice (some ⟨w.heap.size + 1, 0, none⟩) p.ns.length p.ns.length) p.uses from hO)
          clear hO hU hx
          go_wp2
          go_ret
          exact ⟨_, _, rfl, HO.out.low (by omega), HX.out⟩
set_option maxRecDepth 20000 in
set_option maxHeartbeats 12800000 in
theorem sIsValidProgram_any (lo hi : Nat) (v : Value) (p : Prg) (w : World) (hv : p.R lo hi w v) (hh : hi ≤ w.heap.size) (hb : p.bd) (hnl : p.ns.length ≤ 1048576) (hgl : p.gs.length ≤ 1048576) :
    Calls Tryz.prog 76 #[v] w fun e w' => e = .returned (.bool p.okB) ∧ Ext w w' := by
  have HV := hid hv
  obtain ⟨a1, c1, a2, c2, rfl, HN, HG⟩ := hv.form
  have l1 := HN.le
  have l2 := HN.cap
  have l3 := HG.le
  have l4 := HG.cap
  have HBD := hid hb
  clear hv hb
  have bB := hid (Bx.made w #[.slice a1 p.ns.length c1, .slice a2 p.gs.length c2] 26)
  have X1 := hid (show Ext w (w.alloc (.cells #[.slice a1 p.ns.length c1, .slice a2 p.gs.length c2] 26)) from (by repeat (with_reducible (first | assumption | exact Ext.refl _ | apply Ext.alloc | apply Ext.drew | apply Ext.drewN))))
  go_enter Tryz.func76, Tryz.ntmps76
  go_wp2
  go_loopw [12] (fun i wr => ∃ k : Nat, k ≤ p.ns.length ∧ i = .int .i64 k ∧ (∀ j, j < k → p.ndB j = true) ∧ Ext w wr ∧ Bx wr w.heap.size #[.slice a1 p.ns.length c1, .slice a2 p.gs.length c2] 26) (fun i _ => p.ns.length - (intOf i).toNat)
  case atStart => exact ⟨0, by omega, rfl, fun j h => by omega, X1.out, bB.out⟩
  case round =>
    clear X1 bB
    obtain ⟨k, hk, rfl, hall, hx, hB⟩ := hrel
    have HA := hid hall
    have HX := hid hx
    have HB := hid hB
    by_cases hlt : k < p.ns.length
    · obtain ⟨b, off, op, s, num, sa, sc, ra, rfl, hb1, hbw, hget, io, inn, hI, HI, y0, y1, y2, y3⟩ := HN.atW hlt hx hh
      have HII := hid (hI.ext hh hx)
      have li1 := HI.le
      have li2 := HI.cap
      have HG1 := hid hget
      have hsz := hid (HBD.out.1 _ (List.mem_of_getElem? hget))
      have zx := hx.size
      have q0 : Ext wr (wr.alloc (.cells #[.int .i64 op, .string s, .int .i64 num, .slice sa ra.length sc] 79)) := (by repeat (with_reducible (first | assumption | exact Ext.refl _ | apply Ext.alloc | apply Ext.drew | apply Ext.drewN)))
      clear hget hall hx hB hI HI
      obtain ⟨bn, hbn⟩ : ∃ b, (argsB ra k && nodeF ⟨op, s, num, ra⟩) = b := ⟨_, rfl⟩
      have HBN := hid hbn
      have HND : Hid (p.ndB k = bn) := hid (by rw [Prg.ndB_at HG1.out, hbn])
      clear hbn
      go_wp2_with fail
      refine (sNode_val HBN.out lo hi _ _ (HII.out.ext (by omega) q0) (by simp; omega) hsz.out (by omega) (by omega)).mono ?_
      rintro e w2 ⟨rfl, x2⟩
      have X2 := q0.trans x2
      clear q0 x2
      cases bn
      · go_wp2
        go_ret
        refine ⟨ret_bool ?_, HX.out.trans X2⟩
        unfold Prg.okB
        rw [rng_no hlt HND.out]
        simp
      · have HB2 := hid (HB.out.ext X2)
        go_wp2
        go_roundw
        case rel =>
          refine ⟨k + 1, by omega, by go_num, fun i hi => ?_, HX.out.trans X2, HB2.out⟩
          by_cases e : i = k
          · subst e; exact HND.out
          · exact HA.out i (by omega)
        case measure => simp [intOf]; omega
    · obtain rfl : k = p.ns.length := by omega
      have q := hB.lt
      have q0 := hB.cell 0
      simp only [List.getElem?_toArray, List.getElem?_cons_zero, List.getElem?_cons_succ] at q0
      have q1 := hB.cell 1
      simp only [List.getElem?_toArray, List.getElem?_cons_zero, List.getElem?_cons_succ] at q1
      clear hall hx hB
      go_wp2
      go_loopw [25] (fun i wr => ∃ k : Nat, k ≤ p.gs.length ∧ i = .int .i64 k ∧ (∀ j, j < k → p.agB j = true) ∧ Ext w wr ∧ Bx wr w.heap.size #[.slice a1 p.ns.length c1, .slice a2 p.gs.length c2] 26) (fun i _ => p.gs.length - (intOf i).toNat)
      case atStart => exact ⟨0, by omega, rfl, fun j h => by omega, HX.out, HB.out⟩
      case round =>
        clear HX HB q q0 q1
        obtain ⟨k, hk, rfl, hall, hx, hB⟩ := hrel
        have HA2 := hid hall
        have HX := hid hx
        have HB := hid hB
        by_cases hlt : k < p.gs.length
        · obtain ⟨b, off, s, rt, rfl, hb1, hbw, hdrop, hget, ir, y0, y1⟩ := HG.at hlt hx hh
          have HG1 := hid hget
          have hsz := hid (HBD.out.2 _ (List.mem_of_getElem? hget))
          have zx := hx.size
          have bQ := Bx.made wr #[.string s, .int .i64 rt] 74
          have q0 : Ext wr (wr.alloc (.cells #[.string s, .int .i64 rt] 74)) := (by repeat (with_reducible (first | assumption | exact Ext.refl _ | apply Ext.alloc | apply Ext.drew | apply Ext.drewN)))
          have HBw := hid (hB.ext q0)
          have hBw := HBw.out
          have d := hBw.lt
          have d0 := hBw.cell 0
          simp only [List.getElem?_toArray, List.getElem?_cons_zero, List.getElem?_cons_succ] at d0
          have d1 := hBw.cell 1
          simp only [List.getElem?_toArray, List.getElem?_cons_zero, List.getElem?_cons_succ] at d1
          clear hdrop hget hall hx hB hBw
          obtain ⟨bn, hbn⟩ : ∃ b, identB s = b := ⟨_, rfl⟩
          obtain ⟨ba, hba⟩ : ∃ b, inB rt 0 ((p.ns.length : Int) - 1) = b := ⟨_, rfl⟩
          have HBN := hid hbn
          have HBA := hid hba
          have HND : Hid (p.agB k = (bn && ba)) := hid (by rw [Prg.agB_at HG1.out, hba, hbn])
          clear hbn hba
          go_wp2_with fail
          refine (sIsIdentifier_val HBN.out _ hsz.out).mono ?_
          rintro e w2 ⟨rfl, rfl⟩
          cases bn
          · go_wp2
            go_ret
            refine ⟨ret_bool ?_, HX.out.trans q0⟩
            unfold Prg.okB
            rw [rng_no (p := p.agB) hlt (by rw [HND.out]; simp)]
            simp
          go_wp2_with fail
          refine (l01In_val HBA.out _).mono ?_
          rintro e w3 ⟨rfl, rfl⟩
          cases ba
          · go_wp2
            go_ret
            refine ⟨ret_bool ?_, HX.out.trans q0⟩
            unfold Prg.okB
            rw [rng_no (p := p.agB) hlt (by rw [HND.out]; simp)]
            simp
          go_wp2
          go_roundw
          case rel =>
            refine ⟨k + 1, by omega, by go_num, fun i hi => ?_, HX.out.trans q0, HBw.out⟩
            by_cases e : i = k
            · subst e; exact HND.out
            · exact HA2.out i (by omega)
          case measure => simp [intOf]; omega
        · obtain rfl : k = p.gs.length := by omega
          have zx := hx.size
          have HUL : Hid (p.uses.length = p.ns.length) := hid (by unfold Prg.uses; rw [usesG_len, Prg.usesA_len])
          have HOK : Hid (p.okB = (p.uses.all (· == 1) && decide (p.ns.length ≤ 60))) := hid (by
            unfold Prg.okB
            rw [rng_all HA.out, rng_all HA2.out]
            simp [Bool.and_comm])
          have q := hB.lt
          have q0 := hB.cell 0
          simp only [List.getElem?_toArray, List.getElem?_cons_zero, List.getElem?_cons_succ] at q0
          have q1 := hB.cell 1
          simp only [List.getElem?_toArray, List.getElem?_cons_zero, List.getElem?_cons_succ] at q1
          have hv := HV.out.ext hh hx
          have HV2 := hid hv
          clear hall hx hB hv
          go_wp2_with fail
          refine (sUses_any lo hi _ p _ HV2.out (by omega) hnl hgl HA.out HA2.out).mono ?_
          rintro e w3 ⟨ua, uc, rfl, hO, x3⟩
          have hI := hO.ints
          have e0 := HUL.out
          obtain ⟨ua', uc', e1, HU⟩ := hI.open
          rw [e0] at e1
          simp only [Value.slice.injEq, true_and] at e1
          obtain ⟨rfl, rfl⟩ := e1
          have lu1 := HU.le
          have lu2 := HU.cap
          have HX3 := hid (HX.out.trans x3)
          have HB3 := hid (HB.out.ext x3)
          clear hO hI x3
          go_wp2
          go_loopw [47] (fun i wq => ∃ k : Nat, k ≤ p.ns.length ∧ i = .int .i64 k ∧ wq = w3 ∧ (p.uses.take k).all (· == 1) = true) (fun i _ => p.ns.length - (intOf i).toNat)
          case atStart => exact ⟨0, by omega, rfl, rfl, rfl⟩
          case round =>
            obtain ⟨k, hk, rfl, rfl, hall⟩ := hrel
            have HA3 := hid hall
            clear hall
            by_cases hlt : k < p.uses.length
            · obtain ⟨b, off, rfl, hb1, hb2, hc⟩ := HU.at hlt
              by_cases h1 : p.uses[k] = 1
              · rw [h1] at hc
                have H1 := hid h1
                clear h1
                go_wp2
                go_roundw
                case rel => exact ⟨k + 1, by omega, by go_num, by trivial, all_step hlt HA3.out (by simp [H1.out])⟩
                case measure => simp [intOf]; omega
              · obtain ⟨y, hy⟩ : ∃ y, p.uses[k] = y := ⟨_, rfl⟩
                have H1 := hid (all_one_no hlt h1)
                rw [hy] at hc h1
                have h2 : (y == 1) = false := beq_eq_false_iff_ne.2 h1
                clear hy
                go_wp2
                go_ret
                exact ⟨ret_bool (by rw [HOK.out, H1.out]; rfl), HX3.out⟩
            · have hA := HA3.out
              rw [List.take_of_length_le (by omega)] at hA
              have HA4 := hid hA
              have hB := HB3.out
              have q := hB.lt
              have q0 := hB.cell 0
              simp only [List.getElem?_toArray, List.getElem?_cons_zero, List.getElem?_cons_succ] at q0
              have q1 := hB.cell 1
              simp only [List.getElem?_toArray, List.getElem?_cons_zero, List.getElem?_cons_succ] at q1
              clear hA hB
              go_wp2
              go_ret
              exact ⟨ret_bool (by rw [HOK.out, HA4.out]; simp; omega), HX3.out⟩
end Go.Proofs.YtaegmenjgjdimaaGreat
end

section
/- This text proves, in plain numbers, that every node of a valid program lies in the expression of exactly one assignment; it walks no function. -/
namespace Go.Proofs.YtaegmenjgjdimaaGreat
open Go.RowKit

/-- node j lies in the expression of node r -/
inductive Sub (p : Prg) (r : Nat) : Nat → Prop
  | refl : Sub p r r
  | arg {i j : Nat} {x : Nd} : Sub p r i → p.ns[i]? = some x → (j : Int) ∈ x.args → Sub p r j
/-- node j lies in the expression of assignment k -/
def Own (p : Prg) (j k : Nat) : Prop := ∃ (s : ByteArray) (r : Nat), p.gs[k]? = some ⟨s, r⟩ ∧ Sub p r j
theorem Sub.trans {p : Prg} {r i j : Nat} (h : Sub p r i) (k : Sub p i j) : Sub p r j := by
  induction k with
  | refl => exact h
  | arg _ h2 h3 ih => exact ih.arg h2 h3
/-- how often j occurs in a list of arguments -/
def cntL (j : Nat) (es : List Int) : Nat := es.countP fun a => a.toNat == j
def cntN (j : Nat) (xs : List Nd) : Nat := (xs.map fun x => cntL j x.args).sum
def cntG (j : Nat) (gs : List Asg) : Nat := (gs.map fun a => if a.root.toNat = j then 1 else 0).sum
theorem bumpU_at (u : List Int) (i j : Nat) (hi : i < u.length) : (bumpU u i).getD j 0 = u.getD j 0 + (if i = j then 1 else 0) := by
  unfold bumpU
  rw [List.getD_eq_getElem?_getD, List.getElem?_set]
  by_cases e : i = j
  · subst e; simp [hi]
  · simp [e]
theorem bumpL_at (j : Nat) : ∀ (es : List Int) (u : List Int), (∀ a ∈ es, a.toNat < u.length) → (bumpL u es).getD j 0 = u.getD j 0 + cntL j es := by
  intro es
  induction es with
  | nil => intro u _; simp [bumpL, cntL]
  | cons a r ih =>
    intro u h
    have h1 : bumpL u (a :: r) = bumpL (bumpU u a.toNat) r := rfl
    rw [h1, ih _ (fun b hb => by rw [bumpU_len]; exact h b (by simp [hb])), bumpU_at _ _ _ (h a (by simp))]
    unfold cntL
    rw [List.countP_cons]
    by_cases e : a.toNat = j <;> simp [e] <;> omega
theorem usesN_at (j : Nat) : ∀ (xs : List Nd) (u : List Int), (∀ x ∈ xs, ∀ a ∈ x.args, a.toNat < u.length) → (usesN u xs).getD j 0 = u.getD j 0 + cntN j xs := by
  intro xs
  induction xs with
  | nil => intro u _; simp [usesN, cntN]
  | cons x r ih =>
    intro u h
    have h1 : usesN u (x :: r) = usesN (bumpL u x.args) r := rfl
    rw [h1, ih _ (fun y hy b hb => by rw [bumpL_len]; exact h y (by simp [hy]) b hb), bumpL_at _ _ _ (h x (by simp))]
    simp [cntN]
    omega
theorem usesG_at (j : Nat) : ∀ (gs : List Asg) (u : List Int), (∀ a ∈ gs, a.root.toNat < u.length) → (usesG u gs).getD j 0 = u.getD j 0 + cntG j gs := by
  intro gs
  induction gs with
  | nil => intro u _; simp [usesG, cntG]
  | cons x r ih =>
    intro u h
    have h1 : usesG u (x :: r) = usesG (bumpU u x.root.toNat) r := rfl
    rw [h1, ih _ (fun y hy => by rw [bumpU_len]; exact h y (by simp [hy])), bumpU_at _ _ _ (h x (by simp))]
    by_cases e : x.root.toNat = j <;> simp [cntG, e] <;> omega
theorem sum_one {L : List Nat} {i a : Nat} (h : L[i]? = some a) : a ≤ L.sum := by
  induction L generalizing i with
  | nil => simp at h
  | cons x r ih =>
    cases i with
    | zero => simp at h; simp; omega
    | succ i => have := ih (by simpa using h); simp; omega
theorem sum_two {L : List Nat} {i i' a b : Nat} (h : L[i]? = some a) (h' : L[i']? = some b) (hne : i ≠ i') : a + b ≤ L.sum := by
  induction L generalizing i i' with
  | nil => simp at h
  | cons x r ih =>
    cases i with
    | zero =>
      cases i' with
      | zero => omega
      | succ i' => have := sum_one (L := r) (by simpa using h'); simp at h; simp; omega
    | succ i =>
      cases i' with
      | zero => have := sum_one (L := r) (by simpa using h); simp at h'; simp; omega
      | succ i' => have := ih (i := i) (i' := i') (by simpa using h) (by simpa using h') (by omega); simp; omega
theorem sum_pos {L : List Nat} (h : 0 < L.sum) : ∃ (i a : Nat), L[i]? = some a ∧ 0 < a := by
  induction L with
  | nil => simp at h
  | cons x r ih =>
    by_cases e : 0 < x
    · exact ⟨0, x, rfl, e⟩
    · obtain ⟨i, a, h1, h2⟩ := ih (by simp at h; omega)
      exact ⟨i + 1, a, by simpa using h1, h2⟩
theorem cntL_pos {j : Nat} {es : List Int} (h0 : ∀ a ∈ es, 0 ≤ a) : 0 < cntL j es ↔ (j : Int) ∈ es := by
  unfold cntL
  rw [List.countP_pos_iff]
  constructor
  · rintro ⟨a, ha, e⟩
    have := h0 a ha
    simp at e
    have : a = j := by omega
    exact this ▸ ha
  · intro h
    exact ⟨j, h, by simp⟩
/-- what a valid program's nodes and roots are -/
structure Prg.V (p : Prg) : Prop where
  len : p.ns.length ≤ 60
  nd : ∀ (k : Nat) (x : Nd), p.ns[k]? = some x → nodeF x = true ∧ ∀ a ∈ x.args, 0 ≤ a ∧ a ≤ (k : Int) - 1
  ag : ∀ (k : Nat) (x : Asg), p.gs[k]? = some x → identB x.name = true ∧ 0 ≤ x.root ∧ x.root ≤ (p.ns.length : Int) - 1
  one : ∀ j, j < p.ns.length → cntN j p.ns + cntG j p.gs = 1
theorem Prg.okB_V {p : Prg} (h : p.okB = true) : p.V := by
  unfold Prg.okB at h
  simp only [Bool.and_eq_true, decide_eq_true_eq] at h
  obtain ⟨⟨⟨h1, h2⟩, h3⟩, h4⟩ := h
  rw [List.all_eq_true] at h2 h3 h4
  have hn : ∀ (k : Nat) (x : Nd), p.ns[k]? = some x → nodeF x = true ∧ ∀ a ∈ x.args, 0 ≤ a ∧ a ≤ (k : Int) - 1 := by
    intro k x hx
    have := h2 k (List.mem_range.2 (List.getElem?_eq_some_iff.1 hx).1)
    rw [Prg.ndB_at hx, Bool.and_eq_true] at this
    refine ⟨this.2, fun a ha => ?_⟩
    have h5 := this.1
    unfold argsB at h5
    rw [List.all_eq_true] at h5
    exact inB_iff.1 (h5 a ha)
  have hg : ∀ (k : Nat) (x : Asg), p.gs[k]? = some x → identB x.name = true ∧ 0 ≤ x.root ∧ x.root ≤ (p.ns.length : Int) - 1 := by
    intro k x hx
    have := h3 k (List.mem_range.2 (List.getElem?_eq_some_iff.1 hx).1)
    rw [Prg.agB_at hx, Bool.and_eq_true] at this
    exact ⟨this.1, inB_iff.1 this.2⟩
  refine ⟨h1, hn, hg, fun j hj => ?_⟩
  have hul : p.uses.length = p.ns.length := by unfold Prg.uses; rw [usesG_len, Prg.usesA_len]
  have hu : p.uses.getD j 0 = 1 := by
    have hm : p.uses[j]? = some (p.uses[j]'(by omega)) := by simp [hul, hj]
    rw [List.getD_eq_getElem?_getD, hm]
    have := h4 _ (List.getElem_mem (show j < p.uses.length by omega))
    simpa using this
  unfold Prg.uses at hu
  rw [usesG_at, Prg.usesA, usesN_at] at hu
  · have : (List.replicate p.ns.length (0 : Int)).getD j 0 = 0 := by
      rw [List.getD_eq_getElem?_getD, List.getElem?_replicate, if_pos hj]; rfl
    rw [this] at hu
    omega
  · intro x hx a ha
    obtain ⟨k, hk, rfl⟩ := List.getElem_of_mem hx
    have := (hn k _ (by simp [hk])).2 a ha
    simp
    omega
  · intro a ha
    rw [Prg.usesA_len]
    obtain ⟨k, hk, rfl⟩ := List.getElem_of_mem ha
    have := (hg k p.gs[k] (by simp [hk])).2
    omega
theorem Prg.V.arg_lt {p : Prg} (h : p.V) {k j : Nat} {x : Nd} (hx : p.ns[k]? = some x) (hj : (j : Int) ∈ x.args) : j < k := by
  have := ((h.nd k x hx).2 _ hj).2
  omega
theorem Prg.V.cnt {p : Prg} (h : p.V) {k j : Nat} {x : Nd} (hx : p.ns[k]? = some x) : (p.ns.map fun x => cntL j x.args)[k]? = some (cntL j x.args) ∧ ((j : Int) ∈ x.args → 0 < cntL j x.args) :=
  ⟨by simp [hx], fun hj => (cntL_pos (fun a ha => ((h.nd k x hx).2 a ha).1)).2 hj⟩
theorem cntG_one {gs : List Asg} {k r : Nat} {s : ByteArray} (hk : gs[k]? = some ⟨s, r⟩) : (gs.map fun a => if a.root.toNat = r then 1 else 0)[k]? = some 1 := by simp [hk]
/-- one way up from a node that is used -/
theorem Own.up {p : Prg} {j k : Nat} (h : Own p j k) : (∃ s : ByteArray, p.gs[k]? = some ⟨s, (j : Nat)⟩) ∨ ∃ (i : Nat) (x : Nd), p.ns[i]? = some x ∧ (j : Int) ∈ x.args ∧ Own p i k := by
  obtain ⟨s, r, h1, h2⟩ := h
  cases h2 with
  | refl => exact .inl ⟨s, h1⟩
  | arg h3 h4 h5 => exact .inr ⟨_, _, h4, h5, s, r, h1, h3⟩
theorem Own.down {p : Prg} {i j k : Nat} {x : Nd} (h : Own p i k) (hx : p.ns[i]? = some x) (hj : (j : Int) ∈ x.args) : Own p j k := by
  obtain ⟨s, r, h1, h2⟩ := h
  exact ⟨s, r, h1, h2.arg hx hj⟩
theorem Own.root {p : Prg} {k r : Nat} {s : ByteArray} (h : p.gs[k]? = some ⟨s, r⟩) : Own p r k := ⟨s, r, h, .refl⟩
theorem Own.lt {p : Prg} (hv : p.V) {j k : Nat} (h : Own p j k) : j < p.ns.length ∧ k < p.gs.length := by
  obtain ⟨s, r, h1, h2⟩ := h
  have hr := (hv.ag k _ h1).2.2
  simp only at hr
  refine ⟨?_, (List.getElem?_eq_some_iff.1 h1).1⟩
  have hr : r < p.ns.length := by omega
  clear h1
  induction h2 with
  | refl => exact hr
  | arg _ h4 h5 ih => have := hv.arg_lt h4 h5; have := (List.getElem?_eq_some_iff.1 h4).1; omega
theorem Prg.V.some {p : Prg} (hv : p.V) : ∀ (d j : Nat), j + d = p.ns.length → 0 < d → ∃ k, Own p j k := by
  intro d
  induction d using Nat.strongRecOn with
  | _ d ih =>
    intro j hj hd
    have h1 := hv.one j (by omega)
    by_cases hg : 0 < cntG j p.gs
    · obtain ⟨k, a, hk, ha⟩ := sum_pos hg
      rw [List.getElem?_map] at hk
      cases hgk : p.gs[k]? with
      | none => rw [hgk] at hk; simp at hk
      | some y =>
        rw [hgk] at hk
        simp at hk
        have h2 : y.root.toNat = j := by
          by_cases e : y.root.toNat = j
          · exact e
          · rw [if_neg e] at hk; omega
        have h3 := (hv.ag k y hgk).2
        have h4 : y.root = (j : Int) := by omega
        exact ⟨k, y.name, j, by rw [hgk]; cases y; simp only at h4; rw [h4], .refl⟩
    · obtain ⟨i, a, hi, ha⟩ := sum_pos (L := p.ns.map fun x => cntL j x.args) (by unfold cntN at h1; omega)
      rw [List.getElem?_map] at hi
      cases hx : p.ns[i]? with
      | none => rw [hx] at hi; simp at hi
      | some x =>
        rw [hx] at hi
        simp at hi
        have hm : (j : Int) ∈ x.args := (cntL_pos (fun a ha => ((hv.nd i x hx).2 a ha).1)).1 (by omega)
        have h2 := hv.arg_lt hx hm
        have h3 := (List.getElem?_eq_some_iff.1 hx).1
        obtain ⟨k, hk⟩ := ih (p.ns.length - i) (by omega) i (by omega) (by omega)
        exact ⟨k, hk.down hx hm⟩
theorem Prg.V.uniq {p : Prg} (hv : p.V) : ∀ (d j k k' : Nat), j + d = p.ns.length → Own p j k → Own p j k' → k = k' := by
  intro d
  induction d using Nat.strongRecOn with
  | _ d ih =>
    intro j k k' hj h h'
    have hjl := (h.lt hv).1
    have h1 := hv.one j hjl
    rcases h.up with ⟨s, hs⟩ | ⟨i, x, hx, hm, ho⟩
    · rcases h'.up with ⟨s', hs'⟩ | ⟨i', x', hx', hm', ho'⟩
      · by_cases e : k = k'
        · exact e
        · have := sum_two (cntG_one hs) (cntG_one hs') e
          unfold cntG at h1
          omega
      · have h2 := sum_one (cntG_one hs)
        have h3 := hv.cnt (j := j) hx'
        have h4 := h3.2 hm'
        have h5 := sum_one h3.1
        unfold cntN cntG at h1
        omega
    · have h3 := hv.cnt (j := j) hx
      have h4 := h3.2 hm
      rcases h'.up with ⟨s', hs'⟩ | ⟨i', x', hx', hm', ho'⟩
      · have h2 := sum_one (cntG_one hs')
        have h5 := sum_one h3.1
        unfold cntN cntG at h1
        omega
      · have h3' := hv.cnt (j := j) hx'
        have h4' := h3'.2 hm'
        by_cases e : i = i'
        · subst e
          have h6 := hv.arg_lt hx hm
          have h7 := (List.getElem?_eq_some_iff.1 hx).1
          exact ih (p.ns.length - i) (by omega) i k k' (by omega) ho ho'
        · have h5 := sum_two h3.1 h3'.1 e
          unfold cntN at h1
          omega
open Classical in
/-- the assignment that holds node j -/
noncomputable def Prg.own (p : Prg) (j : Nat) : Nat := if h : ∃ k, Own p j k then h.choose else 0
theorem Prg.V.own_is {p : Prg} (hv : p.V) {j : Nat} (hj : j < p.ns.length) : Own p j (p.own j) := by
  unfold Prg.own
  have := hv.some (p.ns.length - j) j (by omega) (by omega)
  rw [dif_pos this]
  exact this.choose_spec
theorem Prg.V.own_eq {p : Prg} (hv : p.V) {j k : Nat} (h : Own p j k) : p.own j = k := by
  have hj := (h.lt hv).1
  exact hv.uniq (p.ns.length - j) j _ _ (by omega) (hv.own_is hj) h
/-- the owners of all nodes -/
noncomputable def Prg.ownL (p : Prg) : List Int := (List.range p.ns.length).map fun j => (p.own j : Int)
theorem Prg.ownL_len (p : Prg) : p.ownL.length = p.ns.length := by simp [Prg.ownL]
theorem Prg.ownL_of {p : Prg} (hv : p.V) {o : List Int} (hl : o.length = p.ns.length) (h : ∀ j k, Own p j k → o.getD j 0 = k) : o = p.ownL := by
  apply List.ext_getElem (by rw [hl, Prg.ownL_len])
  intro j h1 h2
  have := h j _ (hv.own_is (by omega))
  rw [List.getD_eq_getElem?_getD, List.getElem?_eq_getElem h1] at this
  simp [Prg.ownL]
  simpa using this
end Go.Proofs.YtaegmenjgjdimaaGreat
end

section
/- This text proves the program's owners and the reference's. -/
namespace Go.Proofs.YtaegmenjgjdimaaGreat
open Go.RowKit

@[go_sem] theorem store_func {P : Program} {w : World} {a : Addr} {m : Mode} (fn : Fn) (first captured : Array Value) : (store a (.func fn first captured) m).run P w = stored P w a (.func fn first captured) m := run_store P w a _ m rfl
/-- a list of owners is changed to k, at nodes of assignment k alone -/
def OwnTo (p : Prg) (k : Nat) (o o' : List Int) : Prop := o'.length = o.length ∧ ∀ j, o'.getD j 0 = o.getD j 0 ∨ (o'.getD j 0 = k ∧ Own p j k)
theorem OwnTo.refl (p : Prg) (k : Nat) (o : List Int) : OwnTo p k o o := ⟨rfl, fun _ => .inl rfl⟩
theorem OwnTo.trans {p : Prg} {k : Nat} {o o1 o2 : List Int} (h : OwnTo p k o o1) (h' : OwnTo p k o1 o2) : OwnTo p k o o2 :=
  ⟨h'.1.trans h.1, fun j => by
    rcases h'.2 j with e | e
    · rw [e]; exact h.2 j
    · exact .inr e⟩
theorem getD_set (o : List Int) (i j : Nat) (x : Int) (hi : i < o.length) : (o.set i x).getD j 0 = if i = j then x else o.getD j 0 := by
  rw [List.getD_eq_getElem?_getD, List.getElem?_set]
  by_cases e : i = j
  · subst e; simp [hi]
  · simp [e]
theorem OwnTo.set {p : Prg} {k i : Nat} {o : List Int} (h : Own p i k) (hi : i < o.length) : OwnTo p k o (o.set i k) :=
  ⟨by simp, fun j => by
    rw [getD_set _ _ _ _ hi]
    by_cases e : i = j
    · subst e; exact .inr ⟨by simp, h⟩
    · exact .inl (by simp [e])⟩
/-- the boxes of the program's owners: the row of owners, the program, the function -/
structure OB (p : Prg) (B O n : Nat) (a1 a2 : Option Addr) (c1 c2 : Nat) (w : World) (o : List Int) : Prop where
  prog : Bx w B #[.slice a1 p.ns.length c1, .slice a2 p.gs.length c2] 26
  out : Bx w O #[.slice (some ⟨B + 1, 0, none⟩) n n] 29
  fn : Bx w (O + 1) #[.func (.func 119) #[] #[.pointer (some ⟨O, 0, none⟩), .pointer (some ⟨B, 0, none⟩), .pointer (some ⟨O + 1, 0, none⟩)]] 186
  row : OwnInts (B + 1) w (.slice (some ⟨B + 1, 0, none⟩) n n) o
theorem Sub.head {p : Prg} {r j : Nat} (h : Sub p r j) : r = j ∨ ∃ (x : Nd) (a : Nat), p.ns[r]? = some x ∧ (a : Int) ∈ x.args ∧ Sub p a j := by
  induction h with
  | refl => exact .inl rfl
  | arg h1 h2 h3 ih =>
    rcases ih with rfl | ⟨x, a, h4, h5, h6⟩
    · exact .inr ⟨_, _, h2, h3, .refl⟩
    · exact .inr ⟨x, a, h4, h5, h6.arg h2 h3⟩
theorem OwnTo.keep {p : Prg} {k : Nat} {o o' : List Int} (h : OwnTo p k o o') {j : Nat} (hj : o.getD j 0 = k) : o'.getD j 0 = k := by
  rcases h.2 j with e | e
  · rw [e, hj]
  · exact e.1
set_option maxRecDepth 20000 in
set_option maxHeartbeats 12800000 in
theorem iVisit_any (lo hi : Nat) (p : Prg) (hv : p.V) (W : World) (a1 a2 : Option Addr) (c1 c2 : Nat) (HN : NdsAt lo hi W a1 c1 p.ns) (hh : hi ≤ W.heap.size) (O : Nat) (hO : W.heap.size + 1 < O) (k : Nat) (hk : k ≤ 10000000) (m : Nat) :
    ∀ (node : Nat) (o : List Int) (w : World), node < m → Own p node k → o.length = p.ns.length → OB p W.heap.size O p.ns.length a1 a2 c1 c2 w o → Ext W w →
    Calls Tryz.prog 119 #[.int .i64 node, .int .i64 k, .pointer (some ⟨O, 0, none⟩), .pointer (some ⟨W.heap.size, 0, none⟩), .pointer (some ⟨O + 1, 0, none⟩)] w fun e w' => e = .returned (.tuple #[]) ∧ (∃ o', OB p W.heap.size O p.ns.length a1 a2 c1 c2 w' o' ∧ OwnTo p k o o' ∧ ∀ j, Sub p node j → o'.getD j 0 = k) ∧ Ext W w' := by
  have l1 := HN.le
  have l2 := HN.cap
  induction m with
  | zero => intro node o w hm; omega
  | succ m ih =>
    intro node o w hm hown hol hB hx
    have hnl := (hown.lt hv).1
    have zx := hx.size
    obtain ⟨hB1, hB2, hB3, hB4⟩ := hB
    obtain ⟨r1, r2, r3, r4, r5⟩ := hB4.upd (by omega) hnl
    have hS := r5 k ⟨by omega, by omega⟩
    have HB1 := hid hB1
    have HB2 := hid hB2
    have HB3 := hid hB3
    have HS := hid hS
    have HX := hid hx
    have HOL := hid hol
    have HOW := hid hown
    obtain ⟨b, off, op, s, num, sa, sc, ra, rfl, hb1, hbw, hget, io, inn, hI, HI, y0, y1, y2, y3⟩ := HN.atW hnl hx hh
    have HG := hid hget
    have li1 := HI.le
    have li2 := HI.cap
    have q := hB1.lt
    have q0 := hB1.cell 0
    simp only [List.getElem?_toArray, List.getElem?_cons_zero, List.getElem?_cons_succ] at q0
    have q1 := hB1.cell 1
    simp only [List.getElem?_toArray, List.getElem?_cons_zero, List.getElem?_cons_succ] at q1
    have d := hB2.lt
    have d0 := hB2.cell 0
    simp only [List.getElem?_toArray, List.getElem?_cons_zero, List.getElem?_cons_succ] at d0
    have hbS : b ≠ W.heap.size + 1 := by omega
    have hOS : O ≠ W.heap.size + 1 := by omega
    have IH := hid ih
    clear ih hget hB1 hB2 hB3 hB4 hS hx hol hown hI r5 y0 y1 y2
    go_enter Tryz.func119, Tryz.ntmps119
    go_wp2
    go_loopw [20] (fun i wr => ∃ (j : Nat) (o' : List Int), j ≤ ra.length ∧ i = .int .i64 j ∧ OB p W.heap.size O p.ns.length (some ⟨b, off, none⟩) a2 c1 c2 wr o' ∧ OwnTo p k o o' ∧ o'.getD node 0 = k ∧ (∀ (t a : Nat), t < j → ra[t]? = some (a : Int) → ∀ q, Sub p a q → o'.getD q 0 = k) ∧ Ext W wr) (fun i _ => ra.length - (intOf i).toNat)
    case atStart =>
      refine ⟨0, o.set node k, by omega, rfl, ⟨HB1.out.other (by simp) _, HB2.out.other (by simpa using hOS) _, HB3.out.other (by simp; omega) _, HS.out⟩, OwnTo.set HOW.out (by rw [HOL.out]; exact hnl), ?_, fun t a ht => by omega, ?_⟩
      · rw [getD_set _ _ _ _ (by rw [HOL.out]; exact hnl), if_pos rfl]
      · have hx := HX.out
        exact (by repeat (first | with_reducible assumption | with_reducible exact Ext.refl _ | with_reducible apply Ext.alloc | with_reducible apply Ext.drew | with_reducible apply Ext.drewN | (with_reducible refine Ext.setCell ?_ (by simp; omega) _) | (with_reducible refine Ext.setCell ?_ (by simp) _)))
    case round =>
      clear HB1 HB2 HB3 HS HX q q0 q1 d d0 r1 r2 r3 r4
      obtain ⟨j, o', hj, rfl, hB, hO, hN, hA, hx⟩ := hrel
      by_cases hlj : j < ra.length
      · obtain ⟨b3, off3, y, rfl, hb3, hy, _, hc3⟩ := HI.atE hlj hx hh
        have hyb := (hv.nd node _ HG.out).2 y (List.mem_of_getElem? hy)
        obtain ⟨z, rfl⟩ : ∃ z : Nat, y = z := ⟨y.toNat, by omega⟩
        have hOz := hid (HOW.out.down HG.out (List.mem_of_getElem? hy))
        have HY := hid hy
        have HB := hid hB
        have HO := hid hO
        have HN2 := hid hN
        have HA := hid hA
        have HX := hid hx
        have hB3 := hB.fn
        have f := hB3.lt
        have f0 := hB3.cell 0
        simp only [List.getElem?_toArray, List.getElem?_cons_zero, List.getElem?_cons_succ] at f0
        clear hy hB hO hN hA hx hB3
        go_wp2_with fail
        refine (IH.out z o' _ (by omega) hOz.out (by rw [HO.out.1]; exact HOL.out) HB.out HX.out).mono ?_
        rintro e w1 ⟨rfl, ⟨o2, hB2, hO2, hS2⟩, hx2⟩
        have HB' := hid hB2
        have HO' := hid hO2
        have HS' := hid hS2
        have HX' := hid hx2
        clear hB2 hO2 hS2 hx2 HB HX f f0
        go_wp2
        go_roundw
        case rel =>
          refine ⟨j + 1, o2, by omega, by go_num, HB'.out, HO.out.trans HO'.out, HO'.out.keep HN2.out, fun t a ht ha q hq => ?_, HX'.out⟩
          by_cases e : t = j
          · subst e
            rw [HY.out] at ha
            injection ha with ha
            have : z = a := by omega
            subst this
            exact HS'.out q hq
          · exact HO'.out.keep (HA.out t a (by omega) ha q hq)
        case measure => simp [intOf]; omega
      · have HB := hid hB
        have HO := hid hO
        have HN2 := hid hN
        have HA := hid hA
        have HX := hid hx
        clear hB hO hN hA hx
        go_wp2
        go_end0
        refine ⟨rfl, ⟨o', HB.out, HO.out, fun q hq => ?_⟩, HX.out⟩
        rcases hq.head with rfl | ⟨x, a, h1, h2, h3⟩
        · exact HN2.out
        · rw [HG.out] at h1
          injection h1 with h1
          subst h1
          obtain ⟨t, ht, hta⟩ := List.getElem_of_mem h2
          exact HA.out t a (by have : t < ra.length := ht; omega) (by rw [← hta]; simp [ht]) q h3
set_option maxRecDepth 20000 in
set_option maxHeartbeats 12800000 in
theorem iOwners_any (lo hi : Nat) (v : Value) (p : Prg) (w : World) (hv : p.R lo hi w v) (hh : hi ≤ w.heap.size) (hp : p.V) (hgl : p.gs.length ≤ 1048576) :
    Calls Tryz.prog 88 #[v] w fun e w' => (∃ a c, e = .returned (.slice a p.ns.length c) ∧ OwnInts w.heap.size w' (.slice a p.ns.length c) p.ownL) ∧ Ext w w' := by
  obtain ⟨i0, hi0, hz0, hz1, hz2⟩ := info_parts info_int
  obtain ⟨a1, c1, a2, c2, rfl, HN, HG⟩ := hv.form
  have l1 := HN.le
  have l2 := HN.cap
  have l3 := HG.le
  have l4 := HG.cap
  have l5 := hp.len
  clear hv
  have bB := Bx.made w #[.slice a1 p.ns.length c1, .slice a2 p.gs.length c2] 26
  have x0 : Ext w (w.alloc (.cells #[.slice a1 p.ns.length c1, .slice a2 p.gs.length c2] 26)) := (by repeat (with_reducible (first | assumption | exact Ext.refl _ | apply Ext.alloc | apply Ext.drew | apply Ext.drewN)))
  go_enter Tryz.func88, Tryz.ntmps88
  go_wp2_with (at_make; refine wpList_make_full _ rfl _ _ 29 rfl (w.heap.size + 1) 3 i0 (.int .i64 0) 1 Tryz.underlying29 hi0 hz0 hz1 _ _ _ _ p.ns.length rfl rfl rfl rfl (by rw [hz2]; omega) (by unfold maxLen; omega) (by simp) ?_)
  intro w1 hown hgrow
  rw [made_ints] at hown
  have hs1 := World.size_alloc w (.cells #[.slice a1 p.ns.length c1, .slice a2 p.gs.length c2] 26)
  have x1 : Ext (w.alloc (.cells #[.slice a1 p.ns.length c1, .slice a2 p.gs.length c2] 26)) w1 := (Ext.refl _).grown hgrow (fun k h => by cases h)
  have bB1 := bB.ext x1
  have hz1' := x1.size
  have HO := hid (show OwnInts (w.heap.size + 1) w1 (.slice (some ⟨w.heap.size + 1, 0, none⟩) p.ns.length p.ns.length) (List.replicate p.ns.length 0) from ⟨by simpa using hown, fun x hx => by rw [(List.mem_replicate.1 hx).2]; exact ⟨by decide, by decide⟩⟩)
  have hlt := HO.out.lt _ rfl
  have X1 := hid (x0.trans x1)
  have HB1 := hid bB1
  have q := bB1.lt
  have q0 := bB1.cell 0
  simp only [List.getElem?_toArray, List.getElem?_cons_zero, List.getElem?_cons_succ] at q0
  have q1 := bB1.cell 1
  simp only [List.getElem?_toArray, List.getElem?_cons_zero, List.getElem?_cons_succ] at q1
  clear hown hgrow hi0 hz0 hz1 hz2 x1 x0 bB hs1 bB1
  go_wp2
  have HO0 := hid (show OB p w.heap.size w1.heap.size p.ns.length a1 a2 c1 c2 ((w1.alloc (.cells #[.slice (some ⟨w.heap.size + 1, 0, none⟩) p.ns.length p.ns.length] 29)).alloc (.cells #[.func (.func 119) #[] #[.pointer (some ⟨w1.heap.size, 0, none⟩), .pointer (some ⟨w.heap.size, 0, none⟩), .pointer (some ⟨w1.heap.size + 1, 0, none⟩)]] 186)) (List.replicate p.ns.length 0) from
    { prog := HB1.out.ext (by repeat (with_reducible (first | assumption | exact Ext.refl _ | apply Ext.alloc | apply Ext.drew | apply Ext.drewN)))
      out := (Bx.made w1 _ _).ext (by repeat (with_reducible (first | assumption | exact Ext.refl _ | apply Ext.alloc | apply Ext.drew | apply Ext.drewN)))
      fn := Bx.madeAt _ _ _ (by simp)
      row := HO.out.ext (by repeat (with_reducible (first | assumption | exact Ext.refl _ | apply Ext.alloc | apply Ext.drew | apply Ext.drewN))) } )
  go_loopw [15] (fun i wr => ∃ (k : Nat) (o : List Int), k ≤ p.gs.length ∧ i = .int .i64 k ∧ o.length = p.ns.length ∧ OB p w.heap.size w1.heap.size p.ns.length a1 a2 c1 c2 wr o ∧ (∀ j t, Own p j t → t < k → o.getD j 0 = t) ∧ Ext w wr) (fun i _ => p.gs.length - (intOf i).toNat)
  case atStart =>
    refine ⟨0, List.replicate p.ns.length 0, by omega, rfl, by simp, HO0.out, fun j t _ h => by omega, ?_⟩
    have hx := X1.out
    exact (by repeat (first | with_reducible assumption | with_reducible exact Ext.refl _ | with_reducible apply Ext.alloc | with_reducible apply Ext.drew | with_reducible apply Ext.drewN | (with_reducible refine Ext.setCell ?_ (by simp; omega) _) | (with_reducible refine Ext.setCell ?_ (by simp) _)))
  case round =>
    clear HO0 HO X1 HB1 q q0 q1
    obtain ⟨k, o, hk, rfl, hol, hB, hA, hx⟩ := hrel
    have HOL := hid hol
    have HB := hid hB
    have HA := hid hA
    have HX := hid hx
    by_cases hlt2 : k < p.gs.length
    · obtain ⟨b, off, s, rt, rfl, hb1, hbw, hdrop, hget, ir, y0, y1⟩ := HG.at hlt2 hx hh
      have hrb := (hp.ag k _ hget).2
      simp only at hrb
      obtain ⟨r, rfl⟩ : ∃ r : Nat, rt = r := ⟨rt.toNat, by omega⟩
      have HG1 := hid hget
      have q0 : Ext wr (wr.alloc (.cells #[.string s, .int .i64 r] 74)) := (by repeat (with_reducible (first | assumption | exact Ext.refl _ | apply Ext.alloc | apply Ext.drew | apply Ext.drewN)))
      have hB' : OB p w.heap.size w1.heap.size p.ns.length a1 (some ⟨b, off, none⟩) c1 c2 (wr.alloc (.cells #[.string s, .int .i64 r] 74)) o := ⟨hB.prog.ext q0, hB.out.ext q0, hB.fn.ext q0, hB.row.ext q0⟩
      have HB' := hid hB'
      have hf := hB.fn
      have f := hf.lt
      have f0 := hf.cell 0
      simp only [List.getElem?_toArray, List.getElem?_cons_zero, List.getElem?_cons_succ] at f0
      have zx := hx.size
      have HX' := hid (hx.trans q0)
      clear hol hB hA hx hdrop hget hB' q0 HB hf
      go_wp2_with fail
      refine (iVisit_any lo hi p hp w a1 (some ⟨b, off, none⟩) c1 c2 HN hh w1.heap.size (by omega) k (by omega) (r + 1) r o _ (by omega) (Own.root HG1.out) HOL.out HB'.out HX'.out).mono ?_
      rintro e w2 ⟨rfl, ⟨o2, hB2, hO2, hS2⟩, hx2⟩
      have HB2 := hid hB2
      have HO2 := hid hO2
      have HS2 := hid hS2
      have HX2 := hid hx2
      clear hB2 hO2 hS2 hx2 HB' HX'
      go_wp2
      go_roundw
      case rel =>
        refine ⟨k + 1, o2, by omega, by go_num, by rw [HO2.out.1]; exact HOL.out, HB2.out, fun j t hjt ht => ?_, HX2.out⟩
        by_cases e : t = k
        · subst e
          obtain ⟨s', r', h1, h2⟩ := hjt
          rw [HG1.out] at h1
          simp only [Option.some.injEq, Asg.mk.injEq] at h1
          have : r = r' := by omega
          subst this
          exact HS2.out j h2
        · rcases HO2.out.2 j with e2 | ⟨e2, e3⟩
          · rw [e2]
            exact HA.out j t hjt (by omega)
          · have := hp.own_eq hjt
            have := hp.own_eq e3
            omega
      case measure => simp [intOf]; omega
    · obtain rfl : k = p.gs.length := by omega
      have hB2 := hB.out
      have f := hB2.lt
      have f0 := hB2.cell 0
      simp only [List.getElem?_toArray, List.getElem?_cons_zero, List.getElem?_cons_succ] at f0
      clear hol hB hA hx hB2
      go_wp2
      go_ret
      have e : o = p.ownL := Prg.ownL_of hp HOL.out (fun j t hjt => HA.out j t hjt (hjt.lt hp).2)
      exact ⟨⟨_, _, rfl, by rw [← e]; exact HB.out.row.low (by omega)⟩, HX.out⟩
end Go.Proofs.YtaegmenjgjdimaaGreat
end

section
/- This text proves the reference's owners. -/
namespace Go.Proofs.YtaegmenjgjdimaaGreat
open Go.RowKit

/-- node j of assignment t has its owner: it is a root, or an argument of a node from m on, or one of the first q numbers of ra -/
def Has (p : Prg) (m : Nat) (ra : List Int) (q j t : Nat) : Prop :=
  (∃ s : ByteArray, p.gs[t]? = some ⟨s, (j : Nat)⟩) ∨ (∃ (i : Nat) (x : Nd), m ≤ i ∧ p.ns[i]? = some x ∧ (j : Int) ∈ x.args) ∨ (∃ e, e < q ∧ ra[e]? = some (j : Int))
def Owned (p : Prg) (m : Nat) (ra : List Int) (q : Nat) (o : List Int) : Prop := ∀ j t, Own p j t → Has p m ra q j t → o.getD j 0 = t
theorem Owned.all {p : Prg} (hv : p.V) {o : List Int} (h : Owned p 0 [] 0 o) : ∀ j t, Own p j t → o.getD j 0 = t := fun j t ho => by
  refine h j t ho ?_
  rcases ho.up with h1 | ⟨i, x, h1, h2, _⟩
  · exact .inl h1
  · exact .inr (.inl ⟨i, x, by omega, h1, h2⟩)
/-- node i has its owner when the nodes behind it are done -/
theorem Owned.at {p : Prg} (hv : p.V) {i q : Nat} {ra o : List Int} (h : Owned p (i + 1) ra q o) (hi : i < p.ns.length) : o.getD i 0 = p.own i := by
  have ho := hv.own_is hi
  refine h i _ ho ?_
  rcases ho.up with h1 | ⟨i', x, h1, h2, _⟩
  · exact .inl h1
  · have := hv.arg_lt h1 h2
    exact .inr (.inl ⟨i', x, by omega, h1, h2⟩)
theorem Owned.step {p : Prg} (hv : p.V) {i q a : Nat} {x : Nd} {o : List Int} (h : Owned p (i + 1) x.args q o) (hx : p.ns[i]? = some x) (ha : x.args[q]? = some (a : Int)) (hl : a < o.length) : Owned p (i + 1) x.args (q + 1) (o.set a (p.own i)) := by
  intro j t ho hs
  have hi := (List.getElem?_eq_some_iff.1 hx).1
  rw [getD_set _ _ _ _ hl]
  by_cases e : a = j
  · subst e
    rw [if_pos rfl]
    have h1 := (hv.own_is hi).down hx (List.mem_of_getElem? ha)
    have h2 := hv.own_eq h1
    have h3 := hv.own_eq ho
    omega
  · rw [if_neg e]
    refine h j t ho ?_
    rcases hs with h1 | h1 | ⟨y, h1, h2⟩
    · exact .inl h1
    · exact .inr (.inl h1)
    · by_cases e2 : y = q
      · subst e2
        rw [ha] at h2
        injection h2 with h2
        omega
      · exact .inr (.inr ⟨y, by omega, h2⟩)
theorem Owned.next {p : Prg} {i : Nat} {x : Nd} {o : List Int} (h : Owned p (i + 1) x.args x.args.length o) (hx : p.ns[i]? = some x) : Owned p i [] 0 o := by
  intro j t ho hs
  refine h j t ho ?_
  rcases hs with h1 | ⟨i', y, h1, h2, h3⟩ | ⟨y, h1, h2⟩
  · exact .inl h1
  · by_cases e : i' = i
    · subst e
      rw [hx] at h2
      injection h2 with h2
      subst h2
      obtain ⟨q, hq, hqa⟩ := List.getElem_of_mem h3
      exact .inr (.inr ⟨q, hq, by rw [← hqa]; simp [hq]⟩)
    · exact .inr (.inl ⟨i', y, by omega, h2, h3⟩)
  · omega
theorem Owned.any {p : Prg} {m : Nat} {ra : List Int} {o : List Int} (h : Owned p m [] 0 o) : Owned p m ra 0 o := by
  intro j t ho hs
  refine h j t ho ?_
  rcases hs with h1 | h1 | ⟨y, h1, h2⟩
  · exact .inl h1
  · exact .inr (.inl h1)
  · omega
set_option maxRecDepth 20000 in
set_option maxHeartbeats 12800000 in
theorem sOwners_any (lo hi : Nat) (v : Value) (p : Prg) (w : World) (hv : p.R lo hi w v) (hh : hi ≤ w.heap.size) (hp : p.V) (hgl : p.gs.length ≤ 1048576) :
    Calls Tryz.prog 111 #[v] w fun e w' => (∃ a c, e = .returned (.slice a p.ns.length c) ∧ OwnInts w.heap.size w' (.slice a p.ns.length c) p.ownL) ∧ Ext w w' := by
  obtain ⟨i0, hi0, hz0, hz1, hz2⟩ := info_parts info_int
  obtain ⟨a1, c1, a2, c2, rfl, HN, HG⟩ := hv.form
  have l1 := HN.le
  have l2 := HN.cap
  have l3 := HG.le
  have l4 := HG.cap
  have l5 := hp.len
  clear hv
  have bB := Bx.made w #[.slice a1 p.ns.length c1, .slice a2 p.gs.length c2] 26
  have x0 : Ext w (w.alloc (.cells #[.slice a1 p.ns.length c1, .slice a2 p.gs.length c2] 26)) := (by repeat (with_reducible (first | assumption | exact Ext.refl _ | apply Ext.alloc | apply Ext.drew | apply Ext.drewN)))
  go_enter Tryz.func111, Tryz.ntmps111
  go_wp2_with (at_make; refine wpList_make_full _ rfl _ _ 29 rfl (w.heap.size + 1) 3 i0 (.int .i64 0) 1 Tryz.underlying29 hi0 hz0 hz1 _ _ _ _ p.ns.length rfl rfl rfl rfl (by rw [hz2]; omega) (by unfold maxLen; omega) (by simp) ?_)
  intro w1 hown hgrow
  rw [made_ints] at hown
  have hs1 := World.size_alloc w (.cells #[.slice a1 p.ns.length c1, .slice a2 p.gs.length c2] 26)
  have x1 : Ext (w.alloc (.cells #[.slice a1 p.ns.length c1, .slice a2 p.gs.length c2] 26)) w1 := (Ext.refl _).grown hgrow (fun k h => by cases h)
  have HO := hid (show OwnInts (w.heap.size + 1) w1 (.slice (some ⟨w.heap.size + 1, 0, none⟩) p.ns.length p.ns.length) (List.replicate p.ns.length 0) from ⟨by simpa using hown, fun x hx => by rw [(List.mem_replicate.1 hx).2]; exact ⟨by decide, by decide⟩⟩)
  have X1 := hid (x0.trans x1)
  have bB1' := bB.ext x1
  have bB1 := hid bB1'
  have q := bB1'.lt
  have q0 := bB1'.cell 0
  simp only [List.getElem?_toArray, List.getElem?_cons_zero, List.getElem?_cons_succ] at q0
  have q1 := bB1'.cell 1
  simp only [List.getElem?_toArray, List.getElem?_cons_zero, List.getElem?_cons_succ] at q1
  clear bB1'
  clear hown hgrow hi0 hz0 hz1 hz2 x1 x0 bB hs1
  go_wp2
  go_loopw [16] (fun i wr => ∃ (k : Nat) (o : List Int), k ≤ p.gs.length ∧ i = .int .i64 k ∧ Ext w wr ∧ Bx wr w.heap.size #[.slice a1 p.ns.length c1, .slice a2 p.gs.length c2] 26 ∧ OwnInts (w.heap.size + 1) wr (.slice (some ⟨w.heap.size + 1, 0, none⟩) p.ns.length p.ns.length) o ∧ o.length = p.ns.length ∧ (∀ (t j : Nat) (s : ByteArray), t < k → p.gs[t]? = some ⟨s, j⟩ → o.getD j 0 = t)) (fun i _ => p.gs.length - (intOf i).toNat)
  case atStart => exact ⟨0, _, by omega, rfl, X1.out, bB1.out, HO.out, by simp, fun t j s h => by omega⟩
  case round =>
    clear HO X1 bB1 q q0 q1
    obtain ⟨k, o, hk, rfl, hx, hB, hO, hol, hA⟩ := hrel
    have HX := hid hx
    have HB := hid hB
    have HO := hid hO
    have HOL := hid hol
    have HA := hid hA
    by_cases hlt : k < p.gs.length
    · obtain ⟨b, off, s, rt, rfl, hb1, hbw, hdrop, hget, ir, y0, y1⟩ := HG.at hlt hx hh
      have hrb := (hp.ag k _ hget).2
      simp only at hrb
      obtain ⟨r, rfl⟩ : ∃ r : Nat, rt = r := ⟨rt.toNat, by omega⟩
      have hr : r < p.ns.length := by omega
      have HG1 := hid hget
      have q0 : Ext wr (wr.alloc (.cells #[.string s, .int .i64 r] 74)) := (by repeat (with_reducible (first | assumption | exact Ext.refl _ | apply Ext.alloc | apply Ext.drew | apply Ext.drewN)))
      have hO2 := hO.ext q0
      have HXX := hid (hx.trans q0)
      have HB2 := hid (hB.ext q0)
      have zx := q0.size
      obtain ⟨r1, r2, r3, r4, r5⟩ := hO2.upd (by omega) hr
      have HS := hid (r5 k ⟨by omega, by omega⟩)
      clear hO hO2 HO HX hB HB hol hA hdrop hget hx q0 r5
      go_wp2
      go_roundw
      case rel =>
        refine ⟨k + 1, o.set r k, by omega, by go_num, ?_, HB2.out.other (by simp) _, HS.out, by rw [List.length_set]; exact HOL.out, fun t j s' ht hs' => ?_⟩
        · have hx := HXX.out
          exact (by repeat (first | with_reducible assumption | with_reducible exact Ext.refl _ | with_reducible apply Ext.alloc | with_reducible apply Ext.drew | with_reducible apply Ext.drewN | (with_reducible refine Ext.setCell ?_ (by simp; omega) _) | (with_reducible refine Ext.setCell ?_ (by simp) _)))
        · rw [getD_set _ _ _ _ (by rw [HOL.out]; exact hr)]
          by_cases e : r = j
          · subst e
            rw [if_pos rfl]
            have h1 := hp.own_eq (Own.root HG1.out)
            have h2 := hp.own_eq (Own.root hs')
            omega
          · rw [if_neg e]
            refine HA.out t j s' ?_ hs'
            by_cases e2 : t = k
            · subst e2
              rw [HG1.out] at hs'
              simp only [Option.some.injEq, Asg.mk.injEq] at hs'
              omega
            · omega
      case measure => simp [intOf]; omega
    · obtain rfl : k = p.gs.length := by omega
      have HW : Hid (Owned p p.ns.length [] 0 o) := hid (fun j t _ hs => by
        rcases hs with ⟨s, h1⟩ | ⟨i, x, h1, h2, _⟩ | ⟨y, h1, h2⟩
        · exact HA.out t j s (List.getElem?_eq_some_iff.1 h1).1 h1
        · have := (List.getElem?_eq_some_iff.1 h2).1
          omega
        · omega)
      have q := hB.lt
      have q0 := hB.cell 0
      simp only [List.getElem?_toArray, List.getElem?_cons_zero, List.getElem?_cons_succ] at q0
      have q1 := hB.cell 1
      simp only [List.getElem?_toArray, List.getElem?_cons_zero, List.getElem?_cons_succ] at q1
      clear hx hB hO hol hA HA
      go_wp2
      go_loopw [6] (fun i wr => ∃ (m : Nat) (o : List Int), m ≤ p.ns.length ∧ i = .int .i64 ((m : Int) - 1) ∧ Ext w wr ∧ Bx wr w.heap.size #[.slice a1 p.ns.length c1, .slice a2 p.gs.length c2] 26 ∧ OwnInts (w.heap.size + 1) wr (.slice (some ⟨w.heap.size + 1, 0, none⟩) p.ns.length p.ns.length) o ∧ o.length = p.ns.length ∧ Owned p m [] 0 o) (fun i _ => (intOf i + 1).toNat)
      case atStart => exact ⟨p.ns.length, o, by omega, rfl, HX.out, HB.out, HO.out, HOL.out, HW.out⟩
      case round =>
        clear HX HB HO HOL HW q q0 q1
        obtain ⟨m, o, hm, rfl, hx, hB, hO, hol, hW⟩ := hrel
        have HX := hid hx
        have HB := hid hB
        have HO := hid hO
        have HOL := hid hol
        have HW := hid hW
        rcases (show m = 0 ∨ ∃ i, m = i + 1 from by cases m <;> simp) with rfl | ⟨i, rfl⟩
        · clear hx hB hO hol hW
          go_wp2
          go_ret
          have e : o = p.ownL := Prg.ownL_of hp HOL.out (HW.out.all hp)
          exact ⟨⟨_, _, rfl, by rw [← e]; exact HO.out.low (by omega)⟩, HX.out⟩
        · have e1 : (((i + 1 : Nat) : Int) - 1) = i := by omega
          rw [e1]
          have hil : i < p.ns.length := by omega
          obtain ⟨b, off, op, s, num, sa, sc, ra, rfl, hb1, hbw, hget, io, inn, hI, HI, y0, y1, y2, y3⟩ := HN.atW hil hx hh
          have HG1 := hid hget
          have li1 := HI.le
          have li2 := HI.cap
          have q := hB.lt
          have q0 := hB.cell 0
          simp only [List.getElem?_toArray, List.getElem?_cons_zero, List.getElem?_cons_succ] at q0
          have q1 := hB.cell 1
          simp only [List.getElem?_toArray, List.getElem?_cons_zero, List.getElem?_cons_succ] at q1
          clear hget hx hB hO hol hW hI e1 y0 y1 y2
          go_wp2
          go_loopw [42] (fun z wr => ∃ (j : Nat) (o : List Int), j ≤ ra.length ∧ z = .int .i64 j ∧ Ext w wr ∧ Bx wr w.heap.size #[.slice (some ⟨b, off, none⟩) p.ns.length c1, .slice a2 p.gs.length c2] 26 ∧ OwnInts (w.heap.size + 1) wr (.slice (some ⟨w.heap.size + 1, 0, none⟩) p.ns.length p.ns.length) o ∧ o.length = p.ns.length ∧ Owned p (i + 1) ra j o) (fun z _ => ra.length - (intOf z).toNat)
          case atStart => exact ⟨0, o, by omega, rfl, HX.out, HB.out, HO.out, HOL.out, HW.out.any⟩
          case round =>
            clear HX HB HO HOL HW q q0 q1
            obtain ⟨j, o, hj, rfl, hx, hB, hO, hol, hW⟩ := hrel
            have HX := hid hx
            have HB := hid hB
            have HO := hid hO
            have HOL := hid hol
            have HW := hid hW
            by_cases hlj : j < ra.length
            · obtain ⟨b3, off3, y, rfl, hb3, hy, _, hc3⟩ := HI.atE hlj hx hh
              have hyb := (hp.nd i _ HG1.out).2 y (List.mem_of_getElem? hy)
              obtain ⟨z, rfl⟩ : ∃ z : Nat, y = z := ⟨y.toNat, by omega⟩
              have hz : z < p.ns.length := by omega
              have HY := hid hy
              have hoi := hW.at hp hil
              obtain ⟨g1, g2, g3, g4, g5⟩ := hO.upd (by omega) hil
              rw [hoi] at g3
              obtain ⟨r1, r2, r3, r4, r5⟩ := hO.upd (by omega) hz
              have hob := ((hp.own_is hil).lt hp).2
              obtain ⟨ow, how⟩ : ∃ ow, p.own i = ow := ⟨_, rfl⟩
              have HOW := hid how
              rw [how] at g3 hob
              have HS := hid (r5 ow ⟨by omega, by omega⟩)
              clear hx hB hO hol hW hy g5 r5 hoi how
              go_wp2
              go_roundw
              case rel =>
                refine ⟨j + 1, o.set z ow, by omega, by go_num, ?_, HB.out.other (by simp) _, HS.out, by rw [List.length_set]; exact HOL.out, ?_⟩
                · have hx := HX.out
                  exact (by repeat (first | with_reducible assumption | with_reducible exact Ext.refl _ | with_reducible apply Ext.alloc | with_reducible apply Ext.drew | with_reducible apply Ext.drewN | (with_reducible refine Ext.setCell ?_ (by simp; omega) _) | (with_reducible refine Ext.setCell ?_ (by simp) _)))
                · have := HW.out.step (x := ⟨op, s, num, ra⟩) hp HG1.out HY.out (by rw [HOL.out]; exact hz)
                  rw [HOW.out] at this
                  exact this
              case measure => simp [intOf]; omega
            · obtain rfl : j = ra.length := by omega
              have HW2 := hid (hW.next (x := ⟨op, s, num, ra⟩) HG1.out)
              clear hx hB hO hol hW HW
              go_wp2
              go_roundw
              case rel => exact ⟨i, o, by omega, by go_num, HX.out, HB.out, HO.out, HOL.out, HW2.out⟩
              case measure => simp [intOf] <;> omega
end Go.Proofs.YtaegmenjgjdimaaGreat
end

section
/- This text proves what the program's table of first assignments holds, and the laws of a look into it. -/
namespace Go.Proofs.YtaegmenjgjdimaaGreat
open Go.RowKit Go.Maps Go.WideMaps

/-- the first of the first k assignments to a name -/
def frst (gs : List Asg) (k : Nat) (l : List UInt8) : Option Nat := (gs.take k).findIdx? fun a => a.name.toList == l
/-- is the name assigned to ahead of assignment t? -/
def asgB (gs : List Asg) (t : Nat) (l : List UInt8) : Bool := (gs.take t).any fun a => a.name.toList == l
theorem frst_succ {gs : List Asg} {k : Nat} {a : Asg} (h : gs[k]? = some a) (l : List UInt8) : frst gs (k + 1) l = (frst gs k l).or (if a.name.toList == l then some k else none) := by
  have hk := (List.getElem?_eq_some_iff.1 h).1
  unfold frst
  rw [take_step h, List.findIdx?_append, List.length_take, Nat.min_eq_left (by omega)]
  cases (gs.take k).findIdx? fun a => a.name.toList == l
  · by_cases e : (a.name.toList == l) = true <;> simp [e, List.findIdx?_cons]
  · simp
theorem asgB_iff {gs : List Asg} {t : Nat} {l : List UInt8} : asgB gs t l = true ↔ ∃ (i : Nat) (a : Asg), i < t ∧ gs[i]? = some a ∧ a.name.toList = l := by
  unfold asgB
  rw [List.any_eq_true]
  constructor
  · rintro ⟨a, ha, he⟩
    obtain ⟨i, hi, rfl⟩ := List.getElem_of_mem ha
    simp only [List.length_take] at hi
    exact ⟨i, gs[i]'(by omega), by omega, by simp, by simpa using he⟩
  · rintro ⟨i, a, h1, h2, h3⟩
    refine ⟨a, ?_, by simp [h3]⟩
    have hi := (List.getElem?_eq_some_iff.1 h2).1
    exact List.mem_of_getElem? (i := i) (by rw [List.getElem?_take, if_pos h1]; exact h2)
theorem frst_some {gs : List Asg} {k i : Nat} {l : List UInt8} (h : frst gs k l = some i) : i < k ∧ (∃ a : Asg, gs[i]? = some a ∧ a.name.toList = l) ∧ ∀ (j : Nat) (a : Asg), j < i → gs[j]? = some a → a.name.toList ≠ l := by
  unfold frst at h
  rw [List.findIdx?_eq_some_iff_getElem] at h
  obtain ⟨h1, h2, h3⟩ := h
  simp only [List.length_take] at h1
  refine ⟨by omega, ⟨gs[i]'(by omega), by simp, by simpa using h2⟩, fun j a hj ha => ?_⟩
  have := h3 j hj
  have hl := (List.getElem?_eq_some_iff.1 ha)
  simp only [List.getElem_take] at this
  rw [hl.2] at this
  simpa using this
theorem frst_none {gs : List Asg} {k : Nat} {l : List UInt8} (h : frst gs k l = none) : asgB gs k l = false := by
  unfold frst at h
  rw [List.findIdx?_eq_none_iff] at h
  unfold asgB
  rw [List.any_eq_false]
  intro a ha
  simpa using h a ha
theorem asgB_mono {gs : List Asg} {t t' : Nat} {l : List UInt8} (h : asgB gs t l = true) (ht : t ≤ t') : asgB gs t' l = true := by
  obtain ⟨i, a, h1, h2, h3⟩ := asgB_iff.1 h
  exact asgB_iff.2 ⟨i, a, by omega, h2, h3⟩
/-- the first assignment to a name lies ahead of t just if one does -/
theorem frst_lt {gs : List Asg} {i t : Nat} {l : List UInt8} (h : frst gs gs.length l = some i) : asgB gs t l = decide (i < t) := by
  obtain ⟨h1, ⟨a, h2, h3⟩, h4⟩ := frst_some h
  rw [Bool.eq_iff_iff, asgB_iff, decide_eq_true_eq]
  constructor
  · rintro ⟨j, b, h5, h6, h7⟩
    have : ¬ j < i := fun hj => h4 j b hj h6 h7
    omega
  · intro ht
    exact ⟨i, a, ht, h2, h3⟩
theorem frst_no {gs : List Asg} {t : Nat} {l : List UInt8} (h : frst gs gs.length l = none) : asgB gs t l = false := by
  have h1 := frst_none h
  cases e : asgB gs t l
  · rfl
  · obtain ⟨i, a, h2, h3, h4⟩ := asgB_iff.1 e
    have := asgB_iff.2 ⟨i, a, (List.getElem?_eq_some_iff.1 h3).1, h3, h4⟩
    rw [h1] at this
    cases this

theorem strLaw : Keyed Tryz.prog 9 := string_keyed Tryz.underlying9
theorem keyS {s : ByteArray} (hs : s.size ≤ maxLen) : keyOf Tryz.prog 9 (.string s) = some (.string s.toList) := by
  rw [keyOf_string_mk Tryz.underlying9 hs, Lib.toList_data]
theorem zeroI (w : World) : (zeroValue 3).run Tryz.prog w = .ok (.int .i64 0) w := by kernel_rfl
/-- what the map of first assignments reads as -/
def FirstD (D : DataW Unit) (gs : List Asg) (k : Nat) : Prop :=
  IsMap D ∧ ∀ s : ByteArray, s.size ≤ maxLen → has D (.string s.toList) = (frst gs k s.toList).isSome ∧ ∀ t, frst gs k s.toList = some t → ∀ z, D.atKey (.string s.toList) z = .lit (.int .i64 (t : Nat))
/-- block b is the map of the first of the first k assignments to each name -/
def FM (w : World) (b : Nat) (gs : List Asg) (k : Nat) : Prop := ∃ (n : Nat) (D : DataW Unit), n ≤ k ∧ w.ownsMap Tryz.prog 9 (plainElem Tryz.prog 3) b n D ∧ FirstD D gs k
theorem FM.of_block {w w' : World} {b : Nat} {gs : List Asg} {k : Nat} (h : FM w b gs k) (e : w'.heap[b]? = w.heap[b]?) : FM w' b gs k := by
  obtain ⟨n, D, hn, ⟨es, clock, hb, r⟩, hD⟩ := h
  exact ⟨n, D, hn, ⟨es, clock, by rw [e]; exact hb, r⟩, hD⟩
theorem FM.lt {w : World} {b : Nat} {gs : List Asg} {k : Nat} (h : FM w b gs k) : b < w.heap.size := by
  obtain ⟨n, D, hn, h1, hD⟩ := h
  exact h1.lt
theorem FM.ext {w w' : World} {b : Nat} {gs : List Asg} {k : Nat} (h : FM w b gs k) (e : Ext w w') : FM w' b gs k := h.of_block (e.block h.lt)
theorem FM.made (w : World) (gs : List Asg) : FM (w.alloc (.map #[] 0)) w.heap.size gs 0 :=
  ⟨0, _, Nat.le_refl _, World.ownsMap_made _ _ _ _, isMap_empty, fun s _ => ⟨rfl, fun t h => by simp [frst] at h⟩⟩
/-- a look with 'ok' -/
theorem wpList_first_ok (w : World) {ops : Array Oper} {rest : List Oper} {o : Oper} {a : Act} {Q : Exit → Act → World → Prop} (hg : o.guard = none) (m x : Operand) (hop : o.op = Op.lookup 69 m x true)
    (b k : Nat) (gs : List Asg) (hm : a.eval m = .map (some b)) (h : FM w b gs k) (s : ByteArray) (hs : s.size ≤ maxLen) (hx : a.eval x = .string s) (r : Option Nat) (hr : frst gs k s.toList = r)
    (hK : wpList Tryz.prog ops Q rest (a.put o.dst (.tuple #[.int .i64 ((r.getD 0 : Nat) : Int), .bool r.isSome])) w) : wpList Tryz.prog ops Q (o :: rest) a w := by
  obtain ⟨n, D, hn, hown, hm1, hm2⟩ := h
  obtain ⟨h1, h2⟩ := hm2 s hs
  refine wpList_lookup_own_ok_int w hg m x 69 hop 9 3 .i64 strLaw Tryz.underlying69 Tryz.underlying3 (zeroI _) b n D hm hown _ _ hx (keyS hs) ?_
  intro c hat _
  rw [h1, hr]
  have hc : c = ((r.getD 0 : Nat) : Int) := by
    cases r with
    | none =>
      rw [hr] at h1
      rw [atKey_of_not_has (by simpa using h1)] at hat
      injection hat with hat
      injection hat with _ hat
      rw [← hat]
      rfl
    | some t =>
      rw [h2 t hr] at hat
      injection hat with hat
      injection hat with _ hat
      exact hat.symm
  rw [hc]
  exact hK
/-- a look without -/
theorem wpList_first (w : World) {ops : Array Oper} {rest : List Oper} {o : Oper} {a : Act} {Q : Exit → Act → World → Prop} (hg : o.guard = none) (m x : Operand) (hop : o.op = Op.lookup 69 m x false)
    (b k : Nat) (gs : List Asg) (hm : a.eval m = .map (some b)) (h : FM w b gs k) (s : ByteArray) (hs : s.size ≤ maxLen) (hx : a.eval x = .string s) (t : Nat) (hr : frst gs k s.toList = some t)
    (hK : wpList Tryz.prog ops Q rest (a.put o.dst (.int .i64 (t : Int))) w) : wpList Tryz.prog ops Q (o :: rest) a w := by
  obtain ⟨n, D, hn, hown, hm1, hm2⟩ := h
  obtain ⟨h1, h2⟩ := hm2 s hs
  refine wpList_lookup_own_int w hg m x 69 hop 9 3 .i64 strLaw Tryz.underlying69 Tryz.underlying3 (zeroI _) b n D hm hown _ _ hx (keyS hs) ?_
  intro c hat _
  rw [h2 t hr] at hat
  injection hat with hat
  injection hat with _ hat
  rw [← hat]
  exact hK
theorem FirstD.skip {D : DataW Unit} {gs : List Asg} {k t : Nat} {a : Asg} (h : FirstD D gs k) (ha : gs[k]? = some a) (ht : frst gs k a.name.toList = some t) : FirstD D gs (k + 1) := by
  refine ⟨h.1, fun s hs => ?_⟩
  have e : frst gs (k + 1) s.toList = frst gs k s.toList := by
    rw [frst_succ ha]
    by_cases he : (a.name.toList == s.toList) = true
    · rw [eq_of_beq he] at ht
      rw [ht]
      rfl
    · simp [he]
  rw [e]
  exact h.2 s hs
theorem FirstD.put {D : DataW Unit} {gs : List Asg} {k : Nat} {a : Asg} (h : FirstD D gs k) (ha : gs[k]? = some a) (hn : a.name.size ≤ maxLen) (ht : frst gs k a.name.toList = none) : FirstD (D.put (.string a.name.toList) (.lit (.int .i64 (k : Nat)))) gs (k + 1) := by
  have hkl : WideAt.IsKeyLit (.string a.name.toList) := strLaw.key (keyS hn)
  refine ⟨h.1.put _ _, fun s hs => ?_⟩
  rw [frst_succ ha]
  by_cases he : (a.name.toList == s.toList) = true
  · have e := eq_of_beq he
    rw [← e, ht]
    refine ⟨by rw [has_put_same h.1 hkl]; simp, fun t hts z => ?_⟩
    rw [atKey_put_same h.1 hkl]
    simp at hts
    rw [hts]
  · have hne : Lit.string s.toList ≠ Lit.string a.name.toList := fun e => he (by injection e with e; rw [e]; simp)
    rw [has_put_other hne]
    simp only [he, Bool.false_eq_true, if_false, Option.or_none]
    exact ⟨(h.2 s hs).1, fun t hts z => by rw [atKey_put_other hne]; exact (h.2 s hs).2 t hts z⟩
theorem FM.skip {w : World} {b k t : Nat} {gs : List Asg} {a : Asg} (h : FM w b gs k) (ha : gs[k]? = some a) (ht : frst gs k a.name.toList = some t) : FM w b gs (k + 1) := by
  obtain ⟨n, D, hn, h1, h2⟩ := h
  exact ⟨n, D, by omega, h1, h2.skip ha ht⟩
/-- a new name is stored -/
theorem wpList_first_put (w : World) {ops : Array Oper} {rest : List Oper} {o : Oper} {a : Act} {Q : Exit → Act → World → Prop} (hg : o.guard = none) (m x v : Operand) (hop : o.op = Op.mapUpdate 69 m x v)
    (b k : Nat) (gs : List Asg) (hm : a.eval m = .map (some b)) (h : FM w b gs k) (hk : k ≤ 10000000) (g : Asg) (hgk : gs[k]? = some g) (hs : g.name.size ≤ maxLen) (hx : a.eval x = .string g.name) (hv : a.eval v = .int .i64 (k : Int)) (hr : frst gs k g.name.toList = none)
    (hK : ∀ w', FM w' b gs (k + 1) → w.grownBy w' (some b) → wpList Tryz.prog ops Q rest (a.put o.dst undef) w') : wpList Tryz.prog ops Q (o :: rest) a w := by
  obtain ⟨n, D, hn, hown, hD⟩ := h
  refine wpList_mapUpdate_own w hg m x v 69 hop 9 3 strLaw Tryz.underlying69 _ b n D hm hown (by unfold maxLen; omega) _ _ _ hx hv (keyS hs) (.lit (.int .i64 (k : Int))) [] (plainElem_int Tryz.underlying3 (by simp [Lit.wf, IntKind.min, IntKind.max, IntKind.bits, IntKind.signed]; omega)) ?_
  intro w' h1 h2
  exact hK w' ⟨n + 1, _, by omega, h1, hD.put hgk hs hr⟩ h2
end Go.Proofs.YtaegmenjgjdimaaGreat
end

section
/- This text proves the program's table of first assignments, and what the reference looks up of assignments. -/
namespace Go.Proofs.YtaegmenjgjdimaaGreat
open Go.RowKit Go.Maps Go.WideMaps

set_option maxRecDepth 20000 in
set_option maxHeartbeats 6400000 in
theorem iAssigned_any (lo hi : Nat) (v : Value) (p : Prg) (w : World) (hv : p.R lo hi w v) (hh : hi ≤ w.heap.size) (hb : p.bd) (hgl : p.gs.length ≤ 1048576) :
    Calls Tryz.prog 30 #[v] w fun e w' => (∃ b, e = .returned (.map (some b)) ∧ w.heap.size ≤ b ∧ FM w' b p.gs p.gs.length) ∧ Ext w w' := by
  obtain ⟨a1, c1, a2, c2, rfl, HN, HG⟩ := hv.form
  have l3 := HG.le
  have l4 := HG.cap
  have HBD := hid hb.2
  clear hv hb HN
  have hmm := @run_makeMap Tryz.prog
  go_enter Tryz.func30, Tryz.ntmps30
  go_wp2
  have hM := FM.made (w.alloc (.cells #[.slice a1 p.ns.length c1, .slice a2 p.gs.length c2] 26)) p.gs
  simp only [World.size_alloc] at hM
  go_loopw [12] (fun i wr => ∃ k : Nat, k ≤ p.gs.length ∧ i = .int .i64 k ∧ FM wr (w.heap.size + 1) p.gs k ∧ Ext w wr) (fun i _ => p.gs.length - (intOf i).toNat)
  case atStart => exact ⟨0, by omega, rfl, hM, (by repeat (with_reducible (first | assumption | exact Ext.refl _ | apply Ext.alloc | apply Ext.drew | apply Ext.drewN)))⟩
  case round =>
    clear hM hmm
    obtain ⟨k, hk, rfl, hM, hx⟩ := hrel
    have HX := hid hx
    have HM := hid hM
    have hml := hM.lt
    by_cases hlt : k < p.gs.length
    · obtain ⟨b, off, s, rt, rfl, hb1, hbw, hdrop, hget, ir, y0, y1⟩ := HG.at hlt hx hh
      have hsz := HBD.out _ (List.mem_of_getElem? hget)
      simp only at hsz
      have HG1 := hid hget
      have q0 : Ext wr (wr.alloc (.cells #[.string s, .int .i64 rt] 74)) := (by repeat (with_reducible (first | assumption | exact Ext.refl _ | apply Ext.alloc | apply Ext.drew | apply Ext.drewN)))
      have HMX := hid (hM.ext q0)
      have HXX := hid (hx.trans q0)
      clear hdrop hget hx hM q0
      cases hr : frst p.gs k s.toList with
      | none =>
        have HR := hid hr
        clear hr
        go_wp2_with (first | (at_lookup; refine wpList_first_ok _ rfl _ _ rfl _ _ _ rfl HMX.out _ hsz rfl _ HR.out ?_) | (at_mapUpdate; refine wpList_first_put _ rfl _ _ _ rfl _ _ _ rfl HMX.out (by omega) _ HG1.out hsz rfl rfl HR.out ?_; intro w2 hM2 hg2))
        have HM2 := hid hM2
        have HX2 := hid (HXX.out.grown hg2 (fun k h => by cases h; omega))
        clear hM2 hg2
        go_wp2
        go_roundw
        case rel => exact ⟨k + 1, by omega, by go_num, HM2.out, HX2.out⟩
        case measure => simp [intOf]; omega
      | some t =>
        have HR := hid hr
        clear hr
        go_wp2_with (at_lookup; refine wpList_first_ok _ rfl _ _ rfl _ _ _ rfl HMX.out _ hsz rfl _ HR.out ?_)
        go_roundw
        case rel => exact ⟨k + 1, by omega, by go_num, HMX.out.skip HG1.out HR.out, HXX.out⟩
        case measure => simp [intOf]; omega
    · obtain rfl : k = p.gs.length := by omega
      clear hx hM
      go_wp2
      go_ret
      exact ⟨⟨_, rfl, by omega, HM.out⟩, HX.out⟩
def atB (gs : List Asg) (k : Nat) (l : List UInt8) : Bool := match gs[k]? with | some a => a.name.toList == l | none => false
theorem atB_at {gs : List Asg} {k : Nat} {a : Asg} (h : gs[k]? = some a) (l : List UInt8) : atB gs k l = (a.name.toList == l) := by unfold atB; rw [h]
/-- the last assignment to a name ahead of t, -1: none -/
def lastTo (gs : List Asg) (t : Int) (l : List UInt8) : Nat → Int
  | 0 => -1
  | k + 1 => if (k : Int) < t ∧ atB gs k l = true then (k : Int) else lastTo gs t l k
theorem lastTo_step {gs : List Asg} {t : Int} {l : List UInt8} {k : Nat} {a : Asg} (h : gs[k]? = some a) : lastTo gs t l (k + 1) = if (k : Int) < t ∧ (a.name.toList == l) = true then (k : Int) else lastTo gs t l k := by
  simp only [lastTo, atB_at h]
theorem lastTo_bd (gs : List Asg) (t : Int) (l : List UInt8) : ∀ k, -1 ≤ lastTo gs t l k ∧ lastTo gs t l k < k := by
  intro k
  induction k with
  | zero => simp [lastTo]
  | succ k ih =>
    unfold lastTo
    split
    all_goals omega
theorem lastTo_some {gs : List Asg} {t : Int} {l : List UInt8} : ∀ {k : Nat}, 0 ≤ lastTo gs t l k → ∃ (i : Nat) (a : Asg), lastTo gs t l k = i ∧ i < k ∧ (i : Int) < t ∧ gs[i]? = some a ∧ a.name.toList = l := by
  intro k
  induction k with
  | zero => intro h; simp [lastTo] at h
  | succ k ih =>
    intro h
    unfold lastTo at h ⊢
    by_cases hc : (k : Int) < t ∧ atB gs k l = true
    · rw [if_pos hc]
      cases hg : gs[k]? with
      | none => have := hc.2; unfold atB at this; rw [hg] at this; cases this
      | some a => exact ⟨k, a, rfl, by omega, hc.1, hg, by have := hc.2; rw [atB_at hg] at this; simpa using this⟩
    · rw [if_neg hc] at h ⊢
      obtain ⟨i, a, h1, h2, h3⟩ := ih h
      exact ⟨i, a, h1, by omega, h3⟩
theorem lastTo_none {gs : List Asg} {t : Int} {l : List UInt8} : ∀ {k : Nat}, lastTo gs t l k < 0 → ∀ (i : Nat) (a : Asg), i < k → (i : Int) < t → gs[i]? = some a → a.name.toList ≠ l := by
  intro k
  induction k with
  | zero => intro h i a hi; omega
  | succ k ih =>
    intro h i a hi ht hg
    unfold lastTo at h
    by_cases hc : (k : Int) < t ∧ atB gs k l = true
    · rw [if_pos hc] at h
      omega
    · rw [if_neg hc] at h
      by_cases e : i = k
      · subst e
        intro he
        exact hc ⟨ht, by rw [atB_at hg]; simp [he]⟩
      · exact ih h i a (by omega) ht hg
/-- is there one at all? -/
theorem lastTo_asg (gs : List Asg) (t : Nat) (l : List UInt8) : decide (0 ≤ lastTo gs t l gs.length) = asgB gs t l := by
  rw [Bool.eq_iff_iff, decide_eq_true_eq, asgB_iff]
  constructor
  · intro h
    obtain ⟨i, a, h1, h2, h3, h4, h5⟩ := lastTo_some h
    exact ⟨i, a, by omega, h4, h5⟩
  · rintro ⟨i, a, h1, h2, h3⟩
    by_cases e : 0 ≤ lastTo gs t l gs.length
    · exact e
    · exact absurd h3 (lastTo_none (gs := gs) (t := t) (l := l) (k := gs.length) (by omega) i a (List.getElem?_eq_some_iff.1 h2).1 (by omega) h2)
set_option maxRecDepth 20000 in
set_option maxHeartbeats 6400000 in
theorem sAssigned_any (lo hi : Nat) (v : Value) (p : Prg) (s : ByteArray) (t : Int) (w : World) (hv : p.R lo hi w v) (hh : hi ≤ w.heap.size) (hgl : p.gs.length ≤ 1048576) :
    Calls Tryz.prog 80 #[v, .string s, .int .i64 t] w fun e w' => e = .returned (.int .i64 (lastTo p.gs t s.toList p.gs.length)) ∧ Ext w w' := by
  obtain ⟨a1, c1, a2, c2, rfl, HN, HG⟩ := hv.form
  have l3 := HG.le
  have l4 := HG.cap
  clear hv HN
  go_enter Tryz.func80, Tryz.ntmps80
  go_wp2
  go_loopw [7, 13] (fun q i wr => ∃ k : Nat, k ≤ p.gs.length ∧ i = .int .i64 k ∧ q = .int .i64 (lastTo p.gs t s.toList k) ∧ Ext w wr) (fun _ i _ => p.gs.length - (intOf i).toNat)
  case atStart => exact ⟨0, by omega, rfl, rfl, (by repeat (with_reducible (first | assumption | exact Ext.refl _ | apply Ext.alloc | apply Ext.drew | apply Ext.drewN)))⟩
  case round =>
    obtain ⟨k, hk, rfl, rfl, hx⟩ := hrel
    have HX := hid hx
    by_cases hlt : k < p.gs.length
    · obtain ⟨b, off, s2, rt, rfl, hb1, hbw, hdrop, hget, ir, y0, y1⟩ := HG.at hlt hx hh
      have HS := hid (lastTo_step (t := t) (l := s.toList) hget)
      have HXX := hid (show Ext w (wr.alloc (.cells #[.string s2, .int .i64 rt] 74)) from (by repeat (with_reducible (first | assumption | exact Ext.refl _ | apply Ext.alloc | apply Ext.drew | apply Ext.drewN))))
      clear hdrop hget hx
      by_cases ht : (k : Int) < t
      · cases he : (s2.toList == s.toList)
        · have HE := hid he
          go_wp2
          go_roundw
          case rel => exact ⟨k + 1, by omega, by go_num, by rw [HS.out]; simp [HE.out], HXX.out⟩
          case measure => simp [intOf]; omega
        · have HE := hid he
          go_wp2
          go_roundw
          case rel => exact ⟨k + 1, by omega, by go_num, by rw [HS.out]; simp only [HE.out, ht, and_self, if_true], HXX.out⟩
          case measure => simp [intOf]; omega
      · go_wp2
        go_roundw
        case rel => exact ⟨k + 1, by omega, by go_num, by rw [HS.out, if_neg (fun h => by omega)], HXX.out⟩
        case measure => simp [intOf]; omega
    · obtain rfl : k = p.gs.length := by omega
      clear hx
      go_wp2
      go_ret
      exact ⟨rfl, HX.out⟩
end Go.Proofs.YtaegmenjgjdimaaGreat
end

section
/- This text proves the reference's look for a node with an unknown name. -/
namespace Go.Proofs.YtaegmenjgjdimaaGreat
open Go.RowKit

/-- the name of node k is known -/
noncomputable def Prg.nameB (p : Prg) (k : Nat) : Bool := match p.ns[k]? with | some x => if x.op = 2 then isVar x.name || asgB p.gs (p.own k) x.name.toList else if x.op = 8 then decide (0 ≤ arity x.name) else true | none => true
theorem Prg.nameB_at {p : Prg} {k : Nat} {x : Nd} (h : p.ns[k]? = some x) : p.nameB k = if x.op = 2 then isVar x.name || asgB p.gs (p.own k) x.name.toList else if x.op = 8 then decide (0 ≤ arity x.name) else true := by unfold Prg.nameB; rw [h]
theorem ownL_at {p : Prg} {k : Nat} {y : Int} (h : p.ownL[k]? = some y) : y = p.own k := by
  unfold Prg.ownL at h
  rw [List.getElem?_map] at h
  cases hk : (List.range p.ns.length)[k]? with
  | none => rw [hk] at h; cases h
  | some j =>
    have hj := (List.getElem?_eq_some_iff.1 hk)
    rw [hk] at h
    obtain ⟨h1, h2⟩ := hj
    simp at h2
    subst h2
    simpa using h.symm
theorem sAssigned_val {gs : List Asg} {t : Nat} {s : ByteArray} {z : Int} (hz : lastTo gs t s.toList gs.length = z) (lo hi : Nat) (v : Value) (p : Prg) (w : World) (hp : p.gs = gs) (hv : p.R lo hi w v) (hh : hi ≤ w.heap.size) (hgl : p.gs.length ≤ 1048576) :
    Calls Tryz.prog 80 #[v, .string s, .int .i64 t] w fun e w' => e = .returned (.int .i64 z) ∧ Ext w w' := by
  subst hp
  exact hz ▸ sAssigned_any lo hi v p s t w hv hh hgl
set_option maxRecDepth 20000 in
set_option maxHeartbeats 12800000 in
theorem sNames_any (lo hi : Nat) (v : Value) (p : Prg) (w : World) (hv : p.R lo hi w v) (hh : hi ≤ w.heap.size) (hp : p.V) (hgl : p.gs.length ≤ 1048576) :
    Calls Tryz.prog 77 #[v] w fun e w' => (∃ i : Int, e = .returned (.int .i64 i) ∧ decide (0 ≤ i) = !((List.range p.ns.length).all p.nameB)) ∧ Ext w w' := by
  have HV := hid hv
  obtain ⟨a1, c1, a2, c2, rfl, HN, HG⟩ := hv.form
  have l1 := HN.le
  have l2 := HN.cap
  have l3 := HG.le
  have l4 := HG.cap
  have l5 := hp.len
  clear hv
  have x0 : Ext w (w.alloc (.cells #[.slice a1 p.ns.length c1, .slice a2 p.gs.length c2] 26)) := (by repeat (with_reducible (first | assumption | exact Ext.refl _ | apply Ext.alloc | apply Ext.drew | apply Ext.drewN)))
  have bB := Bx.made w #[.slice a1 p.ns.length c1, .slice a2 p.gs.length c2] 26
  go_enter Tryz.func77, Tryz.ntmps77
  go_wp2_with fail
  refine (sOwners_any lo hi _ p _ (HV.out.ext hh x0) (Nat.le_trans hh x0.size) hp hgl).mono ?_
  rintro e w1 ⟨⟨oa, oc, rfl, hO⟩, x1⟩
  have hI := hO.ints
  obtain ⟨oa', oc', e1, HO⟩ := hI.open
  rw [Prg.ownL_len] at e1
  simp only [Value.slice.injEq, true_and] at e1
  obtain ⟨rfl, rfl⟩ := e1
  have lo1 := HO.le
  have lo2 := HO.cap
  rw [Prg.ownL_len] at lo1
  have bB1 := bB.ext x1
  have HB1 := hid bB1
  have X1 := hid (x0.trans x1)
  have q := bB1.lt
  have q0 := bB1.cell 0
  simp only [List.getElem?_toArray, List.getElem?_cons_zero, List.getElem?_cons_succ] at q0
  have q1 := bB1.cell 1
  simp only [List.getElem?_toArray, List.getElem?_cons_zero, List.getElem?_cons_succ] at q1
  clear x1 x0 bB bB1 hO hI
  go_wp2
  go_loopw [11] (fun i wr => ∃ k : Nat, k ≤ p.ns.length ∧ i = .int .i64 k ∧ (∀ j, j < k → p.nameB j = true) ∧ Bx wr w.heap.size #[.slice a1 p.ns.length c1, .slice a2 p.gs.length c2] 26 ∧ Ext w wr ∧ Ext w1 wr) (fun i _ => p.ns.length - (intOf i).toNat)
  case atStart => exact ⟨0, by omega, rfl, fun j h => by omega, HB1.out, X1.out, Ext.refl _⟩
  case round =>
    clear HB1 X1 q q0 q1
    obtain ⟨k, hk, rfl, hall, hB, hx, hx1⟩ := hrel
    have HA := hid hall
    have HX := hid hx
    have HX1 := hid hx1
    by_cases hlt : k < p.ns.length
    · obtain ⟨b, off, op, s, num, sa, sc, ra, rfl, hb1, hbw, hget, io, inn, hI, HI, y0, y1, y2, y3⟩ := HN.atW hlt hx hh
      have li1 := HI.le
      have li2 := HI.cap
      obtain ⟨ob, oo, oy, rfl, hob, hoy, _, hoc⟩ := HO.atE (k := k) (by rw [Prg.ownL_len]; exact hlt) hx1 (Nat.le_refl _)
      have e9 := ownL_at hoy
      subst e9
      have q0 : Ext wr (wr.alloc (.cells #[.int .i64 op, .string s, .int .i64 num, .slice sa ra.length sc] 79)) := (by repeat (with_reducible (first | assumption | exact Ext.refl _ | apply Ext.alloc | apply Ext.drew | apply Ext.drewN)))
      have HND := hid (Prg.nameB_at hget)
      have HBW := hid (hB.ext q0)
      have hVW := HV.out.ext hh (hx.trans q0)
      have HVW := hid hVW
      have zx := hx.size
      clear hget hall hB hx hx1 hI hoy hVW
      rcases (show op = 2 ∨ op = 8 ∨ (op ≠ 2 ∧ op ≠ 8) by omega) with rfl | rfl | ⟨o2, o8⟩
      · cases hv : isVar s
        · obtain ⟨z, hz⟩ : ∃ z, lastTo p.gs (p.own k) s.toList p.gs.length = z := ⟨_, rfl⟩
          have HZ := hid hz
          have HVR := hid hv
          have HND2 : Hid (p.nameB k = asgB p.gs (p.own k) s.toList) := hid (by rw [HND.out, if_pos rfl, hv]; rfl)
          clear HND
          have hbw := HBW.out
          have d := hbw.lt
          have d0 := hbw.cell 0
          simp only [List.getElem?_toArray, List.getElem?_cons_zero, List.getElem?_cons_succ] at d0
          have d1 := hbw.cell 1
          simp only [List.getElem?_toArray, List.getElem?_cons_zero, List.getElem?_cons_succ] at d1
          clear hz hv hbw
          have hob' : ob ≤ wr.heap.size := by omega
          have hob2 : ob < wr.heap.size + 1 := by omega
          have hbb2 : w.heap.size < wr.heap.size + 1 := by omega
          go_wp2_with fail
          refine wp_region_stages [([0, 1, 2, 3, 4, 5], 6), ([7, 8, 9, 10, 11, 12, 13, 14, 15, 16], 17), ([18], 19)] 99 (wr.heap.size + 1) (by kernel_rfl) (by kernel_rfl) ?_
          refine wpStages_cons ?_
          simp only [List.filterMap_cons, List.filterMap_nil, List.getElem?_toArray, List.getElem?_cons_zero, List.getElem?_cons_succ]
          show wpQuiet _ _ _ _ [_, _, _, _, _, _] _
          repeat (go_big_quiet_step (fail))
          refine wpQuiet_nil ⟨_, rfl, fun K hK => ?_⟩
          go_wp2_with fail
          refine (sIsVariable_val HVR.out _).mono ?_
          rintro e w2 ⟨rfl, x1⟩
          have X2 : Ext (wr.alloc (.cells #[.int .i64 2, .string s, .int .i64 num, .slice sa ra.length sc] 79)) w2 := Ext.trans (by repeat (with_reducible (first | assumption | exact Ext.refl _ | apply Ext.alloc | apply Ext.drew | apply Ext.drewN))) x1
          go_wp2_with fail
          refine hK _ _ (.inr (fun k _ hk => x1.block (by first | omega | (simp; omega)))) ?_
          clear hK K
          refine wpStages_cons ?_
          simp only [List.filterMap_cons, List.filterMap_nil, List.getElem?_toArray, List.getElem?_cons_zero, List.getElem?_cons_succ]
          show wpQuiet _ _ _ _ [_, _, _, _, _, _, _, _, _, _] _
          try simp only [Act.put, List.setIfInBounds_toArray, List.set_cons_succ, List.set_cons_zero]
          repeat (go_big_quiet_step (fail))
          refine wpQuiet_nil ⟨_, rfl, fun K hK => ?_⟩
          go_wp2_with fail
          refine (sAssigned_val HZ.out lo hi _ p _ rfl (HVW.out.ext (by simp; omega) (by repeat (with_reducible (first | assumption | exact Ext.refl _ | apply Ext.alloc | apply Ext.drew | apply Ext.drewN)))) (by have := X2.size; simp at this ⊢; omega) hgl).mono ?_
          rintro e w3 ⟨rfl, x3⟩
          have X3 := X2.trans x3
          go_wp2_with fail
          refine hK _ _ (.inr (fun k _ hk => X3.block (by first | omega | (simp; omega)))) ?_
          clear hK K
          have hb4 := HBW.out.ext X3
          have HX3 := hid ((HX.out.trans q0).trans X3)
          have HX4 := hid ((HX1.out.trans q0).trans X3)
          have HB4 := hid hb4
          have hxb := ((Bx.made wr #[.int .i64 2, .string s, .int .i64 num, .slice sa ra.length sc] 79).ext X3)
          have hza := lastTo_asg p.gs (p.own k) s.toList
          rw [HZ.out] at hza
          have HZA := hid hza
          have c := hxb.lt
          have c0 := hxb.cell 0
          simp only [List.getElem?_toArray, List.getElem?_cons_zero, List.getElem?_cons_succ] at c0
          have c1 := hxb.cell 1
          simp only [List.getElem?_toArray, List.getElem?_cons_zero, List.getElem?_cons_succ] at c1
          have c2 := hxb.cell 2
          simp only [List.getElem?_toArray, List.getElem?_cons_zero, List.getElem?_cons_succ] at c2
          have c3 := hxb.cell 3
          simp only [List.getElem?_toArray, List.getElem?_cons_zero, List.getElem?_cons_succ] at c3
          clear hb4 hxb hza
          by_cases hz0 : z < 0
          · have HN : Hid (p.nameB k = false) := hid (by rw [HND2.out, ← HZA.out]; simp; omega)
            refine wpStages_cons ?_
            simp only [List.filterMap_cons, List.filterMap_nil, List.getElem?_toArray, List.getElem?_cons_zero, List.getElem?_cons_succ]
            show wpQuiet _ _ _ _ [_] _
            try simp only [Act.put, List.setIfInBounds_toArray, List.set_cons_succ, List.set_cons_zero]
            repeat (go_big_quiet_step (fail))
            refine wpQuiet_nil ⟨_, rfl, fun K hK => ?_⟩
            go_wp2_with fail
            go_wp2_with fail
            refine hK _ _ (.inr (fun k _ hk => X3.block (by first | omega | (simp; omega)))) ?_
            clear hK K
            refine wpStages_nil ?_
            go_wp2
            go_ret
            exact ⟨⟨_, rfl, by rw [rng_no hlt HN.out]; simp⟩, HX3.out⟩
          · have HN : Hid (p.nameB k = true) := hid (by rw [HND2.out, ← HZA.out]; simp; omega)
            refine wpStages_cons ?_
            simp only [List.filterMap_cons, List.filterMap_nil, List.getElem?_toArray, List.getElem?_cons_zero, List.getElem?_cons_succ]
            show wpQuiet _ _ _ _ [_] _
            try simp only [Act.put, List.setIfInBounds_toArray, List.set_cons_succ, List.set_cons_zero]
            repeat (go_big_quiet_step (fail))
            refine wpQuiet_nil ⟨_, rfl, fun K hK => ?_⟩
            go_wp2_with fail
            go_wp2_with fail
            refine hK _ _ (.inr (fun k _ hk => X3.block (by first | omega | (simp; omega)))) ?_
            clear hK K
            refine wpStages_nil ?_
            go_wp2
            go_roundw
            case rel =>
              refine ⟨k + 1, by omega, by go_num, fun i hi => ?_, HB4.out, HX3.out, HX4.out⟩
              by_cases e : i = k
              · subst e; exact HN.out
              · exact HA.out i (by omega)
            case measure => simp [intOf]; omega
        · have HN : Hid (p.nameB k = true) := hid (by rw [HND.out, if_pos rfl, hv]; rfl)
          have HVR := hid hv
          clear hv
          go_wp2_with fail
          refine wp_region_stages [([0, 1, 2, 3, 4, 5], 6), ([7, 8, 9, 10, 11, 12, 13, 14, 15, 16], 17), ([18], 19)] 99 (wr.heap.size + 1) (by kernel_rfl) (by kernel_rfl) ?_
          refine wpStages_cons ?_
          simp only [List.filterMap_cons, List.filterMap_nil, List.getElem?_toArray, List.getElem?_cons_zero, List.getElem?_cons_succ]
          show wpQuiet _ _ _ _ [_, _, _, _, _, _] _
          repeat (go_big_quiet_step (fail))
          refine wpQuiet_nil ⟨_, rfl, fun K hK => ?_⟩
          go_wp2_with fail
          refine (sIsVariable_val HVR.out _).mono ?_
          rintro e w2 ⟨rfl, x1⟩
          have X2 : Ext (wr.alloc (.cells #[.int .i64 2, .string s, .int .i64 num, .slice sa ra.length sc] 79)) w2 := Ext.trans (by repeat (with_reducible (first | assumption | exact Ext.refl _ | apply Ext.alloc | apply Ext.drew | apply Ext.drewN))) x1
          go_wp2_with fail
          refine hK _ _ (.inr (fun k _ hk => X2.block (by first | omega | (simp; omega)))) ?_
          clear hK K
          have HX3 := hid ((HX.out.trans q0).trans X2)
          have HX4 := hid ((HX1.out.trans q0).trans X2)
          have HB4 := hid (HBW.out.ext X2)
          have hxb := ((Bx.made wr #[.int .i64 2, .string s, .int .i64 num, .slice sa ra.length sc] 79).ext X2)
          have c := hxb.lt
          have c0 := hxb.cell 0
          simp only [List.getElem?_toArray, List.getElem?_cons_zero, List.getElem?_cons_succ] at c0
          have c1 := hxb.cell 1
          simp only [List.getElem?_toArray, List.getElem?_cons_zero, List.getElem?_cons_succ] at c1
          have c2 := hxb.cell 2
          simp only [List.getElem?_toArray, List.getElem?_cons_zero, List.getElem?_cons_succ] at c2
          have c3 := hxb.cell 3
          simp only [List.getElem?_toArray, List.getElem?_cons_zero, List.getElem?_cons_succ] at c3
          clear hxb
          refine wpStages_cons ?_
          simp only [List.filterMap_cons, List.filterMap_nil, List.getElem?_toArray, List.getElem?_cons_zero, List.getElem?_cons_succ]
          show wpQuiet _ _ _ _ [_, _, _, _, _, _, _, _, _, _] _
          try simp only [Act.put, List.setIfInBounds_toArray, List.set_cons_succ, List.set_cons_zero]
          repeat (go_big_quiet_step (fail))
          refine wpQuiet_nil ⟨_, rfl, fun K hK => ?_⟩
          go_wp2_with fail
          go_wp2_with fail
          refine hK _ _ (.inr (fun k _ hk => X2.block (by first | omega | (simp; omega)))) ?_
          clear hK K
          refine wpStages_cons ?_
          simp only [List.filterMap_cons, List.filterMap_nil, List.getElem?_toArray, List.getElem?_cons_zero, List.getElem?_cons_succ]
          show wpQuiet _ _ _ _ [_] _
          try simp only [Act.put, List.setIfInBounds_toArray, List.set_cons_succ, List.set_cons_zero]
          repeat (go_big_quiet_step (fail))
          refine wpQuiet_nil ⟨_, rfl, fun K hK => ?_⟩
          go_wp2_with fail
          go_wp2_with fail
          refine hK _ _ (.inr (fun k _ hk => X2.block (by first | omega | (simp; omega)))) ?_
          clear hK K
          refine wpStages_nil ?_
          go_wp2
          go_roundw
          case rel =>
            refine ⟨k + 1, by omega, by go_num, fun i hi => ?_, HB4.out, HX3.out, HX4.out⟩
            by_cases e : i = k
            · subst e; exact HN.out
            · exact HA.out i (by omega)
          case measure => simp [intOf]; omega
      · obtain ⟨z, hz⟩ : ∃ z, arity s = z := ⟨_, rfl⟩
        have HZ := hid hz
        have HN : Hid (p.nameB k = decide (0 ≤ z)) := hid (by rw [HND.out, hz]; rfl)
        have HX3 := hid (HX.out.trans q0)
        have HX4 := hid (HX1.out.trans q0)
        clear hz
        go_wp2_with fail
        refine wp_region_stages [([0, 1, 2, 3, 4, 5], 6), ([7, 8, 9, 10, 11, 12, 13, 14, 15, 16], 17), ([18], 19)] 99 (wr.heap.size + 1) (by kernel_rfl) (by kernel_rfl) ?_
        refine wpStages_cons ?_
        simp only [List.filterMap_cons, List.filterMap_nil, List.getElem?_toArray, List.getElem?_cons_zero, List.getElem?_cons_succ]
        show wpQuiet _ _ _ _ [_, _, _, _, _, _] _
        repeat (go_big_quiet_step (fail))
        refine wpQuiet_nil ⟨_, rfl, fun K hK => ?_⟩
        go_wp2_with fail
        go_wp2_with fail
        refine hK _ _ (.inr (fun k _ hk => Ext.block (by repeat (with_reducible (first | assumption | exact Ext.refl _ | apply Ext.alloc | apply Ext.drew | apply Ext.drewN))) (by first | omega | (simp; omega)))) ?_
        clear hK K
        refine wpStages_cons ?_
        simp only [List.filterMap_cons, List.filterMap_nil, List.getElem?_toArray, List.getElem?_cons_zero, List.getElem?_cons_succ]
        show wpQuiet _ _ _ _ [_, _, _, _, _, _, _, _, _, _] _
        try simp only [Act.put, List.setIfInBounds_toArray, List.set_cons_succ, List.set_cons_zero]
        repeat (go_big_quiet_step (fail))
        refine wpQuiet_nil ⟨_, rfl, fun K hK => ?_⟩
        go_wp2_with fail
        go_wp2_with fail
        refine hK _ _ (.inr (fun k _ hk => Ext.block (by repeat (with_reducible (first | assumption | exact Ext.refl _ | apply Ext.alloc | apply Ext.drew | apply Ext.drewN))) (by first | omega | (simp; omega)))) ?_
        clear hK K
        refine wpStages_cons ?_
        simp only [List.filterMap_cons, List.filterMap_nil, List.getElem?_toArray, List.getElem?_cons_zero, List.getElem?_cons_succ]
        show wpQuiet _ _ _ _ [_] _
        try simp only [Act.put, List.setIfInBounds_toArray, List.set_cons_succ, List.set_cons_zero]
        repeat (go_big_quiet_step (fail))
        refine wpQuiet_nil ⟨_, rfl, fun K hK => ?_⟩
        go_wp2_with fail
        go_wp2_with fail
        refine hK _ _ (.inr (fun k _ hk => Ext.block (by repeat (with_reducible (first | assumption | exact Ext.refl _ | apply Ext.alloc | apply Ext.drew | apply Ext.drewN))) (by first | omega | (simp; omega)))) ?_
        clear hK K
        refine wpStages_nil ?_
        go_wp2_with fail
        refine (sArity_val HZ.out _).mono ?_
        rintro e w3 ⟨rfl, rfl⟩
        by_cases hz0 : 0 ≤ z
        · have HN2 := hid (HN.out.trans (decide_eq_true hz0))
          clear HN
          go_wp2
          go_roundw
          case rel =>
            refine ⟨k + 1, by omega, by go_num, fun i hi => ?_, HBW.out.ext ((Ext.refl _).drew), HX3.out.drew, HX4.out.drew⟩
            by_cases e : i = k
            · subst e; exact HN2.out
            · exact HA.out i (by omega)
          case measure => simp [intOf]; omega
        · have HN2 := hid (HN.out.trans (decide_eq_false hz0))
          clear HN
          go_wp2
          go_ret
          exact ⟨⟨_, rfl, by rw [rng_no hlt HN2.out]; simp⟩, HX3.out.drew⟩
      · have e2 : (op == 2) = false := beq_eq_false_iff_ne.2 o2
        have e8 : (op == 8) = false := beq_eq_false_iff_ne.2 o8
        have HN : Hid (p.nameB k = true) := hid (by rw [HND.out, if_neg o2, if_neg o8])
        have HX3 := hid (HX.out.trans q0)
        have HX4 := hid (HX1.out.trans q0)
        clear HND
        go_wp2_with fail
        refine wp_region_stages [([0, 1, 2, 3, 4, 5], 6), ([7, 8, 9, 10, 11, 12, 13, 14, 15, 16], 17), ([18], 19)] 99 (wr.heap.size + 1) (by kernel_rfl) (by kernel_rfl) ?_
        refine wpStages_cons ?_
        simp only [List.filterMap_cons, List.filterMap_nil, List.getElem?_toArray, List.getElem?_cons_zero, List.getElem?_cons_succ]
        show wpQuiet _ _ _ _ [_, _, _, _, _, _] _
        repeat (go_big_quiet_step (fail))
        refine wpQuiet_nil ⟨_, rfl, fun K hK => ?_⟩
        go_wp2_with fail
        go_wp2_with fail
        refine hK _ _ (.inr (fun k _ hk => Ext.block (by repeat (with_reducible (first | assumption | exact Ext.refl _ | apply Ext.alloc | apply Ext.drew | apply Ext.drewN))) (by first | omega | (simp; omega)))) ?_
        clear hK K
        refine wpStages_cons ?_
        simp only [List.filterMap_cons, List.filterMap_nil, List.getElem?_toArray, List.getElem?_cons_zero, List.getElem?_cons_succ]
        show wpQuiet _ _ _ _ [_, _, _, _, _, _, _, _, _, _] _
        try simp only [Act.put, List.setIfInBounds_toArray, List.set_cons_succ, List.set_cons_zero]
        repeat (go_big_quiet_step (fail))
        refine wpQuiet_nil ⟨_, rfl, fun K hK => ?_⟩
        go_wp2_with fail
        go_wp2_with fail
        refine hK _ _ (.inr (fun k _ hk => Ext.block (by repeat (with_reducible (first | assumption | exact Ext.refl _ | apply Ext.alloc | apply Ext.drew | apply Ext.drewN))) (by first | omega | (simp; omega)))) ?_
        clear hK K
        refine wpStages_cons ?_
        simp only [List.filterMap_cons, List.filterMap_nil, List.getElem?_toArray, List.getElem?_cons_zero, List.getElem?_cons_succ]
        show wpQuiet _ _ _ _ [_] _
        try simp only [Act.put, List.setIfInBounds_toArray, List.set_cons_succ, List.set_cons_zero]
        repeat (go_big_quiet_step (fail))
        refine wpQuiet_nil ⟨_, rfl, fun K hK => ?_⟩
        go_wp2_with fail
        go_wp2_with fail
        refine hK _ _ (.inr (fun k _ hk => Ext.block (by repeat (with_reducible (first | assumption | exact Ext.refl _ | apply Ext.alloc | apply Ext.drew | apply Ext.drewN))) (by first | omega | (simp; omega)))) ?_
        clear hK K
        refine wpStages_nil ?_
        go_wp2
        go_roundw
        case rel =>
          refine ⟨k + 1, by omega, by go_num, fun i hi => ?_, HBW.out.ext ((Ext.refl _).drew), HX3.out.drew, HX4.out.drew⟩
          by_cases e : i = k
          · subst e; exact HN.out
          · exact HA.out i (by omega)
        case measure => simp [intOf]; omega
    · obtain rfl : k = p.ns.length := by omega
      have HN := hid (rng_all HA.out)
      clear hall hB hx hx1
      go_wp2
      go_ret
      exact ⟨⟨_, rfl, by rw [HN.out]; rfl⟩, HX.out⟩
end Go.Proofs.YtaegmenjgjdimaaGreat
end

section
/- This text proves the reference's Check, as far as it says that a program passes. -/
namespace Go.Proofs.YtaegmenjgjdimaaGreat
open Go.RowKit

def Prg.arB (p : Prg) (k : Nat) : Bool := match p.ns[k]? with | some x => if x.op = 8 then decide (arity x.name = x.args.length) else true | none => true
def Prg.asB (p : Prg) (k : Nat) : Bool := match p.gs[k]? with | some x => !(isVar x.name) && !(asgB p.gs k x.name.toList) | none => true
def Prg.colB (p : Prg) : Bool := asgB p.gs p.gs.length [99, 111, 108, 111, 114]
/-- a program passes the checks -/
noncomputable def Prg.chkB (p : Prg) : Bool := p.okB && (List.range p.ns.length).all p.nameB && (List.range p.ns.length).all p.arB && (List.range p.gs.length).all p.asB && p.colB
theorem Prg.arB_at {p : Prg} {k : Nat} {x : Nd} (h : p.ns[k]? = some x) : p.arB k = if x.op = 8 then decide (arity x.name = x.args.length) else true := by unfold Prg.arB; rw [h]
theorem Prg.asB_at {p : Prg} {k : Nat} {x : Asg} (h : p.gs[k]? = some x) : p.asB k = (!(isVar x.name) && !(asgB p.gs k x.name.toList)) := by unfold Prg.asB; rw [h]
theorem sIsValidProgram_val {p : Prg} {b : Bool} (h : p.okB = b) (lo hi : Nat) (v : Value) (w : World) (hv : p.R lo hi w v) (hh : hi ≤ w.heap.size) (hb : p.bd) (hnl : p.ns.length ≤ 1048576) (hgl : p.gs.length ≤ 1048576) :
    Calls Tryz.prog 76 #[v] w fun e w' => e = .returned (.bool b) ∧ Ext w w' := h ▸ sIsValidProgram_any lo hi v p w hv hh hb hnl hgl
theorem colS : (⟨#[99, 111, 108, 111, 114]⟩ : ByteArray).toList = [99, 111, 108, 111, 114] := by rw [Lib.toList_data]
set_option maxRecDepth 20000 in
set_option maxHeartbeats 12800000 in
theorem sCheck_any (lo hi : Nat) (v : Value) (p : Prg) (w : World) (hv : p.R lo hi w v) (hh : hi ≤ w.heap.size) (hb : p.bd) (hnl : p.ns.length ≤ 1048576) (hgl : p.gs.length ≤ 1048576) :
    Calls Tryz.prog 47 #[v] w fun e w' => (∃ c k : Int, e = .returned (.tuple #[.int .i64 c, .int .i64 k]) ∧ (c == 0) = p.chkB) ∧ Ext w w' := by
  have HV := hid hv
  obtain ⟨a1, c1, a2, c2, rfl, HN, HG⟩ := hv.form
  have l1 := HN.le
  have l2 := HN.cap
  have l3 := HG.le
  have l4 := HG.cap
  have HBD := hid hb
  clear hv hb
  have x0 : Ext w (w.alloc (.cells #[.slice a1 p.ns.length c1, .slice a2 p.gs.length c2] 26)) := (by repeat (with_reducible (first | assumption | exact Ext.refl _ | apply Ext.alloc | apply Ext.drew | apply Ext.drewN)))
  have bB := Bx.made w #[.slice a1 p.ns.length c1, .slice a2 p.gs.length c2] 26
  cases hok : p.okB
  · have HOK := hid hok
    have HC : Hid (p.chkB = false) := hid (by unfold Prg.chkB; rw [hok]; rfl)
    clear hok
    go_enter Tryz.func47, Tryz.ntmps47
    go_wp2_with fail
    refine (sIsValidProgram_val HOK.out lo hi _ _ (HV.out.ext hh x0) (Nat.le_trans hh x0.size) HBD.out hnl hgl).mono ?_
    rintro e w1 ⟨rfl, x1⟩
    have X1 := x0.trans x1
    go_wp2
    refine bodyPost_ret (v := .tuple #[.int .i64 1, .int .i64 0]) (by simp [results, Tryz.results47, go_sem]) rfl ⟨⟨_, _, rfl, by rw [HC.out]; rfl⟩, X1⟩
  have HP := hid (Prg.okB_V hok)
  have l5 := HP.out.len
  have HOK := hid hok
  clear hok
  go_enter Tryz.func47, Tryz.ntmps47
  go_wp2_with fail
  refine (sIsValidProgram_val HOK.out lo hi _ _ (HV.out.ext hh x0) (Nat.le_trans hh x0.size) HBD.out hnl hgl).mono ?_
  rintro e w1 ⟨rfl, x1⟩
  have X1 := x0.trans x1
  have bB1 := bB.ext x1
  have q := bB1.lt
  have q0 := bB1.cell 0
  simp only [List.getElem?_toArray, List.getElem?_cons_zero, List.getElem?_cons_succ] at q0
  have q1 := bB1.cell 1
  simp only [List.getElem?_toArray, List.getElem?_cons_zero, List.getElem?_cons_succ] at q1
  clear x0 x1 bB
  go_wp2_with fail
  refine (sNames_any lo hi _ p _ (HV.out.ext hh X1) (Nat.le_trans hh X1.size) HP.out hgl).mono ?_
  rintro e w2 ⟨⟨i, rfl, hi2⟩, x2⟩
  have X2 := X1.trans x2
  have bB2 := bB1.ext x2
  have HI := hid hi2
  clear x2 bB1 X1 q q0 q1 hi2
  by_cases hi0 : 0 ≤ i
  · have HC : Hid (p.chkB = false) := hid (by
      have := HI.out
      rw [decide_eq_true hi0] at this
      unfold Prg.chkB
      have e : (List.range p.ns.length).all p.nameB = false := by revert this; cases (List.range p.ns.length).all p.nameB <;> simp
      rw [e]; simp)
    go_wp2
    refine bodyPost_ret (v := .tuple #[.int .i64 2, .int .i64 i]) (by simp [results, Tryz.results47, go_sem]) rfl ⟨⟨_, _, rfl, by rw [HC.out]; rfl⟩, X2⟩
  have HNM : Hid ((List.range p.ns.length).all p.nameB = true) := hid (by
    have := HI.out
    rw [decide_eq_false hi0] at this
    revert this; cases (List.range p.ns.length).all p.nameB <;> simp)
  clear HI
  have q := bB2.lt
  have q0 := bB2.cell 0
  simp only [List.getElem?_toArray, List.getElem?_cons_zero, List.getElem?_cons_succ] at q0
  have q1 := bB2.cell 1
  simp only [List.getElem?_toArray, List.getElem?_cons_zero, List.getElem?_cons_succ] at q1
  have HB2 := hid bB2
  have HX2 := hid X2
  clear bB2 X2
  go_wp2
  go_loopw [20] (fun i wr => ∃ k : Nat, k ≤ p.ns.length ∧ i = .int .i64 k ∧ (∀ j, j < k → p.arB j = true) ∧ Bx wr w.heap.size #[.slice a1 p.ns.length c1, .slice a2 p.gs.length c2] 26 ∧ Ext w wr) (fun i _ => p.ns.length - (intOf i).toNat)
  case atStart => exact ⟨0, by omega, rfl, fun j h => by omega, HB2.out, HX2.out⟩
  case round =>
    clear HB2 HX2 q q0 q1 hi0
    obtain ⟨k, hk, rfl, hall, hB, hx⟩ := hrel
    have HA := hid hall
    have HX := hid hx
    have HB := hid hB
    by_cases hlt : k < p.ns.length
    · obtain ⟨b, off, op, s, num, sa, sc, ra, rfl, hb1, hbw, hget, io, inn, hI, HI, y0, y1, y2, y3⟩ := HN.atW hlt hx hh
      have li1 := HI.le
      have li2 := HI.cap
      have q0 : Ext wr (wr.alloc (.cells #[.int .i64 op, .string s, .int .i64 num, .slice sa ra.length sc] 79)) := (by repeat (with_reducible (first | assumption | exact Ext.refl _ | apply Ext.alloc | apply Ext.drew | apply Ext.drewN)))
      have HND := hid (Prg.arB_at hget)
      have HX3 := hid (hx.trans q0)
      have HB3 := hid (hB.ext q0)
      clear hget hall hB hx hI HX HB
      by_cases o8 : op = 8
      · subst o8
        obtain ⟨z, hz⟩ : ∃ z, arity s = z := ⟨_, rfl⟩
        have HZ := hid hz
        have HN2 : Hid (p.arB k = decide (z = ra.length)) := hid (by rw [HND.out, hz]; rfl)
        clear HND hz
        go_wp2_with fail
        refine wp_region_stages [([0, 1, 2, 3, 4, 5, 7, 8, 9], 6), ([10], 11)] 99 (wr.heap.size + 1) (by kernel_rfl) (by kernel_rfl) ?_
        refine wpStages_cons ?_
        simp only [List.filterMap_cons, List.filterMap_nil, List.getElem?_toArray, List.getElem?_cons_zero, List.getElem?_cons_succ]
        show wpQuiet _ _ _ _ [_, _, _, _, _, _, _, _, _] _
        repeat (go_big_quiet_step (fail))
        refine wpQuiet_nil ⟨_, rfl, fun K hK => ?_⟩
        go_wp2_with fail
        refine (sArity_val HZ.out _).mono ?_
        rintro e w3 ⟨rfl, rfl⟩
        by_cases hz2 : z = ra.length
        · have HN3 := hid (HN2.out.trans (decide_eq_true hz2))
          have e2 : (z != (ra.length : Int)) = false := by simp [hz2]
          clear HN2 hz2
          go_wp2_with fail
          refine hK _ _ (.inr (fun k _ hk => Ext.block (by repeat (with_reducible (first | assumption | exact Ext.refl _ | apply Ext.alloc | apply Ext.drew | apply Ext.drewN))) (by first | omega | (simp; omega)))) ?_
          clear hK K
          refine wpStages_cons ?_
          simp only [List.filterMap_cons, List.filterMap_nil, List.getElem?_toArray, List.getElem?_cons_zero, List.getElem?_cons_succ]
          show wpQuiet _ _ _ _ [_] _
          try simp only [Act.put, List.setIfInBounds_toArray, List.set_cons_succ, List.set_cons_zero]
          repeat (go_big_quiet_step (fail))
          refine wpQuiet_nil ⟨_, rfl, fun K hK => ?_⟩
          go_wp2_with fail
          go_wp2_with fail
          refine hK _ _ (.inr (fun k _ hk => Ext.block (by repeat (with_reducible (first | assumption | exact Ext.refl _ | apply Ext.alloc | apply Ext.drew | apply Ext.drewN))) (by first | omega | (simp; omega)))) ?_
          clear hK K
          refine wpStages_nil ?_
          go_wp2
          go_roundw
          case rel =>
            refine ⟨k + 1, by omega, by go_num, fun i hi => ?_, HB3.out.ext ((Ext.refl _).drew), HX3.out.drew⟩
            by_cases e : i = k
            · subst e; exact HN3.out
            · exact HA.out i (by omega)
          case measure => simp [intOf]; omega
        · have HN3 := hid (HN2.out.trans (decide_eq_false hz2))
          have e2 : (z != (ra.length : Int)) = true := by simp [hz2]
          clear HN2 hz2
          go_wp2_with fail
          refine hK _ _ (.inr (fun k _ hk => Ext.block (by repeat (with_reducible (first | assumption | exact Ext.refl _ | apply Ext.alloc | apply Ext.drew | apply Ext.drewN))) (by first | omega | (simp; omega)))) ?_
          clear hK K
          refine wpStages_cons ?_
          simp only [List.filterMap_cons, List.filterMap_nil, List.getElem?_toArray, List.getElem?_cons_zero, List.getElem?_cons_succ]
          show wpQuiet _ _ _ _ [_] _
          try simp only [Act.put, List.setIfInBounds_toArray, List.set_cons_succ, List.set_cons_zero]
          repeat (go_big_quiet_step (fail))
          refine wpQuiet_nil ⟨_, rfl, fun K hK => ?_⟩
          go_wp2_with fail
          go_wp2_with fail
          refine hK _ _ (.inr (fun k _ hk => Ext.block (by repeat (with_reducible (first | assumption | exact Ext.refl _ | apply Ext.alloc | apply Ext.drew | apply Ext.drewN))) (by first | omega | (simp; omega)))) ?_
          clear hK K
          refine wpStages_nil ?_
          go_wp2
          have HC : p.chkB = false := by unfold Prg.chkB; rw [rng_no (p := p.arB) hlt HN3.out]; simp
          refine bodyPost_ret (v := .tuple #[.int .i64 3, .int .i64 k]) (by simp [results, Tryz.results47, go_sem]) rfl ⟨⟨_, _, rfl, by rw [HC]; rfl⟩, HX3.out.drew⟩
      · have e8 : (op == 8) = false := beq_eq_false_iff_ne.2 o8
        have HN3 : Hid (p.arB k = true) := hid (by rw [HND.out, if_neg o8])
        clear HND
        go_wp2_with fail
        refine wp_region_stages [([0, 1, 2, 3, 4, 5, 7, 8, 9], 6), ([10], 11)] 99 (wr.heap.size + 1) (by kernel_rfl) (by kernel_rfl) ?_
        refine wpStages_cons ?_
        simp only [List.filterMap_cons, List.filterMap_nil, List.getElem?_toArray, List.getElem?_cons_zero, List.getElem?_cons_succ]
        show wpQuiet _ _ _ _ [_, _, _, _, _, _, _, _, _] _
        repeat (go_big_quiet_step (fail))
        refine wpQuiet_nil ⟨_, rfl, fun K hK => ?_⟩
        go_wp2_with fail
        go_wp2_with fail
        refine hK _ _ (.inr (fun k _ hk => Ext.block (by repeat (with_reducible (first | assumption | exact Ext.refl _ | apply Ext.alloc | apply Ext.drew | apply Ext.drewN))) (by first | omega | (simp; omega)))) ?_
        clear hK K
        refine wpStages_cons ?_
        simp only [List.filterMap_cons, List.filterMap_nil, List.getElem?_toArray, List.getElem?_cons_zero, List.getElem?_cons_succ]
        show wpQuiet _ _ _ _ [_] _
        try simp only [Act.put, List.setIfInBounds_toArray, List.set_cons_succ, List.set_cons_zero]
        repeat (go_big_quiet_step (fail))
        refine wpQuiet_nil ⟨_, rfl, fun K hK => ?_⟩
        go_wp2_with fail
        go_wp2_with fail
        refine hK _ _ (.inr (fun k _ hk => Ext.block (by repeat (with_reducible (first | assumption | exact Ext.refl _ | apply Ext.alloc | apply Ext.drew | apply Ext.drewN))) (by first | omega | (simp; omega)))) ?_
        clear hK K
        refine wpStages_nil ?_
        go_wp2
        go_roundw
        case rel =>
          refine ⟨k + 1, by omega, by go_num, fun i hi => ?_, HB3.out.ext ((Ext.refl _).drew), HX3.out.drew⟩
          by_cases e : i = k
          · subst e; exact HN3.out
          · exact HA.out i (by omega)
        case measure => simp [intOf]; omega
    · obtain rfl : k = p.ns.length := by omega
      have q := hB.lt
      have q0 := hB.cell 0
      simp only [List.getElem?_toArray, List.getElem?_cons_zero, List.getElem?_cons_succ] at q0
      have q1 := hB.cell 1
      simp only [List.getElem?_toArray, List.getElem?_cons_zero, List.getElem?_cons_succ] at q1
      clear hall hB hx
      go_wp2
      go_loopw [42] (fun i wr => ∃ k : Nat, k ≤ p.gs.length ∧ i = .int .i64 k ∧ (∀ j, j < k → p.asB j = true) ∧ Bx wr w.heap.size #[.slice a1 p.ns.length c1, .slice a2 p.gs.length c2] 26 ∧ Ext w wr) (fun i _ => p.gs.length - (intOf i).toNat)
      case atStart => exact ⟨0, by omega, rfl, fun j h => by omega, HB.out, HX.out⟩
      case round =>
        clear HB HX q q0 q1
        obtain ⟨k, hk, rfl, hall, hB, hx⟩ := hrel
        have HA2 := hid hall
        have HX := hid hx
        have HB := hid hB
        by_cases hlt : k < p.gs.length
        · obtain ⟨b, off, s, rt, rfl, hb1, hbw, hdrop, hget, ir, y0, y1⟩ := HG.at hlt hx hh
          have q0 : Ext wr (wr.alloc (.cells #[.string s, .int .i64 rt] 74)) := (by repeat (with_reducible (first | assumption | exact Ext.refl _ | apply Ext.alloc | apply Ext.drew | apply Ext.drewN)))
          have bQ := Bx.made wr #[.string s, .int .i64 rt] 74
          obtain ⟨bv, hbv⟩ : ∃ b, isVar s = b := ⟨_, rfl⟩
          have HBV := hid hbv
          have HND : Hid (p.asB k = (!bv && !(asgB p.gs k s.toList))) := hid (by rw [Prg.asB_at hget, hbv])
          have HX3 := hid (hx.trans q0)
          have HB3 := hid (hB.ext q0)
          clear hdrop hget hall hB hx HX HB hbv
          go_wp2_with fail
          refine (sIsVariable_val HBV.out _).mono ?_
          rintro e w3 ⟨rfl, x3⟩
          have HX4 := hid (HX3.out.trans x3)
          have hB4 := HB3.out.ext x3
          have HB4 := hid hB4
          have hb5 := bQ.ext x3
          have r := hB4.lt
          have r0 := hB4.cell 0
          simp only [List.getElem?_toArray, List.getElem?_cons_zero, List.getElem?_cons_succ] at r0
          have r1 := hB4.cell 1
          simp only [List.getElem?_toArray, List.getElem?_cons_zero, List.getElem?_cons_succ] at r1
          have d := hb5.lt
          have d0 := hb5.cell 0
          simp only [List.getElem?_toArray, List.getElem?_cons_zero, List.getElem?_cons_succ] at d0
          have d1 := hb5.cell 1
          simp only [List.getElem?_toArray, List.getElem?_cons_zero, List.getElem?_cons_succ] at d1
          clear hB4 hb5 x3 HX3 HB3 bQ q0
          cases bv
          case true =>
            go_wp2
            have HC : p.chkB = false := by unfold Prg.chkB; rw [rng_no (p := p.asB) hlt (by rw [HND.out]; rfl)]; simp
            refine bodyPost_ret (v := .tuple #[.int .i64 4, .int .i64 k]) (by simp [results, Tryz.results47, go_sem]) rfl ⟨⟨_, _, rfl, by rw [HC]; rfl⟩, HX4.out⟩
          obtain ⟨z, hz⟩ : ∃ z, lastTo p.gs k s.toList p.gs.length = z := ⟨_, rfl⟩
          have hza := lastTo_asg p.gs k s.toList
          rw [hz] at hza
          have HZ := hid hz
          have HZA := hid hza
          clear hz hza
          go_wp2_with fail
          refine (sAssigned_val HZ.out lo hi _ p _ rfl (HV.out.ext hh HX4.out) (Nat.le_trans hh HX4.out.size) hgl).mono ?_
          rintro e w4 ⟨rfl, x4⟩
          by_cases hz0 : 0 ≤ z
          · have HN3 : Hid (p.asB k = false) := hid (by rw [HND.out, ← HZA.out, decide_eq_true hz0]; rfl)
            go_wp2
            have HC : p.chkB = false := by unfold Prg.chkB; rw [rng_no (p := p.asB) hlt HN3.out]; simp
            refine bodyPost_ret (v := .tuple #[.int .i64 4, .int .i64 k]) (by simp [results, Tryz.results47, go_sem]) rfl ⟨⟨_, _, rfl, by rw [HC]; rfl⟩, HX4.out.trans x4⟩
          · have HN3 : Hid (p.asB k = true) := hid (by rw [HND.out, ← HZA.out, decide_eq_false hz0]; rfl)
            have HX5 := hid (HX4.out.trans x4)
            have HB5 := hid (HB4.out.ext x4)
            clear x4
            go_wp2
            go_roundw
            case rel =>
              refine ⟨k + 1, by omega, by go_num, fun i hi => ?_, HB5.out, HX5.out⟩
              by_cases e : i = k
              · subst e; exact HN3.out
              · exact HA2.out i (by omega)
            case measure => simp [intOf]; omega
        · obtain rfl : k = p.gs.length := by omega
          have q := hB.lt
          have q0 := hB.cell 0
          simp only [List.getElem?_toArray, List.getElem?_cons_zero, List.getElem?_cons_succ] at q0
          have q1 := hB.cell 1
          simp only [List.getElem?_toArray, List.getElem?_cons_zero, List.getElem?_cons_succ] at q1
          obtain ⟨z, hz⟩ : ∃ z, lastTo p.gs (p.gs.length : Nat) [99, 111, 108, 111, 114] p.gs.length = z := ⟨_, rfl⟩
          have hza := lastTo_asg p.gs p.gs.length [99, 111, 108, 111, 114]
          rw [hz] at hza
          have HZ := hid hz
          have HZA := hid hza
          have zx := hx.size
          clear hz hza hall hB hx
          go_wp2_with fail
          refine (sAssigned_val (z := z) (t := p.gs.length) (s := ⟨#[99, 111, 108, 111, 114]⟩) (by rw [colS]; exact HZ.out) lo hi _ p _ rfl (HV.out.ext hh HX.out) (by omega) hgl).mono ?_
          rintro e w4 ⟨rfl, x4⟩
          have HX5 := hid (HX.out.trans x4)
          clear x4
          have HC : Hid (p.chkB = decide (0 ≤ z)) := hid (by unfold Prg.chkB Prg.colB; rw [HOK.out, HNM.out, rng_all HA.out, rng_all HA2.out, HZA.out]; rfl)
          by_cases hz0 : 0 ≤ z
          · have HC2 := hid (HC.out.trans (decide_eq_true hz0))
            clear HC
            go_wp2
            refine bodyPost_ret (v := .tuple #[.int .i64 0, .int .i64 0]) (by simp [results, Tryz.results47, go_sem]) rfl ⟨⟨_, _, rfl, HC2.out.symm⟩, HX5.out⟩
          · have HC2 := hid (HC.out.trans (decide_eq_false hz0))
            have hz1 : z < 0 := by omega
            clear HC hz0
            go_wp2
            refine bodyPost_ret (v := .tuple #[.int .i64 5, .int .i64 0]) (by simp [results, Tryz.results47, go_sem]) rfl ⟨⟨_, _, rfl, HC2.out.symm⟩, HX5.out⟩
end Go.Proofs.YtaegmenjgjdimaaGreat
end

section
/- This text proves what the program's checks ask of one node: its name is known, it has as many arguments as it must. -/
namespace Go.Proofs.YtaegmenjgjdimaaGreat
open Go.RowKit Go.Maps Go.WideMaps

@[go_sem] theorem mkVar (x : Value) (w : World) : (Instr.makeInterface 124 x).run Tryz.prog w = .ok (.iface 124 x) w := run_makeInterface w 124 x (by kernel_rfl)
@[go_sem] theorem mkCall (x : Value) (w : World) : (Instr.makeInterface 126 x).run Tryz.prog w = .ok (.iface 126 x) w := run_makeInterface w 126 x (by kernel_rfl)
@[go_sem] theorem mkPlain (x : Value) (w : World) : (Instr.makeInterface 170 x).run Tryz.prog w = .ok (.iface 170 x) w := run_makeInterface w 170 x (by kernel_rfl)
/-- a node as a value of its own type -/
def exprV (op : Int) (x : Value) : Value := .iface (if op = 2 then 124 else if op = 8 then 126 else 170) x
set_option maxRecDepth 20000 in
set_option maxHeartbeats 1600000 in
theorem iExprOf_any (op : Int) (s : ByteArray) (num : Int) (u : Value) (w : World) : Calls Tryz.prog 59 #[.agg #[.int .i64 op, .string s, .int .i64 num, u]] w fun e w' => e = .returned (exprV op (.agg #[.int .i64 op, .string s, .int .i64 num, u])) ∧ Ext w w' := by
  rcases (show op = 2 ∨ op = 8 ∨ (op ≠ 2 ∧ op ≠ 8) by omega) with rfl | rfl | ⟨o2, o8⟩
  · go_enter Tryz.func59, Tryz.ntmps59
    go_wp2
    go_ret
    exact ⟨rfl, (by repeat (with_reducible (first | assumption | exact Ext.refl _ | apply Ext.alloc | apply Ext.drew | apply Ext.drewN)))⟩
  · go_enter Tryz.func59, Tryz.ntmps59
    go_wp2
    go_ret
    exact ⟨rfl, (by repeat (with_reducible (first | assumption | exact Ext.refl _ | apply Ext.alloc | apply Ext.drew | apply Ext.drewN)))⟩
  · have e2 : (op == 2) = false := beq_eq_false_iff_ne.2 o2
    have e8 : (op == 8) = false := beq_eq_false_iff_ne.2 o8
    go_enter Tryz.func59, Tryz.ntmps59
    go_wp2
    go_ret
    exact ⟨by unfold exprV; rw [if_neg o2, if_neg o8]; rfl, (by repeat (with_reducible (first | assumption | exact Ext.refl _ | apply Ext.alloc | apply Ext.drew | apply Ext.drewN)))⟩
theorem as_vv (v : Value) (w : World) : (Instr.typeAssert (.iface 124 v) 121 124 true).run Tryz.prog w = .ok (.tuple #[v, .bool true]) w := by kernel_rfl
theorem as_cv (v : Value) (w : World) : (Instr.typeAssert (.iface 126 v) 121 124 true).run Tryz.prog w = .ok (.tuple #[.agg #[.int .i64 0, .string ⟨#[]⟩, .int .i64 0, .slice none 0 0], .bool false]) w := by kernel_rfl
theorem as_cc (v : Value) (w : World) : (Instr.typeAssert (.iface 126 v) 121 126 true).run Tryz.prog w = .ok (.tuple #[v, .bool true]) w := by kernel_rfl
theorem as_vc (v : Value) (w : World) : (Instr.typeAssert (.iface 124 v) 121 126 true).run Tryz.prog w = .ok (.tuple #[.agg #[.int .i64 0, .string ⟨#[]⟩, .int .i64 0, .slice none 0 0], .bool false]) w := by kernel_rfl
theorem as_pv (v : Value) (w : World) : (Instr.typeAssert (.iface 170 v) 121 124 true).run Tryz.prog w = .ok (.tuple #[.agg #[.int .i64 0, .string ⟨#[]⟩, .int .i64 0, .slice none 0 0], .bool false]) w := by kernel_rfl
theorem as_pc (v : Value) (w : World) : (Instr.typeAssert (.iface 170 v) 121 126 true).run Tryz.prog w = .ok (.tuple #[.agg #[.int .i64 0, .string ⟨#[]⟩, .int .i64 0, .slice none 0 0], .bool false]) w := by kernel_rfl
theorem iIsVariable_val {s : ByteArray} {b : Bool} (h : isVar s = b) (w : World) : Calls Tryz.prog 54 #[.string s] w fun e w' => e = .returned (.bool b) ∧ w = w' := h ▸ iIsVariable_any s w
/-- what 'known' answers of a node of assignment o -/
def knownB (gs : List Asg) (op : Int) (s : ByteArray) (o : Nat) : Bool := if op = 2 then isVar s || asgB gs o s.toList else if op = 8 then decide (0 ≤ arity s) else true
set_option maxRecDepth 20000 in
set_option maxHeartbeats 6400000 in
theorem iKnown_any (gs : List Asg) (op : Int) (s : ByteArray) (num : Int) (sa : Option Addr) (sn sc o b : Nat) (w : World) (hM : FM w b gs gs.length) (hs : s.size ≤ maxLen) (ho : o ≤ 10000000) (hgl : gs.length ≤ 1048576) :
    Calls Tryz.prog 89 #[exprV op (.agg #[.int .i64 op, .string s, .int .i64 num, .slice sa sn sc]), .int .i64 o, .map (some b)] w fun e w' => e = .returned (.bool (knownB gs op s o)) ∧ Ext w w' := by
  rcases (show op = 2 ∨ op = 8 ∨ (op ≠ 2 ∧ op ≠ 8) by omega) with rfl | rfl | ⟨o2, o8⟩
  · have h0 := as_vv (.agg #[.int .i64 2, .string s, .int .i64 num, .slice sa sn sc])
    obtain ⟨bv, hbv⟩ : ∃ b, isVar s = b := ⟨_, rfl⟩
    have HBV := hid hbv
    obtain ⟨r, hr⟩ : ∃ r, frst gs gs.length s.toList = r := ⟨_, rfl⟩
    have HR := hid hr
    have e1 : Hid (knownB gs 2 s o = (bv || r.elim false fun i => decide (i < o))) := hid (by
      unfold knownB
      rw [if_pos rfl, hbv]
      cases r with
      | none => rw [frst_no hr]; rfl
      | some i => rw [frst_lt hr]; rfl)
    have HM := hid hM
    clear hbv hr hM
    unfold exprV
    rw [if_pos rfl]
    cases r with
    | none =>
      go_enter Tryz.func89, Tryz.ntmps89
      go_wp2_with (first | (at_lookup; refine wpList_first_ok _ rfl _ _ rfl _ _ _ rfl (HM.out.ext (by repeat (with_reducible (first | assumption | exact Ext.refl _ | apply Ext.alloc | apply Ext.drew | apply Ext.drewN)))) _ hs rfl _ HR.out ?_) | (go_at_call 54; refine (iIsVariable_val HBV.out _).mono ?_; rintro e w1 ⟨rfl, rfl⟩))
      all_goals (go_ret; exact ⟨ret_bool (by rw [e1.out]; first | rfl | simp_all), (by repeat (with_reducible (first | assumption | exact Ext.refl _ | apply Ext.alloc | apply Ext.drew | apply Ext.drewN)))⟩)
    | some i =>
      have HI : Hid (i ≤ 1048576) := hid (by have := (frst_some HR.out).1; omega)
      have hi := HI.out
      go_enter Tryz.func89, Tryz.ntmps89
      go_wp2_with (first | (at_lookup; refine wpList_first_ok _ rfl _ _ rfl _ _ _ rfl (HM.out.ext (by repeat (with_reducible (first | assumption | exact Ext.refl _ | apply Ext.alloc | apply Ext.drew | apply Ext.drewN)))) _ hs rfl _ HR.out ?_) | (go_at_call 54; refine (iIsVariable_val HBV.out _).mono ?_; rintro e w1 ⟨rfl, rfl⟩))
      all_goals (go_ret; exact ⟨ret_bool (by rw [e1.out]; first | rfl | simp_all), (by repeat (with_reducible (first | assumption | exact Ext.refl _ | apply Ext.alloc | apply Ext.drew | apply Ext.drewN)))⟩)
  · have h0 := as_cv (.agg #[.int .i64 8, .string s, .int .i64 num, .slice sa sn sc])
    have h1 := as_cc (.agg #[.int .i64 8, .string s, .int .i64 num, .slice sa sn sc])
    obtain ⟨z, hz⟩ : ∃ z, arity s = z := ⟨_, rfl⟩
    have HZ := hid hz
    have e1 : Hid (knownB gs 8 s o = decide (0 ≤ z)) := hid (by unfold knownB; rw [if_neg (by decide), if_pos rfl, hz])
    clear hz
    unfold exprV
    rw [if_neg (by decide), if_pos rfl]
    go_enter Tryz.func89, Tryz.ntmps89
    go_wp2_with (go_at_call 69; refine (iArity_val HZ.out _).mono ?_; rintro e w1 ⟨rfl, rfl⟩)
    all_goals (go_ret; exact ⟨ret_bool (by rw [e1.out]), (by repeat (with_reducible (first | assumption | exact Ext.refl _ | apply Ext.alloc | apply Ext.drew | apply Ext.drewN)))⟩)
  · have h0 := as_pv (.agg #[.int .i64 op, .string s, .int .i64 num, .slice sa sn sc])
    have h1 := as_pc (.agg #[.int .i64 op, .string s, .int .i64 num, .slice sa sn sc])
    have e1 : Hid (knownB gs op s o = true) := hid (by unfold knownB; rw [if_neg o2, if_neg o8])
    unfold exprV
    rw [if_neg o2, if_neg o8]
    go_enter Tryz.func89, Tryz.ntmps89
    go_wp2
    all_goals (go_ret; exact ⟨ret_bool (by rw [e1.out]), (by repeat (with_reducible (first | assumption | exact Ext.refl _ | apply Ext.alloc | apply Ext.drew | apply Ext.drewN)))⟩)
def fitB (op : Int) (s : ByteArray) (n : Nat) : Bool := if op = 8 then decide (arity s = n) else true
set_option maxRecDepth 20000 in
set_option maxHeartbeats 6400000 in
theorem iFitting_any (op : Int) (s : ByteArray) (num : Int) (sa : Option Addr) (sn sc : Nat) (w : World) :
    Calls Tryz.prog 90 #[exprV op (.agg #[.int .i64 op, .string s, .int .i64 num, .slice sa sn sc])] w fun e w' => e = .returned (.bool (fitB op s sn)) ∧ Ext w w' := by
  rcases (show op = 2 ∨ op = 8 ∨ (op ≠ 2 ∧ op ≠ 8) by omega) with rfl | rfl | ⟨o2, o8⟩
  · have h0 := as_vc (.agg #[.int .i64 2, .string s, .int .i64 num, .slice sa sn sc])
    unfold exprV
    rw [if_pos rfl]
    go_enter Tryz.func90, Tryz.ntmps90
    go_wp2_with fail
    refine wp_region_stages [([0, 1, 2, 3, 4, 5, 6, 7, 8, 9], 10), ([11, 12], 13)] 99 (w.heap.size + 1) (by kernel_rfl) (by kernel_rfl) ?_
    refine wpStages_cons ?_
    simp only [List.filterMap_cons, List.filterMap_nil, List.getElem?_toArray, List.getElem?_cons_zero, List.getElem?_cons_succ]
    show wpQuiet _ _ _ _ [_, _, _, _, _, _, _, _, _, _] _
    repeat (go_big_quiet_step (fail))
    refine wpQuiet_nil ⟨_, rfl, fun K hK => ?_⟩
    go_wp2_with fail
    go_wp2_with fail
    refine hK _ _ (.inr (fun k _ hk => Ext.block (by repeat (with_reducible (first | assumption | exact Ext.refl _ | apply Ext.alloc | apply Ext.drew | apply Ext.drewN))) (by first | omega | (simp; omega)))) ?_
    clear hK K
    refine wpStages_cons ?_
    simp only [List.filterMap_cons, List.filterMap_nil, List.getElem?_toArray, List.getElem?_cons_zero, List.getElem?_cons_succ]
    show wpQuiet _ _ _ _ [_, _] _
    try simp only [Act.put, List.setIfInBounds_toArray, List.set_cons_succ, List.set_cons_zero]
    repeat (go_big_quiet_step (fail))
    refine wpQuiet_nil ⟨_, rfl, fun K hK => ?_⟩
    go_wp2_with fail
    go_wp2_with fail
    refine hK _ _ (.inr (fun k _ hk => Ext.block (by repeat (with_reducible (first | assumption | exact Ext.refl _ | apply Ext.alloc | apply Ext.drew | apply Ext.drewN))) (by first | omega | (simp; omega)))) ?_
    clear hK K
    refine wpStages_nil ?_
    go_wp2
    go_ret
    exact ⟨rfl, (by repeat (with_reducible (first | assumption | exact Ext.refl _ | apply Ext.alloc | apply Ext.drew | apply Ext.drewN)))⟩
  · have h0 := as_cc (.agg #[.int .i64 8, .string s, .int .i64 num, .slice sa sn sc])
    obtain ⟨z, hz⟩ : ∃ z, arity s = z := ⟨_, rfl⟩
    have HZ := hid hz
    have e1 : Hid (fitB 8 s sn = decide (z = sn)) := hid (by unfold fitB; rw [if_pos rfl, hz])
    clear hz
    unfold exprV
    rw [if_neg (by decide), if_pos rfl]
    go_enter Tryz.func90, Tryz.ntmps90
    go_wp2_with fail
    refine wp_region_stages [([0, 1, 2, 3, 4, 5, 6, 7, 8, 9], 10), ([11, 12], 13)] 99 (w.heap.size + 1) (by kernel_rfl) (by kernel_rfl) ?_
    refine wpStages_cons ?_
    simp only [List.filterMap_cons, List.filterMap_nil, List.getElem?_toArray, List.getElem?_cons_zero, List.getElem?_cons_succ]
    show wpQuiet _ _ _ _ [_, _, _, _, _, _, _, _, _, _] _
    repeat (go_big_quiet_step (fail))
    refine wpQuiet_nil ⟨_, rfl, fun K hK => ?_⟩
    go_wp2_with fail
    refine (iArity_val HZ.out _).mono ?_
    rintro e w1 ⟨rfl, rfl⟩
    go_wp2_with fail
    refine hK _ _ (.inr (fun k _ hk => Ext.block (by repeat (with_reducible (first | assumption | exact Ext.refl _ | apply Ext.alloc | apply Ext.drew | apply Ext.drewN))) (by first | omega | (simp; omega)))) ?_
    clear hK K
    refine wpStages_cons ?_
    simp only [List.filterMap_cons, List.filterMap_nil, List.getElem?_toArray, List.getElem?_cons_zero, List.getElem?_cons_succ]
    show wpQuiet _ _ _ _ [_, _] _
    try simp only [Act.put, List.setIfInBounds_toArray, List.set_cons_succ, List.set_cons_zero]
    repeat (go_big_quiet_step (fail))
    refine wpQuiet_nil ⟨_, rfl, fun K hK => ?_⟩
    go_wp2_with fail
    go_wp2_with fail
    refine hK _ _ (.inr (fun k _ hk => Ext.block (by repeat (with_reducible (first | assumption | exact Ext.refl _ | apply Ext.alloc | apply Ext.drew | apply Ext.drewN))) (by first | omega | (simp; omega)))) ?_
    clear hK K
    refine wpStages_nil ?_
    go_wp2
    go_ret
    exact ⟨ret_bool (by rw [e1.out, Bool.eq_iff_iff]; simp; omega), (by repeat (with_reducible (first | assumption | exact Ext.refl _ | apply Ext.alloc | apply Ext.drew | apply Ext.drewN)))⟩
  · have h0 := as_pc (.agg #[.int .i64 op, .string s, .int .i64 num, .slice sa sn sc])
    have e1 : Hid (fitB op s sn = true) := hid (by unfold fitB; rw [if_neg o8])
    unfold exprV
    rw [if_neg o2, if_neg o8]
    go_enter Tryz.func90, Tryz.ntmps90
    go_wp2_with fail
    refine wp_region_stages [([0, 1, 2, 3, 4, 5, 6, 7, 8, 9], 10), ([11, 12], 13)] 99 (w.heap.size + 1) (by kernel_rfl) (by kernel_rfl) ?_
    refine wpStages_cons ?_
    simp only [List.filterMap_cons, List.filterMap_nil, List.getElem?_toArray, List.getElem?_cons_zero, List.getElem?_cons_succ]
    show wpQuiet _ _ _ _ [_, _, _, _, _, _, _, _, _, _] _
    repeat (go_big_quiet_step (fail))
    refine wpQuiet_nil ⟨_, rfl, fun K hK => ?_⟩
    go_wp2_with fail
    go_wp2_with fail
    refine hK _ _ (.inr (fun k _ hk => Ext.block (by repeat (with_reducible (first | assumption | exact Ext.refl _ | apply Ext.alloc | apply Ext.drew | apply Ext.drewN))) (by first | omega | (simp; omega)))) ?_
    clear hK K
    refine wpStages_cons ?_
    simp only [List.filterMap_cons, List.filterMap_nil, List.getElem?_toArray, List.getElem?_cons_zero, List.getElem?_cons_succ]
    show wpQuiet _ _ _ _ [_, _] _
    try simp only [Act.put, List.setIfInBounds_toArray, List.set_cons_succ, List.set_cons_zero]
    repeat (go_big_quiet_step (fail))
    refine wpQuiet_nil ⟨_, rfl, fun K hK => ?_⟩
    go_wp2_with fail
    go_wp2_with fail
    refine hK _ _ (.inr (fun k _ hk => Ext.block (by repeat (with_reducible (first | assumption | exact Ext.refl _ | apply Ext.alloc | apply Ext.drew | apply Ext.drewN))) (by first | omega | (simp; omega)))) ?_
    clear hK K
    refine wpStages_nil ?_
    go_wp2
    go_ret
    exact ⟨by rw [e1.out]; rfl, (by repeat (with_reducible (first | assumption | exact Ext.refl _ | apply Ext.alloc | apply Ext.drew | apply Ext.drewN)))⟩
end Go.Proofs.YtaegmenjgjdimaaGreat
end
