/- Texts of this claim, one behind another: Lk5, Cd1, Cd2, Cd3, Cd4, Cd5, Cd6, Lk6, Lk7, Cl2, Cl3, Ld1, Mc1, Mc2, Mc3, PlanC, Mc4, Mc5, Mc6, Rg1, Rg2, Rg3, Ex2H, LawKitH, Blk0, Lk8, Df1, Fl1, Ap1, Ap2, Sr1, Sr3, Sr2, Lk9, Sg1, Sg2. -/
import Derived.Test.YtaegmenjgjdimaaGreatLk4
import Derived.Test.YtaegmenjgjdimaaGreatSh17
import Derived.Test.YtaegmenjgjdimaaGreatGr1
import Derived.Test.YtaegmenjgjdimaaGreatStrB
import Derived.Test.YtaegmenjgjdimaaGreatLawKit
import Derived.Test.YtaegmenjgjdimaaGreatCl1
import Derived.Test.YtaegmenjgjdimaaGreatL15g
import Derived.Lib.SliceRun
import Derived.Test.YtaegmenjgjdimaaGreatPlan
import Derived.Test.YtaegmenjgjdimaaGreatEx2M
import Derived.Test.YtaegmenjgjdimaaGreatL01
import Derived.Test.YtaegmenjgjdimaaGreatEx1
import Derived.Test.YtaegmenjgjdimaaGreatEx2
import Derived.Test.YtaegmenjgjdimaaGreatFlat
set_option linter.unusedSimpArgs false
set_option linter.unusedVariables false
section
/- This text proves what the laws' helper functions over slices of strings do. -/
namespace Go.Proofs.YtaegmenjgjdimaaGreat
open Go.RowKit

/-- what a copy of strings holds after c rounds -/
def fillS (xs : List ByteArray) (c i : Nat) : Value := if i < c then .string (xs.getD i ⟨#[]⟩) else .string ⟨#[]⟩
def strC (xs : List ByteArray) (i : Nat) : Value := .string (xs.getD i ⟨#[]⟩)
theorem fillS_set {w : World} {b : Nat} {t : TypeId} {n : Nat} {xs : List ByteArray} {c : Nat} (h : w.rowIs b t n (fillS xs c)) {x : ByteArray} (hx : xs[c]? = some x) : (w.setCell ⟨b, c, none⟩ (.string x)).rowIs b t n (fillS xs (c + 1)) := by
  refine World.rowIs.congr (World.rowIs.set h c (.string x)) fun j _ => ?_
  unfold fillS
  by_cases e : j = c
  · subst e
    simp [List.getD, hx]
  · rw [if_neg e]
    by_cases h1 : j < c
    · rw [if_pos h1, if_pos (by omega)]
    · rw [if_neg h1, if_neg (by omega)]
theorem info_str : (Tryz.prog.info? 9).map (fun i => (i.zero, i.size, i.bytes)) = some (some (.string ⟨#[]⟩), 1, 16) := by kernel_rfl
/-- a store of a string into a whole block -/
theorem rowIs.put {w : World} {b : Nat} {t : TypeId} {n : Nat} {f : Nat → Value} (h : w.rowIs b t n f) (i : Nat) (x : Value) : ∃ f', (w.setCell ⟨b, i, none⟩ x).rowIs b t n f' ∧ (∀ j, j ≠ i → f' j = f j) :=
  ⟨fun j => if j = i then x else f j, World.rowIs.set h i x, fun j hj => by simp [hj]⟩
end Go.Proofs.YtaegmenjgjdimaaGreat
end

section
/- This text holds the instructions of the grid's machine and proves when one is well formed and what it pops and pushes, on both sides. -/
namespace Go.Proofs.YtaegmenjgjdimaaGreat
open Go.RowKit

theorem sIsVariable_val {s : ByteArray} {b : Bool} (h : isVar s = b) (w : World) : Calls Tryz.prog 79 #[.string s] w fun e w' => e = .returned (.bool b) ∧ Ext w w' := h ▸ sIsVariable_any s w
theorem sArity_val {s : ByteArray} {b : Int} (h : arity s = b) (w : World) : Calls Tryz.prog 78 #[.string s] w fun e w' => e = .returned (.int .i64 b) ∧ w = w' := h ▸ sArity_any s w
theorem iArity_val {s : ByteArray} {b : Int} (h : arity s = b) (w : World) : Calls Tryz.prog 69 #[.string s] w fun e w' => e = .returned (.int .i64 b) ∧ w = w' := h ▸ iArity_any s w
structure Ins where
  op : Int
  name : ByteArray
  num : Int
def Ins.val (x : Ins) : Value := .agg #[.int .i64 x.op, .string x.name, .int .i64 x.num]
/-- may instruction x stand in a code of L locals? -/
def wfI (op : Int) (s : ByteArray) (n L : Int) : Bool :=
  if op = 1 then s.toList == [] else if op = 2 then isVar s && decide (n = 0) else if op = 3 then s.toList == [] && inB n 0 (L - 1) else if op = 4 then s.toList == [] && inB n 0 (L - 1)
  else if op = 5 then s.toList == [] && decide (n = 3) else if op = 6 then s.toList == [] && inB n 4 7 else if op = 7 then decide (0 ≤ arity s) && decide (n = 0) else false
theorem iWf_any (op : Int) (s : ByteArray) (n L : Int) (w : World) (h0 : 0 ≤ L) (h1 : L ≤ 2000000) : Calls Tryz.prog 41 #[.agg #[.int .i64 op, .string s, .int .i64 n], .int .i64 L] w fun e w' => e = .returned (.bool (wfI op s n L)) ∧ Ext w w' := by
  by_cases h : 1 ≤ op ∧ op ≤ 7
  case neg =>
    have e : wfI op s n L = false := by
      unfold wfI
      rw [if_neg (by omega), if_neg (by omega), if_neg (by omega), if_neg (by omega), if_neg (by omega), if_neg (by omega), if_neg (by omega)]
    rw [e]
    exact iWfE op s n L w h
  rcases (show op = 1 ∨ op = 2 ∨ op = 3 ∨ op = 4 ∨ op = 5 ∨ op = 6 ∨ op = 7 by omega) with rfl | rfl | rfl | rfl | rfl | rfl | rfl
  · cases he : (s.toList == [])
    · rw [show wfI 1 s n L = false by simp [wfI, he]]; exact iWf1n s n L w he
    · rw [show wfI 1 s n L = true by simp [wfI, he]]; exact iWf1 s n L w he
  · cases he : isVar s
    · rw [show wfI 2 s n L = false by simp [wfI, he]]; exact iWf2n s n L w he
    · rw [show wfI 2 s n L = decide (n = 0) by simp [wfI, he]]; exact iWf2 s n L w he
  · cases he : (s.toList == [])
    · rw [show wfI 3 s n L = false by simp [wfI, he]]; exact iWf3n s n L w he
    · rw [show wfI 3 s n L = inB n 0 (L - 1) by simp [wfI, he]]; exact iWf3 s n L w he h0 h1
  · cases he : (s.toList == [])
    · rw [show wfI 4 s n L = false by simp [wfI, he]]; exact iWf4n s n L w he
    · rw [show wfI 4 s n L = inB n 0 (L - 1) by simp [wfI, he]]; exact iWf4 s n L w he h0 h1
  · cases he : (s.toList == [])
    · rw [show wfI 5 s n L = false by simp [wfI, he]]; exact iWf5n s n L w he
    · rw [show wfI 5 s n L = decide (n = 3) by simp [wfI, he]]; exact iWf5 s n L w he
  · cases he : (s.toList == [])
    · rw [show wfI 6 s n L = false by simp [wfI, he]]; exact iWf6n s n L w he
    · rw [show wfI 6 s n L = inB n 4 7 by simp [wfI, he]]; exact iWf6 s n L w he
  · by_cases he : 0 ≤ arity s
    · rw [show wfI 7 s n L = decide (n = 0) by simp [wfI, he]]; exact iWf7 s n L w he
    · rw [show wfI 7 s n L = false by simp [wfI, he]]; exact iWf7n s n L w (by omega)

end Go.Proofs.YtaegmenjgjdimaaGreat
end

section
/- This text proves what the reference takes an instruction to pop and push. -/
namespace Go.Proofs.YtaegmenjgjdimaaGreat
open Go.RowKit

end Go.Proofs.YtaegmenjgjdimaaGreat
end

section
/- This text holds the reading of codes, and what the simulation of a code's stack yields. -/
namespace Go.Proofs.YtaegmenjgjdimaaGreat
open Go.RowKit

/-- v reads in w as the instructions xs -/
def Inss (lo hi : Nat) (w : World) (v : Value) (xs : List Ins) : Prop :=
  ∃ a cap, v = .slice a xs.length cap ∧ xs.length ≤ cap ∧ cap ≤ maxLen ∧ ∀ i x, xs[i]? = some x → (I64 x.op ∧ I64 x.num) ∧ ∃ b off, a = some ⟨b, off, none⟩ ∧ lo ≤ b ∧ b < hi ∧ w.cell? ⟨b, off + i * 3, none⟩ = some (.int .i64 x.op) ∧ w.cell? ⟨b, off + i * 3 + 1, none⟩ = some (.string x.name) ∧ w.cell? ⟨b, off + i * 3 + 2, none⟩ = some (.int .i64 x.num)
theorem Inss.same {lo hi : Nat} {w w' : World} {v : Value} {xs : List Ins} (h : Inss lo hi w v xs) (s : Same lo hi w w') : Inss lo hi w' v xs := by
  obtain ⟨a, cap, h1, h2, h3, h4⟩ := h
  refine ⟨a, cap, h1, h2, h3, fun i x hx => ?_⟩
  obtain ⟨h5, b, off, h6, h7, h8, h9, h10, h11⟩ := h4 i x hx
  exact ⟨h5, b, off, h6, h7, h8, by rw [s.cell h7 h8]; exact h9, by rw [s.cell h7 h8]; exact h10, by rw [s.cell h7 h8]; exact h11⟩
theorem Inss.ext {lo hi : Nat} {w w' : World} {v : Value} {xs : List Ins} (h : Inss lo hi w v xs) (hh : hi ≤ w.heap.size) (e : Ext w w') : Inss lo hi w' v xs := h.same (e.same hh)
theorem Inss.wide {lo hi lo' hi' : Nat} {w : World} {v : Value} {xs : List Ins} (h : Inss lo hi w v xs) (h1 : lo' ≤ lo) (h2 : hi ≤ hi') : Inss lo' hi' w v xs := by
  obtain ⟨a, cap, g1, g2, g3, g4⟩ := h
  refine ⟨a, cap, g1, g2, g3, fun i x hx => ?_⟩
  obtain ⟨h5, b, off, h6, h7, h8, h9⟩ := g4 i x hx
  exact ⟨h5, b, off, h6, by omega, by omega, h9⟩
structure InssAt (lo hi : Nat) (w : World) (a : Option Addr) (cap : Nat) (xs : List Ins) : Prop where
  le : xs.length ≤ cap
  cap : cap ≤ 9223372036854775807
  cell : ∀ i x, xs[i]? = some x → (I64 x.op ∧ I64 x.num) ∧ ∃ b off, a = some ⟨b, off, none⟩ ∧ lo ≤ b ∧ b < hi ∧ w.cell? ⟨b, off + i * 3, none⟩ = some (.int .i64 x.op) ∧ w.cell? ⟨b, off + i * 3 + 1, none⟩ = some (.string x.name) ∧ w.cell? ⟨b, off + i * 3 + 2, none⟩ = some (.int .i64 x.num)
theorem Inss.open {lo hi : Nat} {w : World} {v : Value} {xs : List Ins} (h : Inss lo hi w v xs) : ∃ a cap, v = .slice a xs.length cap ∧ InssAt lo hi w a cap xs := by
  obtain ⟨a, cap, g1, g2, g3, g4⟩ := h
  exact ⟨a, cap, g1, g2, by unfold maxLen at g3; omega, g4⟩
theorem InssAt.shut {lo hi : Nat} {w : World} {a : Option Addr} {cap : Nat} {xs : List Ins} (h : InssAt lo hi w a cap xs) : Inss lo hi w (.slice a xs.length cap) xs :=
  ⟨a, cap, rfl, h.le, by unfold maxLen; have := h.cap; omega, h.cell⟩
/-- element k, and its cells in a world that w grew to -/
theorem InssAt.at {lo hi : Nat} {w : World} {a : Option Addr} {cap : Nat} {xs : List Ins} (h : InssAt lo hi w a cap xs) {k : Nat} (hk : k < xs.length) {wr : World} (hx : Ext w wr) (hh : hi ≤ w.heap.size) :
    ∃ b off op s n, a = some ⟨b, off, none⟩ ∧ b < w.heap.size ∧ b < wr.heap.size ∧ xs.drop k = ⟨op, s, n⟩ :: xs.drop (k + 1) ∧ xs[k]? = some ⟨op, s, n⟩ ∧ I64 op ∧ I64 n ∧ wr.cell? ⟨b, off + k * 3, none⟩ = some (.int .i64 op) ∧ wr.cell? ⟨b, off + k * 3 + 1, none⟩ = some (.string s) ∧ wr.cell? ⟨b, off + k * 3 + 2, none⟩ = some (.int .i64 n) := by
  obtain ⟨⟨i1, i2⟩, b, off, e, h1, h2, c0, c1, c2⟩ := h.cell k xs[k] (by simp [hk])
  have hz := hx.size
  refine ⟨b, off, xs[k].op, xs[k].name, xs[k].num, e, by omega, by omega, List.drop_eq_getElem_cons hk, by simp [hk], i1, i2, ?_, ?_, ?_⟩
  · exact (hx.cells.1 b _ (by omega)).trans c0
  · exact (hx.cells.1 b _ (by omega)).trans c1
  · exact (hx.cells.1 b _ (by omega)).trans c2

structure Cod where
  xs : List Ins
  ls : List ByteArray
def Cod.R (c : Cod) (lo hi : Nat) (w : World) (v : Value) : Prop := ∃ iu lu, v = .agg #[iu, lu] ∧ Inss lo hi w iu c.xs ∧ Strs lo hi w lu c.ls
theorem Cod.R.same {c : Cod} {lo hi : Nat} {w w' : World} {v : Value} (h : c.R lo hi w v) (s : Same lo hi w w') : c.R lo hi w' v := by
  obtain ⟨iu, lu, h1, h2, h3⟩ := h
  exact ⟨iu, lu, h1, h2.same s, h3.same s⟩
theorem Cod.R.ext {c : Cod} {lo hi : Nat} {w w' : World} {v : Value} (h : c.R lo hi w v) (hh : hi ≤ w.heap.size) (e : Ext w w') : c.R lo hi w' v := h.same (e.same hh)
theorem Cod.R.form {c : Cod} {lo hi : Nat} {w : World} {v : Value} (h : c.R lo hi w v) : ∃ a1 c1 a2 c2, v = .agg #[.slice a1 c.xs.length c1, .slice a2 c.ls.length c2] ∧ InssAt lo hi w a1 c1 c.xs ∧ StrsAt lo hi w a2 c2 c.ls := by
  obtain ⟨iu, lu, rfl, h2, h3⟩ := h
  obtain ⟨a1, c1, rfl, H1⟩ := h2.open
  obtain ⟨a2, c2, rfl, H2⟩ := h3.open
  exact ⟨a1, c1, a2, c2, rfl, H1, H2⟩

/-- the marks behind an instruction -/
def markSt (op n : Int) (st : Nat → Bool) : Nat → Bool := if op = 4 then fun j => if j = n.toNat then true else st j else st
/-- the simulation of the stack: the depth d, the greatest depth m, the stored locals st -/
def runD (L : Nat) : List Ins → Int → Int → (Nat → Bool) → Option Int
  | [], d, m, _ => if d = 0 then some m else none
  | x :: r, d, m, st =>
    if wfI x.op x.name x.num L = true ∧ (x.op = 3 → st x.num.toNat = true) ∧ popsI x.op x.name ≤ d then
      runD L r (d - popsI x.op x.name + pushI x.op) (if d - popsI x.op x.name + pushI x.op > m then d - popsI x.op x.name + pushI x.op else m) (markSt x.op x.num st) else none
def Cod.depth (c : Cod) : Option Int := if c.xs.length ≤ 300 then runD c.ls.length c.xs 0 0 (fun _ => false) else none
theorem arity_bd (s : ByteArray) : -1 ≤ arity s ∧ arity s ≤ 3 ∧ arity s ≠ 0 := by
  unfold arity arityL
  repeat' split
  all_goals decide
theorem pops_bd {op : Int} {s : ByteArray} {n : Int} {L : Nat} (h : wfI op s n L = true) : 0 ≤ popsI op s ∧ popsI op s ≤ 3 := by
  have := arity_bd s
  unfold popsI
  split
  · omega
  split
  · omega
  split
  · omega
  split
  · rename_i h7
    subst h7
    simp [wfI] at h
    omega
  · omega
theorem push_bd (op : Int) : 0 ≤ pushI op ∧ pushI op ≤ 1 := by
  unfold pushI
  split <;> omega
theorem wf_at {op : Int} {s : ByteArray} {n : Int} {L : Nat} (h : wfI op s n L = true) (ho : op = 3 ∨ op = 4) : ∃ j : Nat, n = j ∧ j < L := by
  have e : inB n 0 ((L : Int) - 1) = true := by
    rcases ho with rfl | rfl <;> (simp [wfI] at h; exact h.2)
  have := inB_iff.1 e
  exact ⟨n.toNat, by omega, by omega⟩
end Go.Proofs.YtaegmenjgjdimaaGreat
end

section
/- This text proves the program's StackDepth. -/
namespace Go.Proofs.YtaegmenjgjdimaaGreat
open Go.RowKit

/-- block b is a row of n booleans -/
def RowB (w : World) (b : Nat) (n : Nat) (f : Nat → Bool) : Prop := w.rowIs b 4 n (fun i => .bool (f i))
theorem RowB.ext {w w' : World} {b : Nat} {n : Nat} {f : Nat → Bool} (h : RowB w b n f) (e : Ext w w') : RowB w' b n f := World.rowIs.of_block h (e.block (World.rowIs.lt h))
theorem RowB.mark {w : World} {b : Nat} {n : Nat} {f : Nat → Bool} (h : RowB w b n f) (j : Nat) : RowB (w.setCell ⟨b, j, none⟩ (.bool true)) b n (fun i => if i = j then true else f i) := by
  refine World.rowIs.congr (World.rowIs.set h j (.bool true)) fun i _ => ?_
  by_cases e : i = j
  · subst e; simp
  · simp [e]
theorem info_bool' : (Tryz.prog.info? 4).map (fun i => (i.zero, i.size, i.bytes)) = some (some (.bool false), 1, 1) := by kernel_rfl
theorem iWf_val {op : Int} {s : ByteArray} {n : Int} {L : Nat} {b : Bool} (h : wfI op s n L = b) (h1 : L ≤ 2000000) (w : World) : Calls Tryz.prog 41 #[.agg #[.int .i64 op, .string s, .int .i64 n], .int .i64 L] w fun e w' => e = .returned (.bool b) ∧ Ext w w' := h ▸ iWf_any op s n L w (by omega) (by omega)
theorem iPops_val {op : Int} {s : ByteArray} {p q : Int} (hp : popsI op s = p) (hq : pushI op = q) (n : Int) (w : World) : Calls Tryz.prog 42 #[.agg #[.int .i64 op, .string s, .int .i64 n]] w fun e w' => e = .returned (.tuple #[.int .i64 p, .int .i64 q]) ∧ Ext w w' := hp ▸ hq ▸ iPops_any op s n w
theorem runD_nil {L : Nat} {d m : Int} {st : Nat → Bool} {R : Option Int} (h : runD L [] d m st = R) : R = if d = 0 then some m else none := h.symm
/-- a box of one instruction -/
structure XBox (w : World) (B : Nat) (op : Int) (s : ByteArray) (n : Int) : Prop where
  lt : B < w.heap.size
  c0 : w.cell? ⟨B, 0, none⟩ = some (.int .i64 op)
  c1 : w.cell? ⟨B, 1, none⟩ = some (.string s)
  c2 : w.cell? ⟨B, 2, none⟩ = some (.int .i64 n)
theorem XBox.made (w : World) (op : Int) (s : ByteArray) (n : Int) (ty : TypeId) : XBox (w.alloc (.cells #[.int .i64 op, .string s, .int .i64 n] ty)) w.heap.size op s n := ⟨by simp, by simp [go_sem], by simp [go_sem], by simp [go_sem]⟩
theorem XBox.ext {w w' : World} {B : Nat} {op : Int} {s : ByteArray} {n : Int} (h : XBox w B op s n) (e : Ext w w') : XBox w' B op s n := by
  have := e.size
  have h0 := h.lt
  obtain ⟨a, b⟩ := e.cells
  exact ⟨by omega, (a B _ h0).trans h.c0, (a B _ h0).trans h.c1, (a B _ h0).trans h.c2⟩

set_option maxRecDepth 10000 in
set_option maxHeartbeats 3200000 in
theorem iDepth_any (lo hi : Nat) (v : Value) (c : Cod) (w : World) (hv : c.R lo hi w v) (hh : hi ≤ w.heap.size) (hL : c.ls.length ≤ 2000000) :
    Calls Tryz.prog 16 #[v] w fun e w' => e = .returned (.tuple #[.int .i64 (c.depth.getD 0), .bool c.depth.isSome]) ∧ Ext w w' := by
  obtain ⟨a1, c1, a2, c2, rfl, HI, HS⟩ := hv.form
  have l1 := HI.le
  have l2 := HI.cap
  have l3 := HS.le
  have l4 := HS.cap
  clear hv
  obtain ⟨L, hLL⟩ : ∃ L, c.ls.length = L := ⟨_, rfl⟩
  rw [hLL] at hL l3 ⊢
  by_cases hlen : c.xs.length ≤ 300
  case neg =>
    have e : c.depth = none := by unfold Cod.depth; rw [if_neg hlen]
    rw [e]
    go_enter Tryz.func16, Tryz.ntmps16
    go_wp2
    refine bodyPost_ret (v := .tuple #[.int .i64 0, .bool false]) (by simp [results, Tryz.results16, go_sem]) rfl ⟨rfl, (by repeat (first | with_reducible assumption | with_reducible exact Ext.refl _ | with_reducible apply Ext.alloc | with_reducible apply Ext.drew | with_reducible apply Ext.drewN | (with_reducible refine Ext.setCell ?_ (by simp; omega) _) | (with_reducible refine Ext.setCell ?_ (by simp) _)))⟩
  obtain ⟨R, hR⟩ : ∃ R, c.depth = R := ⟨_, rfl⟩
  have hrun : runD L c.xs 0 0 (fun _ => false) = R := by rw [← hR, ← hLL]; unfold Cod.depth; rw [if_pos hlen]
  rw [hR]
  have HRUN := hid hrun
  clear hrun hR
  obtain ⟨i0, hi0, hz0, hz1, hz2⟩ := info_parts info_bool'
  go_enter Tryz.func16, Tryz.ntmps16
  go_wp2_with (at_make; refine wpList_make_row _ rfl _ _ 63 rfl 4 i0 (.bool false) Tryz.underlying63 hi0 hz0 hz1 rfl .i64 .i64 L rfl rfl (by rw [hz2]; omega) (by omega) ?_)
  have hrow := hid (show RowB _ _ L (fun _ => false) from World.rowIs_made (w.alloc (.cells #[.slice a1 c.xs.length c1, .slice a2 L c2] 44)) (.bool false) L 4)
  have hbox := hid ((TBox.made w (.slice a1 c.xs.length c1) (.slice a2 L c2) 44).ext ((Ext.refl _).alloc (.cells (madeCells #[.bool false] L) 4)))
  have X0 := hid (show Ext w ((w.alloc (.cells #[.slice a1 c.xs.length c1, .slice a2 L c2] 44)).alloc (.cells (madeCells #[.bool false] L) 4)) from (by repeat (with_reducible (first | assumption | exact Ext.refl _ | apply Ext.alloc | apply Ext.drew | apply Ext.drewN))))
  clear hi0 hz0 hz1 hz2
  go_wp2
  simp only [World.size_alloc] at hrow
  generalize hB : w.heap.size + 1 = B at hrow
  go_loopw [5, 6, 22] (fun dv mv i wr => ∃ (k : Nat) (d m : Int) (st : Nat → Bool), k ≤ c.xs.length ∧ i = .int .i64 k ∧ dv = .int .i64 d ∧ mv = .int .i64 m ∧ runD L (c.xs.drop k) d m st = R ∧ 0 ≤ d ∧ d ≤ k ∧ 0 ≤ m ∧ m ≤ k ∧ Ext w wr ∧ RowB wr B L st ∧ TBox wr w.heap.size (.slice a1 c.xs.length c1) (.slice a2 L c2)) (fun _ _ i _ => c.xs.length - (intOf i).toNat)
  case atStart => exact ⟨0, 0, 0, _, by omega, rfl, rfl, rfl, HRUN.out, by omega, by omega, by omega, by omega, X0.out, hrow.out, hbox.out⟩
  case round =>
    clear HRUN X0 hrow hbox
    obtain ⟨k, d, m, st, hk, rfl, rfl, rfl, hrun, d0, d1, m0, m1, hx, hrow, hbox⟩ := hrel
    have k0 : k ≤ 300 := by omega
    by_cases hlt : k < c.xs.length
    · obtain ⟨b, off, op, s, n, rfl, hb1, hbw, hdrop, hget, io, inn, x0, x1, x2⟩ := HI.at hlt hx hh
      rw [hdrop] at hrun
      unfold runD at hrun
      have q0 := hbox.lt
      have q1 := hbox.c0
      have q2 := hbox.c1
      have HX := hid hx
      have HR := hid hrow
      have HQ := hid hbox
      clear hx hrow hbox hdrop hget
      cases hwf : wfI op s n L
      · have e : R = none := by rw [← hrun, if_neg (by simp [hwf])]
        subst e
        clear hrun
        go_wp2_with fail
        refine (iWf_val hwf hL _).mono ?_
        rintro e w1 ⟨rfl, x1⟩
        have X1 : Ext w w1 := Ext.trans (by have hx := HX.out; exact (by repeat (with_reducible (first | assumption | exact Ext.refl _ | apply Ext.alloc | apply Ext.drew | apply Ext.drewN)))) x1
        go_wp2
        refine bodyPost_ret (v := .tuple #[.int .i64 0, .bool false]) (by simp [results, Tryz.results16, go_sem]) rfl ⟨rfl, (by repeat (first | with_reducible assumption | with_reducible exact Ext.refl _ | with_reducible apply Ext.alloc | with_reducible apply Ext.drew | with_reducible apply Ext.drewN | (with_reducible refine Ext.setCell ?_ (by simp; omega) _) | (with_reducible refine Ext.setCell ?_ (by simp) _)))⟩
      have pb := pops_bd hwf
      have qb := push_bd op
      obtain ⟨p, hp⟩ : ∃ p, popsI op s = p := ⟨_, rfl⟩
      obtain ⟨q, hq⟩ : ∃ q, pushI op = q := ⟨_, rfl⟩
      rw [hp, hq] at hrun
      rw [hp] at pb
      rw [hq] at qb
      have HP := hid hp
      have HQ2 := hid hq
      simp only [hwf, true_and] at hrun
      by_cases h3 : op = 3 ∧ st n.toNat = false
      · obtain ⟨rfl, h3⟩ := h3
        obtain ⟨j, rfl, hj⟩ := wf_at hwf (.inl rfl)
        simp only [Int.toNat_natCast] at h3
        have e : R = none := by rw [← hrun, if_neg (by simp [h3])]
        subst e
        clear hrun hp hq
        go_wp2_with fail
        refine (iWf_val hwf hL _).mono ?_
        rintro e w1 ⟨rfl, x1⟩
        have X1 : Ext w w1 := Ext.trans (by have hx := HX.out; exact (by repeat (with_reducible (first | assumption | exact Ext.refl _ | apply Ext.alloc | apply Ext.drew | apply Ext.drewN)))) x1
        have K1 := (XBox.made wr 3 s j 81).ext x1
        have R1 := (HR.out.ext ((Ext.refl _).alloc (.cells #[.int .i64 3, .string s, .int .i64 j] 81))).ext x1
        have y0 := K1.lt
        have y1 := K1.c0
        have y2 := K1.c1
        have y3 := K1.c2
        have z0 := World.rowIs.cell R1 hj
        rw [h3] at z0
        have z1 := World.rowIs.lt R1
        clear K1 R1 x0 x1 x2
        go_wp2
        refine bodyPost_ret (v := .tuple #[.int .i64 0, .bool false]) (by simp [results, Tryz.results16, go_sem]) rfl ⟨rfl, (by repeat (first | with_reducible assumption | with_reducible exact Ext.refl _ | with_reducible apply Ext.alloc | with_reducible apply Ext.drew | with_reducible apply Ext.drewN | (with_reducible refine Ext.setCell ?_ (by simp; omega) _) | (with_reducible refine Ext.setCell ?_ (by simp) _)))⟩
      have h3' : op = 3 → st n.toNat = true := fun e => by
        cases h : st n.toNat
        · exact absurd ⟨e, h⟩ h3
        · rfl
      have H3 := hid h3'
      by_cases hpd : p ≤ d
      case neg =>
        rw [if_neg (fun h => hpd h.2)] at hrun
        subst hrun
        clear hp hq h3'
        have hdp : (decide (d < p)) = true := decide_eq_true (by omega)
        by_cases e3 : op = 3
        · subst e3
          have := HP.out
          have e : popsI 3 s = 0 := rfl
          omega
        go_wp2_with fail
        refine (iWf_val hwf hL _).mono ?_
        rintro e w1 ⟨rfl, x1⟩
        have X1 : Ext w w1 := Ext.trans (by have hx := HX.out; exact (by repeat (with_reducible (first | assumption | exact Ext.refl _ | apply Ext.alloc | apply Ext.drew | apply Ext.drewN)))) x1
        have K1 := (XBox.made wr op s n 81).ext x1
        have y0 := K1.lt
        have y1 := K1.c0
        have y2 := K1.c1
        have y3 := K1.c2
        clear x0 x1 x2
        go_wp2_with fail
        refine (iPops_val HP.out HQ2.out n _).mono ?_
        rintro e w2 ⟨rfl, x2⟩
        have X2 : Ext w w2 := X1.trans x2
        go_wp2
        refine bodyPost_ret (v := .tuple #[.int .i64 0, .bool false]) (by simp [results, Tryz.results16, go_sem]) rfl ⟨rfl, (by repeat (first | with_reducible assumption | with_reducible exact Ext.refl _ | with_reducible apply Ext.alloc | with_reducible apply Ext.drew | with_reducible apply Ext.drewN | (with_reducible refine Ext.setCell ?_ (by simp; omega) _) | (with_reducible refine Ext.setCell ?_ (by simp) _)))⟩
      rw [if_pos ⟨h3', hpd⟩] at hrun
      have HR0 := hid hrun
      clear hrun hp hq h3'
      have pl : d - p + q ≤ (k : Int) + 1 := by omega
      have pn : 0 ≤ d - p + q := by omega
      obtain ⟨D, hD⟩ : ∃ D, d - p + q = D := ⟨_, rfl⟩
      rw [hD] at HR0 pl pn
      have hD2 : d + (q - p) = D := by omega
      have hM : ∃ M : Int, (if D > m then D else m) = M ∧ 0 ≤ M ∧ M ≤ (k : Int) + 1 := ⟨_, rfl, by split <;> omega, by split <;> omega⟩
      obtain ⟨M, hM, M0, M1⟩ := hM
      have HM := hid hM
      clear hD hM
      by_cases e3 : op = 3
      · subst e3
        obtain ⟨j, rfl, hj⟩ := wf_at hwf (.inl rfl)
        have hst := H3.out rfl
        simp only [Int.toNat_natCast] at hst
        go_wp2_with fail
        refine (iWf_val hwf hL _).mono ?_
        rintro e w1 ⟨rfl, x1⟩
        have X1 : Ext w w1 := Ext.trans (by have hx := HX.out; exact (by repeat (with_reducible (first | assumption | exact Ext.refl _ | apply Ext.alloc | apply Ext.drew | apply Ext.drewN)))) x1
        have g1 : Ext wr w1 := Ext.trans (by repeat (with_reducible (first | assumption | exact Ext.refl _ | apply Ext.alloc | apply Ext.drew | apply Ext.drewN))) x1
        have K1 := (XBox.made wr 3 s j 81).ext x1
        have R1 := HR.out.ext g1
        have z0 := World.rowIs.cell R1 hj
        rw [hst] at z0
        have z1 := World.rowIs.lt R1
        have y0 := K1.lt
        have y1 := K1.c0
        have y2 := K1.c1
        have y3 := K1.c2
        clear x0 x1 x2
        go_wp2_with fail
        refine (iPops_val HP.out HQ2.out j _).mono ?_
        rintro e w2 ⟨rfl, x2⟩
        have g2 : Ext wr w2 := g1.trans x2
        have X2 : Ext w w2 := X1.trans x2
        have K2 := K1.ext x2
        have R2 := R1.ext x2
        have B2 := HQ.out.ext g2
        clear y0 y1 y2 y3 X1 R1 K1 x2 g1 g2 z0 z1
        have y0 := K2.lt
        have y1 := K2.c0
        have y2 := K2.c1
        have y3 := K2.c2
        go_wp2
        rw [HM.out]
        go_roundw
        case rel => exact ⟨k + 1, D, M, _, by omega, by go_num, rfl, rfl, by rw [← HM.out]; exact HR0.out, pn, by omega, M0, by omega, X2, R2, B2⟩
        case measure => simp [intOf]; omega
      by_cases e4 : op = 4
      · subst e4
        obtain ⟨j, rfl, hj⟩ := wf_at hwf (.inr rfl)
        have hBs : B ≠ w.heap.size := by omega
        go_wp2_with fail
        refine (iWf_val hwf hL _).mono ?_
        rintro e w1 ⟨rfl, x1⟩
        have X1 : Ext w w1 := Ext.trans (by have hx := HX.out; exact (by repeat (with_reducible (first | assumption | exact Ext.refl _ | apply Ext.alloc | apply Ext.drew | apply Ext.drewN)))) x1
        have g1 : Ext wr w1 := Ext.trans (by repeat (with_reducible (first | assumption | exact Ext.refl _ | apply Ext.alloc | apply Ext.drew | apply Ext.drewN))) x1
        have K1 := (XBox.made wr 4 s j 81).ext x1
        have R1 := HR.out.ext g1
        have y0 := K1.lt
        have y1 := K1.c0
        have y2 := K1.c1
        have y3 := K1.c2
        clear x0 x1 x2
        go_wp2_with fail
        refine (iPops_val HP.out HQ2.out j _).mono ?_
        rintro e w2 ⟨rfl, x2⟩
        have g2 : Ext wr w2 := g1.trans x2
        have X2 : Ext w w2 := X1.trans x2
        have K2 := K1.ext x2
        have R2 := R1.ext x2
        have B2 := HQ.out.ext g2
        clear y0 y1 y2 y3 X1 R1 K1 x2 g1 g2 
        have y0 := K2.lt
        have y1 := K2.c0
        have y2 := K2.c1
        have y3 := K2.c2
        have z0 := World.rowIs.cell R2 hj
        have z1 := World.rowIs.lt R2
        have z2 := World.rowIs.frozen R2 j
        have HB2 := hid B2
        have HR2 := hid R2
        clear B2 R2
        go_wp2
        rw [HM.out]
        go_roundw
        case rel => exact ⟨k + 1, D, M, _, by omega, by go_num, rfl, rfl, by rw [← HM.out]; exact HR0.out, pn, by omega, M0, by omega, X2.setCell (by show w.heap.size ≤ B; omega) _, HR2.out.mark j, HB2.out.at (by simp) (Below.heap_setCell _ _ _ _ (by show w.heap.size ≠ B; omega))⟩
        case measure => simp [intOf]; omega
      · have hmk : markSt op n st = st := by unfold markSt; rw [if_neg e4]
        rw [hmk] at HR0
        clear hmk
        go_wp2_with fail
        refine (iWf_val hwf hL _).mono ?_
        rintro e w1 ⟨rfl, x1⟩
        have X1 : Ext w w1 := Ext.trans (by have hx := HX.out; exact (by repeat (with_reducible (first | assumption | exact Ext.refl _ | apply Ext.alloc | apply Ext.drew | apply Ext.drewN)))) x1
        have g1 : Ext wr w1 := Ext.trans (by repeat (with_reducible (first | assumption | exact Ext.refl _ | apply Ext.alloc | apply Ext.drew | apply Ext.drewN))) x1
        have K1 := (XBox.made wr op s n 81).ext x1
        have R1 := HR.out.ext g1
        have y0 := K1.lt
        have y1 := K1.c0
        have y2 := K1.c1
        have y3 := K1.c2
        clear x0 x1 x2
        go_wp2_with fail
        refine (iPops_val HP.out HQ2.out n _).mono ?_
        rintro e w2 ⟨rfl, x2⟩
        have g2 : Ext wr w2 := g1.trans x2
        have X2 : Ext w w2 := X1.trans x2
        have K2 := K1.ext x2
        have R2 := R1.ext x2
        have B2 := HQ.out.ext g2
        clear y0 y1 y2 y3 X1 R1 K1 x2 g1 g2 
        have y0 := K2.lt
        have y1 := K2.c0
        have y2 := K2.c1
        have y3 := K2.c2
        go_wp2
        rw [HM.out]
        go_roundw
        case rel => exact ⟨k + 1, D, M, _, by omega, by go_num, rfl, rfl, by rw [← HM.out]; exact HR0.out, pn, by omega, M0, by omega, X2, R2, B2⟩
        case measure => simp [intOf]; omega
    · obtain rfl : k = c.xs.length := by omega
      rw [List.drop_length] at hrun
      have e := runD_nil hrun
      clear hrun
      by_cases hd : d = 0
      · rw [if_pos hd] at e
        subst e hd
        go_wp2
        refine bodyPost_ret (v := .tuple #[.int .i64 m, .bool true]) (by simp [results, Tryz.results16, go_sem]) rfl ⟨rfl, (by repeat (first | with_reducible assumption | with_reducible exact Ext.refl _ | with_reducible apply Ext.alloc | with_reducible apply Ext.drew | with_reducible apply Ext.drewN | (with_reducible refine Ext.setCell ?_ (by simp; omega) _) | (with_reducible refine Ext.setCell ?_ (by simp) _)))⟩
      · rw [if_neg hd] at e
        have hd' : (d != 0) = true := by simp [hd]
        subst e
        go_wp2
        refine bodyPost_ret (v := .tuple #[.int .i64 0, .bool false]) (by simp [results, Tryz.results16, go_sem]) rfl ⟨rfl, (by repeat (first | with_reducible assumption | with_reducible exact Ext.refl _ | with_reducible apply Ext.alloc | with_reducible apply Ext.drew | with_reducible apply Ext.drewN | (with_reducible refine Ext.setCell ?_ (by simp; omega) _) | (with_reducible refine Ext.setCell ?_ (by simp) _)))⟩
end Go.Proofs.YtaegmenjgjdimaaGreat
end

section
/- This text proves the reference's StackDepth. -/
namespace Go.Proofs.YtaegmenjgjdimaaGreat
open Go.RowKit

theorem beN (s : ByteArray) : ∃ b, (s.toList == []) = b := ⟨_, rfl⟩
end Go.Proofs.YtaegmenjgjdimaaGreat
end

section
/- This text proves when a code may be run: the program's runnable, and that it agrees with the reference's look at all numbers. -/
namespace Go.Proofs.YtaegmenjgjdimaaGreat
open Go.RowKit

def numB (x : Ins) : Bool := inB x.num (-1000000000) 1000000000
/-- may the code be run? -/
def Cod.runB (c : Cod) : Bool := c.depth.isSome && c.xs.all numB
theorem runD_wf {L : Nat} : ∀ (xs : List Ins) (d m : Int) (st : Nat → Bool), (runD L xs d m st).isSome = true → ∀ x ∈ xs, wfI x.op x.name x.num L = true
  | [], _, _, _, _, x, hx => by cases hx
  | y :: r, d, m, st, h, x, hx => by
    unfold runD at h
    split at h
    · rename_i hc
      rcases List.mem_cons.1 hx with rfl | hx
      · exact hc.1
      · exact runD_wf r _ _ _ h x hx
    · simp at h
theorem Cod.wf {c : Cod} (h : c.depth.isSome = true) : ∀ x ∈ c.xs, wfI x.op x.name x.num c.ls.length = true := by
  unfold Cod.depth at h
  split at h
  · exact runD_wf _ _ _ _ h
  · simp at h
theorem wf_num {x : Ins} {L : Nat} (h : wfI x.op x.name x.num L = true) (hL : L ≤ 2000000) (h1 : x.op ≠ 1) : numB x = true := by
  unfold wfI at h
  rw [if_neg h1] at h
  refine inB_iff.2 ?_
  split at h
  · simp at h; omega
  split at h
  · simp [inB_iff] at h; omega
  split at h
  · simp [inB_iff] at h; omega
  split at h
  · simp at h; omega
  split at h
  · simp [inB_iff] at h; omega
  split at h
  · simp at h; omega
  · cases h
/-- the program looks at the numbers that are pushed alone -/
def pushB (x : Ins) : Bool := !(x.op == 1) || numB x
theorem Cod.runB_push {c : Cod} (hL : c.ls.length ≤ 2000000) : (c.xs.all pushB && c.depth.isSome) = c.runB := by
  unfold Cod.runB
  cases h : c.depth.isSome
  · simp
  · rw [Bool.and_true, Bool.true_and]
    have hw := Cod.wf h
    rw [Bool.eq_iff_iff, List.all_eq_true, List.all_eq_true]
    constructor
    · intro k x hx
      have h1 := k x hx
      by_cases e : x.op = 1
      · simpa [pushB, e] using h1
      · exact wf_num (hw x hx) hL e
    · intro k x hx
      simp [pushB, k x hx]
theorem iDepth_val {c : Cod} {m : Int} {b : Bool} (h : c.depth.getD 0 = m ∧ c.depth.isSome = b) (lo hi : Nat) (v : Value) (w : World) (hv : c.R lo hi w v) (hh : hi ≤ w.heap.size) (hL : c.ls.length ≤ 2000000) :
    Calls Tryz.prog 16 #[v] w fun e w' => e = .returned (.tuple #[.int .i64 m, .bool b]) ∧ Ext w w' := h.1 ▸ h.2 ▸ iDepth_any lo hi v c w hv hh hL
set_option maxRecDepth 10000 in
set_option maxHeartbeats 3200000 in
theorem iRunnable_val {c : Cod} {r : Bool} (hr : c.runB = r) (lo hi : Nat) (v : Value) (w : World) (hv : c.R lo hi w v) (hh : hi ≤ w.heap.size) (hL : c.ls.length ≤ 2000000) :
    Calls Tryz.prog 38 #[v] w fun e w' => e = .returned (.bool r) ∧ Ext w w' := by
  have HV := hid hv
  obtain ⟨a1, c1, a2, c2, rfl, HI, HS⟩ := hv.form
  have l1 := HI.le
  have l2 := HI.cap
  clear hv HS
  rw [← Cod.runB_push hL] at hr
  have HR := hid hr
  clear hr
  go_enter Tryz.func38, Tryz.ntmps38
  go_wp2
  have hbox := hid (TBox.made w (.slice a1 c.xs.length c1) (.slice a2 c.ls.length c2) 44)
  have X0 := hid (show Ext w (w.alloc (.cells #[.slice a1 c.xs.length c1, .slice a2 c.ls.length c2] 44)) from (by repeat (with_reducible (first | assumption | exact Ext.refl _ | apply Ext.alloc | apply Ext.drew | apply Ext.drewN))))
  go_loopw [10] (fun i wr => ∃ (k : Nat), k ≤ c.xs.length ∧ i = .int .i64 k ∧ (c.xs.take k).all pushB = true ∧ Ext w wr ∧ TBox wr w.heap.size (.slice a1 c.xs.length c1) (.slice a2 c.ls.length c2)) (fun i _ => c.xs.length - (intOf i).toNat)
  case atStart => exact ⟨0, by omega, rfl, rfl, X0.out, hbox.out⟩
  case round =>
    clear X0 hbox
    obtain ⟨k, hk, rfl, hall, hx, hbox⟩ := hrel
    by_cases hlt : k < c.xs.length
    · obtain ⟨b, off, op, s, n, rfl, hb1, hbw, hdrop, hget, io, inn, x0, x1, x2⟩ := HI.at hlt hx hh
      have hk2 : c.xs[k] = ⟨op, s, n⟩ := by have := hget; rw [List.getElem?_eq_getElem hlt] at this; exact Option.some.inj this
      have HX := hid hx
      have HQ := hid (hbox.ext ((Ext.refl _).alloc (.cells #[.int .i64 op, .string s, .int .i64 n] 81)))
      have HA := hid hall
      have HK := hid hk2
      clear hx hbox hdrop hget hall hk2
      by_cases h1 : op = 1
      · subst h1
        cases hn : inB n (-1000000000) 1000000000
        · have hn2 := hid hn
          go_wp2_with fail
          refine (within_val hn2.out _).mono ?_
          rintro e w1 ⟨rfl, rfl⟩
          go_wp2
          go_ret
          have e : c.xs.all pushB = false := all_no hlt (by rw [HK.out]; simp [pushB, numB, hn2.out])
          have hr := HR.out
          rw [e] at hr
          refine ⟨ret_bool hr, ?_⟩
          have hx := HX.out
          exact (by repeat (first | with_reducible assumption | with_reducible exact Ext.refl _ | with_reducible apply Ext.alloc | with_reducible apply Ext.drew | with_reducible apply Ext.drewN | (with_reducible refine Ext.setCell ?_ (by simp; omega) _) | (with_reducible refine Ext.setCell ?_ (by simp) _)))
        · have hn2 := hid hn
          go_wp2_with fail
          refine (within_val hn2.out _).mono ?_
          rintro e w1 ⟨rfl, rfl⟩
          go_wp2
          go_roundw
          case rel =>
            refine ⟨k + 1, by omega, by go_num, all_step hlt HA.out (by rw [HK.out]; simp [pushB, numB, hn2.out]), ?_, HQ.out⟩
            have hx := HX.out
            exact (by repeat (first | with_reducible assumption | with_reducible exact Ext.refl _ | with_reducible apply Ext.alloc | with_reducible apply Ext.drew | with_reducible apply Ext.drewN | (with_reducible refine Ext.setCell ?_ (by simp; omega) _) | (with_reducible refine Ext.setCell ?_ (by simp) _)))
          case measure => simp [intOf]; omega
      · have h1' : (op == 1) = false := beq_eq_false_iff_ne.2 h1
        have H1 := hid h1'
        go_wp2
        go_roundw
        case rel =>
          refine ⟨k + 1, by omega, by go_num, all_step hlt HA.out (by rw [HK.out]; simp [pushB, H1.out]), ?_, HQ.out⟩
          have hx := HX.out
          exact (by repeat (first | with_reducible assumption | with_reducible exact Ext.refl _ | with_reducible apply Ext.alloc | with_reducible apply Ext.drew | with_reducible apply Ext.drewN | (with_reducible refine Ext.setCell ?_ (by simp; omega) _) | (with_reducible refine Ext.setCell ?_ (by simp) _)))
        case measure => simp [intOf]; omega
    · obtain rfl : k = c.xs.length := by omega
      rw [List.take_length] at hall
      have hr := HR.out
      rw [hall, Bool.true_and] at hr
      have HR2 := hid hr
      clear hr hall
      have q0 := hbox.lt
      have q1 := hbox.c0
      have q2 := hbox.c1
      clear hbox
      go_wp2_with fail
      refine (iDepth_val ⟨rfl, HR2.out⟩ lo hi _ _ (HV.out.ext hh (by assumption)) (by have := hx.size; omega) hL).mono ?_
      rintro e w1 ⟨rfl, x1⟩
      go_wp2
      go_ret
      exact ⟨rfl, hx.trans x1⟩
end Go.Proofs.YtaegmenjgjdimaaGreat
end

section
/- This text proves what the laws' helper functions over instructions do. -/
namespace Go.Proofs.YtaegmenjgjdimaaGreat
open Go.RowKit

/-- the first c cells of f, then those of z -/
def fillG (f z : Nat → Value) (c i : Nat) : Value := if i < c then f i else z i
theorem fillG_step {w : World} {b : Nat} {t : TypeId} {n : Nat} {f z : Nat → Value} {c : Nat} (h : w.rowIs b t n (fillG f z c)) {i : Nat} {x : Value} (hi : i = c) (hx : x = f c) : (w.setCell ⟨b, i, none⟩ x).rowIs b t n (fillG f z (c + 1)) := by
  subst hi hx
  refine World.rowIs.congr (World.rowIs.set h i (f i)) fun j _ => ?_
  unfold fillG
  by_cases e : j = i
  · subst e; simp
  · rw [if_neg e]
    by_cases h1 : j < i
    · rw [if_pos h1, if_pos (by omega)]
    · rw [if_neg h1, if_neg (by omega)]
def insC (xs : List Ins) (i : Nat) : Value :=
  match xs[i / 3]? with
  | some x => if i % 3 = 0 then .int .i64 x.op else if i % 3 = 1 then .string x.name else .int .i64 x.num
  | none => .int .i64 0
def insZ (i : Nat) : Value := if i % 3 = 1 then .string ⟨#[]⟩ else .int .i64 0
theorem insC_at {xs : List Ins} {k : Nat} {x : Ins} (h : xs[k]? = some x) : insC xs (k * 3) = .int .i64 x.op ∧ insC xs (k * 3 + 1) = .string x.name ∧ insC xs (k * 3 + 2) = .int .i64 x.num := by
  refine ⟨?_, ?_, ?_⟩
  · unfold insC
    rw [show k * 3 / 3 = k by omega, h, show k * 3 % 3 = 0 by omega]
    rfl
  · unfold insC
    rw [show (k * 3 + 1) / 3 = k by omega, h, show (k * 3 + 1) % 3 = 1 by omega]
    rfl
  · unfold insC
    rw [show (k * 3 + 2) / 3 = k by omega, h, show (k * 3 + 2) % 3 = 2 by omega]
    rfl
theorem insZ_at (k : Nat) : insZ (k * 3) = .int .i64 0 ∧ insZ (k * 3 + 1) = .string ⟨#[]⟩ ∧ insZ (k * 3 + 2) = .int .i64 0 := by
  refine ⟨?_, ?_, ?_⟩
  · unfold insZ; rw [show k * 3 % 3 = 0 by omega]; rfl
  · unfold insZ; rw [show (k * 3 + 1) % 3 = 1 by omega]; rfl
  · unfold insZ; rw [show (k * 3 + 2) % 3 = 2 by omega]; rfl
theorem info_Ins : (Tryz.prog.info? 81).map (fun i => (i.zero, i.size, i.bytes)) = some (some (.agg #[.int .i64 0, .string ⟨#[]⟩, .int .i64 0]), 3, 32) := by kernel_rfl
theorem made_ins (n : Nat) : ∀ i, i < n → (madeCells #[.int .i64 0, .string ⟨#[]⟩, .int .i64 0] n)[i]? = some (insZ i) := by
  intro i hi
  unfold insZ
  have : i % 3 < 3 := Nat.mod_lt _ (by decide)
  rcases (show i % 3 = 0 ∨ i % 3 = 1 ∨ i % 3 = 2 by omega) with e | e | e <;> simp [madeCells, hi, e]
/-- what make laid, elements of several cells -/
theorem ownsRow_rowIs {w : World} {lo : Nat} {e : TypeId} {size n g : Nat} {z : Array Value} {f : Nat → Value} (hz : ∀ i, i < n * size → (madeCells z (n * size))[i]? = some (f i))
    (h : w.ownsRow lo e size (.slice (some ⟨g, 0, none⟩) n n) n (madeCells z (n * size)).toList) : w.rowIs g e (n * size) f := by
  rcases h.2 with ⟨h1, h4⟩ | ⟨g', cap, cur, h1, hb, hg, hc, hm, hs, ht⟩
  · simp at h1
  · simp only [Value.slice.injEq, true_and, Option.some.injEq, Addr.mk.injEq, and_true] at h1
    obtain ⟨rfl, rfl⟩ := h1
    refine ⟨cur, hg, hs, fun i hi => ?_⟩
    have h2 := hz i hi
    have h3 : cur.toList = (madeCells z (n * size)).toList := by
      rw [← ht, List.take_of_length_le]
      simp [hs]
    rw [← Array.getElem?_toList, h3, Array.getElem?_toList]
    exact h2
/-- the cells of instructions: a number, a text, a number -/
def insK (n : Nat) (f : Nat → Value) : Prop := ∀ i, i < n → (∃ x, f (i * 3) = .int .i64 x) ∧ (∃ s, f (i * 3 + 1) = .string s) ∧ ∃ x, f (i * 3 + 2) = .int .i64 x
theorem insK_of (xs : List Ins) : insK xs.length (insC xs) := fun i hi => by
  obtain ⟨a, b, c⟩ := insC_at (xs := xs) (k := i) (x := xs[i]) (by simp [hi])
  exact ⟨⟨_, a⟩, ⟨_, b⟩, ⟨_, c⟩⟩
end Go.Proofs.YtaegmenjgjdimaaGreat
end

section
/- This text proves what the laws' helper functions over codes do. -/
namespace Go.Proofs.YtaegmenjgjdimaaGreat
open Go.RowKit

/-- the texts in a code are of a size that memory holds -/
def Cod.bd (c : Cod) : Prop := (∀ x ∈ c.xs, x.name.size ≤ maxLen) ∧ ∀ s ∈ c.ls, s.size ≤ maxLen
def Cod.small (c : Cod) : Prop := c.xs.length ≤ 1048576 ∧ c.ls.length ≤ 1048576
/-- v owns the code c in the blocks from lo up to hi -/
def Cod.O (c : Cod) (lo hi : Nat) (w : World) (v : Value) : Prop := ∃ b b2, v = .agg #[.slice (some ⟨b, 0, none⟩) c.xs.length c.xs.length, .slice (some ⟨b2, 0, none⟩) c.ls.length c.ls.length] ∧ lo ≤ b ∧ b < hi ∧ lo ≤ b2 ∧ b2 < hi ∧ w.rowIs b 81 (c.xs.length * 3) (insC c.xs) ∧ w.rowIs b2 9 c.ls.length (strC c.ls) ∧ (∀ x ∈ c.xs, I64 x.op ∧ I64 x.num) ∧ c.small
theorem Cod.O.kp {c : Cod} {lo hi : Nat} {w w' : World} {v : Value} (h : c.O lo hi w v) (k : Kp lo hi w w') : c.O lo hi w' v := by
  obtain ⟨b, b2, h1, h2, h3, h4, h5, h6, h7, h8⟩ := h
  exact ⟨b, b2, h1, h2, h3, h4, h5, World.rowIs.of_block h6 (k.2 b h2 h3), World.rowIs.of_block h7 (k.2 b2 h4 h5), h8⟩
theorem Cod.O.R {c : Cod} {lo hi : Nat} {w : World} {v : Value} (h : c.O lo hi w v) : c.R lo hi w v := by
  obtain ⟨b, b2, rfl, h2, h3, h4, h5, h6, h7, h8, z1, z2⟩ := h
  refine ⟨_, _, rfl, ⟨_, _, rfl, Nat.le_refl _, by unfold maxLen; omega, fun i x hx => ⟨h8 x (List.mem_of_getElem? hx), b, 0, rfl, h2, h3, ?_⟩⟩, ⟨_, _, rfl, Nat.le_refl _, by unfold maxLen; omega, fun i x hx => ⟨b2, 0, rfl, h4, h5, ?_⟩⟩⟩
  · have hi := (List.getElem?_eq_some_iff.1 hx).1
    obtain ⟨e0, e1, e2⟩ := insC_at hx
    have hl := flat_lt (k := 3) (j := 2) hi (by decide)
    refine ⟨?_, ?_, ?_⟩
    · rw [Nat.zero_add, World.rowIs.cell h6 (by omega), e0]
    · rw [Nat.zero_add, World.rowIs.cell h6 (by omega), e1]
    · rw [Nat.zero_add, World.rowIs.cell h6 (by omega), e2]
  · have hi := (List.getElem?_eq_some_iff.1 hx).1
    rw [Nat.zero_add, World.rowIs.cell h7 hi]
    unfold strC
    rw [List.getD, hx]
    rfl
theorem Cod.O.form {c : Cod} {lo hi : Nat} {w : World} {v : Value} (h : c.O lo hi w v) : ∃ b b2, v = .agg #[.slice (some ⟨b, 0, none⟩) c.xs.length c.xs.length, .slice (some ⟨b2, 0, none⟩) c.ls.length c.ls.length] := by
  obtain ⟨b, b2, h1, _⟩ := h
  exact ⟨b, b2, h1⟩
theorem Cod.R.i64 {c : Cod} {lo hi : Nat} {w : World} {v : Value} (h : c.R lo hi w v) : ∀ x ∈ c.xs, I64 x.op ∧ I64 x.num := by
  obtain ⟨iu, lu, _, ⟨a, cap, _, _, _, h2⟩, _⟩ := h
  intro x hx
  obtain ⟨i, hi, rfl⟩ := List.getElem_of_mem hx
  exact (h2 i c.xs[i] (by simp [hi])).1
end Go.Proofs.YtaegmenjgjdimaaGreat
end

section
/- This text proves the walk of the program's 'called' at a function that lies in its table. -/
namespace Go.Proofs.YtaegmenjgjdimaaGreat
open Go.RowKit

/-- column k of the rows S -/
def colOf (S : List (List Int)) (k : Nat) : List Int := S.map fun r => r.getD k 0
theorem colOf_len (S : List (List Int)) (k : Nat) : (colOf S k).length = S.length := by simp [colOf]
theorem colOf_take (S : List (List Int)) (k j : Nat) (h : j < S.length) : (colOf S k).take j ++ [S[j].getD k 0] = (colOf S k).take (j + 1) := by
  rw [List.take_succ_eq_append_getElem (by rw [colOf_len]; exact h)]
  simp [colOf]
/-- what is asked of a row: its length, its range -/
def good (m : Nat) (r : List Int) : Prop := r.length = m ∧ ∀ x ∈ r, S9 x
theorem colOf_S9 {m : Nat} {S : List (List Int)} (h : ∀ r ∈ S, good m r) {k : Nat} (hk : k < m) : ∀ x ∈ colOf S k, S9 x := by
  intro x hx
  obtain ⟨r, hr, rfl⟩ := List.mem_map.1 hx
  obtain ⟨h1, h2⟩ := h r hr
  have e : r.getD k 0 = r[k]'(by omega) := getD_at r k (by omega)
  exact e ▸ h2 _ (List.getElem_mem _)
/-- the function F of the table computes fv at arguments of number ar -/
def Fun (F : Nat) (t : Tex) (ar : Nat) (fv : List Int → Int) : Prop :=
  ∀ (lo hi lo' hi' : Nat) (u v : Value) (x : List Int) (w : World), x.length = ar → (∀ y ∈ x, S9 y) → Ints lo hi w u x → hi ≤ w.heap.size → TexR lo' hi' w v t → hi' ≤ w.heap.size →
    Calls Tryz.prog F #[v, u] w fun e w' => e = .returned (.int .i64 (fv x)) ∧ Ext w w'

/-- a fresh box of two cells that may be written -/
structure FBox (w : World) (B : Nat) (a b : Value) : Prop where
  lt : B < w.heap.size
  c0 : w.cell? ⟨B, 0, none⟩ = some a
  c1 : w.cell? ⟨B, 1, none⟩ = some b
  f0 : w.frozen? ⟨B, 0, none⟩ = false
  f1 : w.frozen? ⟨B, 1, none⟩ = false
theorem FBox.made (w : World) (a b : Value) (ty : TypeId) : FBox (w.alloc (.cells #[a, b] ty)) w.heap.size a b := ⟨by simp, by simp [go_sem], by simp [go_sem], by simp [go_sem], by simp [go_sem]⟩
theorem FBox.ext {w w' : World} {B : Nat} {a b : Value} (h : FBox w B a b) (e : Ext w w') : FBox w' B a b := by
  have := e.size
  have h0 := h.lt
  obtain ⟨p, q⟩ := e.cells
  exact ⟨by omega, (p B _ h0).trans h.c0, (p B _ h0).trans h.c1, (q B _ h0).trans h.f0, (q B _ h0).trans h.f1⟩
theorem FBox.set2 {w : World} {B : Nat} {a b : Value} (h : FBox w B a b) (x y : Value) : TBox ((w.setCell ⟨B, 0, none⟩ x).setCell ⟨B, 1, none⟩ y) B x y := by
  have h0 := h.lt
  have h1 := h.c0
  have h2 := h.c1
  refine ⟨by simpa using h0, by simp [go_sem, h1], by simp [go_sem, h2]⟩

set_option maxRecDepth 10000 in
set_option maxHeartbeats 6400000 in
theorem iCalled_gen (F : Nat) (fv : List Int → Int) (i0 : Nat) (s : ByteArray) (S : List (List Int)) (lo hi lo' hi' : Nat) (n m : Nat) (pu tu av : Value) (tm : Int) (t : Tex) (w : World)
    (hdu : (s.toList == [100, 117]) = false) (hdv : (s.toList == [100, 118]) = false) (hlook : Instr.findNow .string (.string s) fnEntries.toList 0 = some (some (i0, .func (.func F) #[] #[])))
    (hE : ∀ xs w', (callFunc F xs).run Tryz.prog w' = .ok (.enter F xs) w') (hF : Fun F t S.length fv) (hS : SS lo hi w av S) (hh : hi ≤ w.heap.size) (hT : TexR lo' hi' w (.agg #[.int .i64 t.log, tu]) t) (hh' : hi' ≤ w.heap.size) (hg : ∀ r ∈ S, good m r) (hm : (n : Int) * n = m) (hm2 : m ≤ 64) (hl : S.length ≤ 3) :
    Calls Tryz.prog 57 #[.string s, .agg #[.int .i64 n, pu, .int .i64 tm, .int .i64 t.log, tu], av] w fun e w' => ∃ r, e = .returned r ∧ OwnInts w.heap.size w' r ((List.range m).map fun k => satI (fv (colOf S k))) ∧ Ext w w' := by
  obtain ⟨a, cap, rfl, HS⟩ := hS.open
  have l1 := HS.le
  have l2 := HS.cap
  obtain ⟨ta, tc, rfl⟩ : ∃ ta tc, tu = .slice ta t.px.length tc := by
    obtain ⟨u, h1, _, h2⟩ := hT
    obtain ⟨ta, tc, h3, _⟩ := h2.open
    simp only [Value.agg.injEq, Array.mk.injEq, List.cons.injEq, true_and, and_true] at h1
    exact ⟨ta, tc, h1.trans h3⟩
  have HT := hid hT
  have HG := hid hg
  have HF := hid hF
  clear hS hT hg hF
  obtain ⟨j0, hj0, hz0, hz1, hz2⟩ := info_parts info_int
  go_enter Tryz.func57, Tryz.ntmps57
  have hsz : w.heap.size + 1 = (w.alloc (.cells #[.int .i64 n, pu, .int .i64 tm, .int .i64 t.log, .slice ta t.px.length tc] 33)).heap.size := by simp
  have hq0 : Ext w (w.alloc (.cells #[.int .i64 n, pu, .int .i64 tm, .int .i64 t.log, .slice ta t.px.length tc] 33)) := (by repeat (with_reducible (first | assumption | exact Ext.refl _ | apply Ext.alloc | apply Ext.drew | apply Ext.drewN)))
  have hc0 : (w.alloc (.cells #[.int .i64 n, pu, .int .i64 tm, .int .i64 t.log, .slice ta t.px.length tc] 33)).cell? ⟨w.heap.size, 0, none⟩ = some (.int .i64 n) := by simp [go_sem]
  have hc3 : (w.alloc (.cells #[.int .i64 n, pu, .int .i64 tm, .int .i64 t.log, .slice ta t.px.length tc] 33)).cell? ⟨w.heap.size, 3, none⟩ = some (.int .i64 t.log) := by simp [go_sem]
  have hc4 : (w.alloc (.cells #[.int .i64 n, pu, .int .i64 tm, .int .i64 t.log, .slice ta t.px.length tc] 33)).cell? ⟨w.heap.size, 4, none⟩ = some (.slice ta t.px.length tc) := by simp [go_sem]
  go_upto_region 6 with fail
  generalize (w.alloc (.cells #[.int .i64 n, pu, .int .i64 tm, .int .i64 t.log, .slice ta t.px.length tc] 33)) = W0 at hsz hq0 hc0 hc3 hc4 ⊢
  have hlt : w.heap.size < W0.heap.size := by omega
  go_cut [7, 8] from 31 to 36 (fun fn p wx => fn = .func (.func F) #[] #[] ∧ ∃ A, p = .pointer (some ⟨A, 0, none⟩) ∧ W0.heap.size ≤ A ∧ Ext W0 wx ∧ TBox wx A (.int .i64 t.log) (.slice ta t.px.length tc))
  case first =>
    refine wp_region_Z 8 W0.heap.size (by kernel_rfl) ?_
    refine wpZ_stage (fuel := 4) [1, 3, 4, 5] [0, 6] (by kernel_rfl) (fun b _ hb => rfl) ?_
    try simp only [Act.put, List.setIfInBounds_toArray, List.set_cons_succ, List.set_cons_zero]
    simp only [List.filterMap_cons, List.filterMap_nil, List.getElem?_toArray, List.getElem?_cons_zero, List.getElem?_cons_succ]
    show wpQuiet _ _ _ _ [_, _, _, _] _
    repeat (go_big_quiet_step (fail))
    refine wpQuiet_nil ?_
    intro e he
    simp only [List.mem_cons, List.not_mem_nil, or_false] at he
    rcases he with rfl | rfl
    · (unfold wpComes; simp only [List.getElem?_toArray, List.getElem?_cons_succ, List.getElem?_cons_zero, Option.some.injEq]; refine ⟨_, rfl, fun K hK => ?_⟩)
      go_wp2_with fail
      refine (pointwise_any _).mono ?_
      rintro e wa ⟨mb, rfl, mlo, mlt, mh, xa⟩
      have ua : Ext W0 wa := Ext.trans (by repeat (with_reducible (first | assumption | exact Ext.refl _ | apply Ext.alloc | apply Ext.drew | apply Ext.drewN))) xa
      go_wp2_with fail
      refine hK _ _ (.inr (fun b _ hb => ua.block (by omega))) ?_
      clear hK K
      refine wpZ_stage (fuel := 3) [] [2, 6] (by kernel_rfl) (fun b _ hb => ua.block (by omega)) ?_
      refine wpQuiet_nil ?_
      intro e he
      simp only [List.mem_cons, List.not_mem_nil, or_false] at he
      rcases he with rfl | rfl
      · (unfold wpComes; simp only [List.getElem?_toArray, List.getElem?_cons_succ, List.getElem?_cons_zero, Option.some.injEq]; refine ⟨_, rfl, fun K hK => ?_⟩)
        refine wpList_look _ rfl _ _ rfl mb _ _ _ rfl mh _ rfl _ hlook ?_
        go_wp2
        refine hK _ _ (.inr (fun b _ hb => ua.block (by omega))) ?_
        clear hK K
        refine wpZ_stage (fuel := 2) [] [6] (by kernel_rfl) (fun b _ hb => ua.block (by omega)) ?_
        refine wpQuiet_nil ?_
        intro e he
        simp only [List.mem_cons, List.not_mem_nil, or_false] at he
        subst he
        (unfold wpComes; simp only [List.getElem?_toArray, List.getElem?_cons_succ, List.getElem?_cons_zero, Option.some.injEq]; refine ⟨_, rfl, fun K hK => ?_⟩)
        go_wp2
        have ub := ua.alloc (.cells #[.int .i64 0, .slice none 0 0] 169)
        have bx := FBox.made wa (.int .i64 0) (.slice none 0 0) 169
        have hA := ua.size
        refine hK _ _ (.inr (fun b _ hb => ub.block (by omega))) ?_
        clear hK K
        refine wpZ_stage (fuel := 0) [7] [8] (by kernel_rfl) (fun b _ hb => ub.block (by omega)) ?_
        try simp only [Act.put, List.setIfInBounds_toArray, List.set_cons_succ, List.set_cons_zero]
        simp only [List.filterMap_cons, List.filterMap_nil, List.getElem?_toArray, List.getElem?_cons_zero, List.getElem?_cons_succ]
        show wpQuiet _ _ _ _ [_] _
        repeat (go_big_quiet_step (fail))
        refine wpQuiet_nil ?_
        intro e he
        simp only [List.mem_cons, List.not_mem_nil, or_false] at he
        subst he
        (unfold wpComes; simp only [List.getElem?_toArray, List.getElem?_cons_succ, List.getElem?_cons_zero, Option.some.injEq]; refine ⟨_, rfl, fun K hK => ?_⟩)
        have k0 := bx.lt
        have k1 := bx.c0
        have k2 := bx.c1
        have k3 := bx.f0
        have k4 := bx.f1
        go_wp2
        refine hK _ _ (.inl (by trivial)) ?_
        clear hK K
        refine wpZ_end (by kernel_rfl) ?_
        go_wp2_with fail
        go_meet
        exact ⟨rfl, wa.heap.size, rfl, by omega, (by have X := ub; exact (by repeat (first | with_reducible assumption | with_reducible exact Ext.refl _ | with_reducible apply Ext.alloc | with_reducible apply Ext.drew | with_reducible apply Ext.drewN | (with_reducible refine Ext.setCell ?_ (by simp; omega) _) | (with_reducible refine Ext.setCell ?_ (by simp) _)))), by first | exact TBox.made _ _ _ _ | exact bx.set2 _ _⟩
      · (unfold wpComes; simp only [List.getElem?_toArray, List.getElem?_cons_succ, List.getElem?_cons_zero, Option.some.injEq]; refine ⟨_, rfl, fun K hK => ?_⟩)
        go_wp2
        have ub := ua.alloc (.cells #[.int .i64 0, .slice none 0 0] 169)
        have bx := FBox.made wa (.int .i64 0) (.slice none 0 0) 169
        have hA := ua.size
        refine hK _ _ (.inr (fun b _ hb => ub.block (by omega))) ?_
        clear hK K
        refine wpZ_stage (fuel := 2) [] [2] (by kernel_rfl) (fun b _ hb => ub.block (by omega)) ?_
        refine wpQuiet_nil ?_
        intro e he
        simp only [List.mem_cons, List.not_mem_nil, or_false] at he
        subst he
        (unfold wpComes; simp only [List.getElem?_toArray, List.getElem?_cons_succ, List.getElem?_cons_zero, Option.some.injEq]; refine ⟨_, rfl, fun K hK => ?_⟩)
        refine wpList_look _ rfl _ _ rfl mb _ _ _ rfl ((Ext.block (w := wa) (by repeat (with_reducible (first | assumption | exact Ext.refl _ | apply Ext.alloc | apply Ext.drew | apply Ext.drewN))) mlt).trans mh) _ rfl _ hlook ?_
        go_wp2
        refine hK _ _ (.inr (fun b _ hb => ub.block (by omega))) ?_
        clear hK K
        refine wpZ_stage (fuel := 0) [7] [8] (by kernel_rfl) (fun b _ hb => ub.block (by omega)) ?_
        try simp only [Act.put, List.setIfInBounds_toArray, List.set_cons_succ, List.set_cons_zero]
        simp only [List.filterMap_cons, List.filterMap_nil, List.getElem?_toArray, List.getElem?_cons_zero, List.getElem?_cons_succ]
        show wpQuiet _ _ _ _ [_] _
        repeat (go_big_quiet_step (fail))
        refine wpQuiet_nil ?_
        intro e he
        simp only [List.mem_cons, List.not_mem_nil, or_false] at he
        subst he
        (unfold wpComes; simp only [List.getElem?_toArray, List.getElem?_cons_succ, List.getElem?_cons_zero, Option.some.injEq]; refine ⟨_, rfl, fun K hK => ?_⟩)
        have k0 := bx.lt
        have k1 := bx.c0
        have k2 := bx.c1
        have k3 := bx.f0
        have k4 := bx.f1
        go_wp2
        refine hK _ _ (.inl (by trivial)) ?_
        clear hK K
        refine wpZ_end (by kernel_rfl) ?_
        go_wp2_with fail
        go_meet
        exact ⟨rfl, wa.heap.size, rfl, by omega, (by have X := ub; exact (by repeat (first | with_reducible assumption | with_reducible exact Ext.refl _ | with_reducible apply Ext.alloc | with_reducible apply Ext.drew | with_reducible apply Ext.drewN | (with_reducible refine Ext.setCell ?_ (by simp; omega) _) | (with_reducible refine Ext.setCell ?_ (by simp) _)))), by first | exact TBox.made _ _ _ _ | exact bx.set2 _ _⟩
    · (unfold wpComes; simp only [List.getElem?_toArray, List.getElem?_cons_succ, List.getElem?_cons_zero, Option.some.injEq]; refine ⟨_, rfl, fun K hK => ?_⟩)
      go_wp2
      have ub : Ext W0 (W0.drew.alloc (.cells #[.int .i64 0, .slice none 0 0] 169)) := (by repeat (with_reducible (first | assumption | exact Ext.refl _ | apply Ext.alloc | apply Ext.drew | apply Ext.drewN)))
      have bx : FBox (W0.drew.alloc (.cells #[.int .i64 0, .slice none 0 0] 169)) W0.heap.size (.int .i64 0) (.slice none 0 0) := FBox.made W0.drew (.int .i64 0) (.slice none 0 0) 169
      refine hK _ _ (.inr (fun b _ hb => ub.block (by omega))) ?_
      clear hK K
      refine wpZ_stage (fuel := 3) [] [0] (by kernel_rfl) (fun b _ hb => ub.block (by omega)) ?_
      refine wpQuiet_nil ?_
      intro e he
      simp only [List.mem_cons, List.not_mem_nil, or_false] at he
      subst he
      (unfold wpComes; simp only [List.getElem?_toArray, List.getElem?_cons_succ, List.getElem?_cons_zero, Option.some.injEq]; refine ⟨_, rfl, fun K hK => ?_⟩)
      go_wp2_with fail
      refine (pointwise_any _).mono ?_
      rintro e wa ⟨mb, rfl, mlo, mlt, mh, xa⟩
      have ua := ub.trans xa
      have by2 := bx.ext xa
      go_wp2_with fail
      refine hK _ _ (.inr (fun b _ hb => ua.block (by omega))) ?_
      clear hK K
      refine wpZ_stage (fuel := 2) [] [2] (by kernel_rfl) (fun b _ hb => ua.block (by omega)) ?_
      refine wpQuiet_nil ?_
      intro e he
      simp only [List.mem_cons, List.not_mem_nil, or_false] at he
      subst he
      (unfold wpComes; simp only [List.getElem?_toArray, List.getElem?_cons_succ, List.getElem?_cons_zero, Option.some.injEq]; refine ⟨_, rfl, fun K hK => ?_⟩)
      refine wpList_look _ rfl _ _ rfl mb _ _ _ rfl mh _ rfl _ hlook ?_
      go_wp2
      refine hK _ _ (.inr (fun b _ hb => ua.block (by omega))) ?_
      clear hK K
      refine wpZ_stage (fuel := 0) [7] [8] (by kernel_rfl) (fun b _ hb => ua.block (by omega)) ?_
      try simp only [Act.put, List.setIfInBounds_toArray, List.set_cons_succ, List.set_cons_zero]
      simp only [List.filterMap_cons, List.filterMap_nil, List.getElem?_toArray, List.getElem?_cons_zero, List.getElem?_cons_succ]
      show wpQuiet _ _ _ _ [_] _
      repeat (go_big_quiet_step (fail))
      refine wpQuiet_nil ?_
      intro e he
      simp only [List.mem_cons, List.not_mem_nil, or_false] at he
      subst he
      (unfold wpComes; simp only [List.getElem?_toArray, List.getElem?_cons_succ, List.getElem?_cons_zero, Option.some.injEq]; refine ⟨_, rfl, fun K hK => ?_⟩)
      have k0 := by2.lt
      have k1 := by2.c0
      have k2 := by2.c1
      have k3 := by2.f0
      have k4 := by2.f1
      go_wp2
      refine hK _ _ (.inl (by trivial)) ?_
      clear hK K
      refine wpZ_end (by kernel_rfl) ?_
      go_wp2_with fail
      go_meet
      exact ⟨rfl, W0.heap.size, rfl, by omega, (by have X := ua; exact (by repeat (first | with_reducible assumption | with_reducible exact Ext.refl _ | with_reducible apply Ext.alloc | with_reducible apply Ext.drew | with_reducible apply Ext.drewN | (with_reducible refine Ext.setCell ?_ (by simp; omega) _) | (with_reducible refine Ext.setCell ?_ (by simp) _)))), by first | exact TBox.made _ _ _ _ | exact by2.set2 _ _⟩
  case rest =>
    obtain ⟨rfl, A, rfl, hA, xc, tb⟩ := hcut
    have X := hq0.trans xc
    have e0 := (xc.cells.1 _ _ hlt).trans hc0
    have hcs : w.heap.size < wc.heap.size := by have := xc.size; omega
    have hmi : (List.range m).length = m := by simp
    clear hc0 hc3 hc4 hq0 xc hlook
    go_wp2_with (at_make; refine wpList_make_row _ rfl _ _ 29 rfl 3 j0 (.int .i64 0) Tryz.underlying29 hj0 hz0 hz1 rfl .i64 .i64 m rfl rfl (by rw [hz2]; omega) (by omega) ?_)
    have hrow := hid (RowI.zero (f := fun k => satI (fv (colOf S k))) (show RowI _ _ _ m (fun _ => 0) from World.rowIs_made wc (.int .i64 0) m 3))
    have X1 := hid (X.alloc (.cells (madeCells #[.int .i64 0] m) 3))
    have tb1 := hid (tb.ext ((Ext.refl wc).alloc (.cells (madeCells #[.int .i64 0] m) 3)))
    have hB2 : w.heap.size ≤ wc.heap.size := by omega
    have hB3 : A ≠ wc.heap.size := by have := tb.lt; omega
    generalize hB : wc.heap.size = B at hrow hB2 hB3
    clear hj0 hz0 hz1 hz2 X tb e0
    go_wp2
    go_loopw [45] (fun i wr => ∃ k : Nat, k ≤ m ∧ i = .int .i64 k ∧ Ext w wr ∧ RowI wr B 3 m (fillI (fun k => satI (fv (colOf S k))) k) ∧ TBox wr A (.int .i64 t.log) (.slice ta t.px.length tc)) (fun i _ => m - (intOf i).toNat)
    case atStart => exact ⟨0, by omega, rfl, X1.out, hrow.out, tb1.out⟩
    case round =>
      clear hrow X1 tb1
      obtain ⟨k, hk, rfl, hx, hrow, tb⟩ := hrel
      by_cases hlt : k < m
      · have HX := hid hx
        have HR := hid hrow
        have HB := hid tb
        clear hx hrow tb
        rename World => W1
        go_wp2
        go_loopw [11, 51] (fun v i wq => ∃ j : Nat, j ≤ S.length ∧ i = .int .i64 j ∧ OwnInts W1.heap.size wq v ((colOf S k).take j) ∧ Ext W1 wq) (fun _ i _ => S.length - (intOf i).toNat)
        case atStart => exact ⟨0, by omega, rfl, OwnInts.lit0 W1, (by repeat (with_reducible (first | assumption | exact Ext.refl _ | apply Ext.alloc | apply Ext.drew | apply Ext.drewN)))⟩
        case round =>
          obtain ⟨j, hj, rfl, hown, hy⟩ := hrel
          obtain ⟨av, cv, rfl, hcv⟩ := hown.form
          have hlen : ((colOf S k).take j).length = j := by rw [List.length_take, colOf_len]; omega
          rw [hlen] at hown ⊢
          by_cases hlj : j < S.length
          · obtain ⟨b, off, u, rfl, hb1, hb2, c0, hu⟩ := HS.at hlj (HX.out.trans hy) hh
            obtain ⟨g1, g2⟩ := HG.out _ (List.getElem_mem hlj)
            obtain ⟨ua, uc, rfl, HU⟩ := hu.open
            have lu := HU.le
            have lc := HU.cap
            obtain ⟨b3, off3, rfl, hb3, hb4, c3⟩ := HU.at (k := k) (by omega)
            have hz4 := HX.out.size
            have hz5 := hy.size
            have hb5 : b3 < wr.heap.size := by omega
            have hgd := getD_at S[j] k (by omega)
            have hsn := colOf_take S k j hlj
            rw [hgd] at hsn
            have i9 := (g2 _ (List.getElem_mem (show k < S[j].length by omega))).i64
            obtain ⟨x, hxk⟩ : ∃ x, S[j][k]'(by omega) = x := ⟨_, rfl⟩
            rw [hxk] at c3 hsn i9
            rw [g1] at lu c0
            have HO := hid hown
            have HY := hid hy
            have HSN := hid hsn
            have HL := hid hlen
            have HI := hid i9
            clear hown hy hsn hlen hxk hgd hu HU i9 hz4 hz5 g1 g2
            go_wp2_with (at_builtin; refine wpList_append1 _ rfl _ _ rfl W1.heap.size _ _ rfl (HO.out.alloc _) x HI.out wr.heap.size rfl (by simp [go_sem]) (by rw [HL.out]; omega) (by have := HY.out.size; simp; omega) ?_; intro v' w7 hown hg)
            rw [HSN.out] at hown
            go_wp2
            go_roundw
            case rel => exact ⟨j + 1, by omega, by go_num, hown, Ext.grown (HY.out.alloc _) hg (fun g e => (HO.out.lt g e).1)⟩
            case measure => simp [intOf]; omega
          · obtain rfl : j = S.length := by omega
            rw [List.take_of_length_le (by rw [colOf_len]; omega)] at hown
            have tb := HB.out.ext hy
            have q0 := tb.lt
            have q1 := tb.c0
            have q2 := tb.c1
            have xq := HX.out.trans hy
            have hs9 := colOf_S9 HG.out hlt
            have HC := hid (HF.out _ _ _ _ _ _ _ wr (colOf_len S k) hs9 hown.ints (Nat.le_refl _) (HT.out.ext hh' xq) (by have := xq.size; omega))
            have HX2 := hid xq
            have HR2 := hid (HR.out.ext hy)
            have HTB := hid tb
            clear hown hy tb xq hs9
            go_wp2_with fail
            refine HC.out.mono ?_
            rintro e w7 ⟨rfl, x7⟩
            have R7 := HR2.out.ext x7
            have r0 := R7.cell hlt
            have r1 := R7.frozen k
            have r2 := R7.lt
            have HR7 := hid R7
            obtain ⟨y, hy⟩ : ∃ y, satI (fv (colOf S k)) = y := ⟨_, rfl⟩
            have HY2 := hid hy
            have HX7 := hid (HX2.out.trans x7)
            have HTB7 := hid (HTB.out.ext x7)
            clear R7 hy x7 q0 q1 q2
            go_wp2_with fail
            refine (iSaturate_val HY2.out _).mono ?_
            rintro e w8 ⟨rfl, rfl⟩
            go_wp2
            go_roundw
            case rel => exact ⟨k + 1, by omega, by go_num, HX7.out.setCell hB2 _, HR7.out.step rfl HY2.out.symm, HTB7.out.at (by simp) (Below.heap_setCell _ _ _ _ hB3)⟩
            case measure => simp [intOf]; omega
      · obtain rfl : k = m := by omega
        go_wp2
        go_ret
        exact ⟨_, rfl, hrow.full.ownInts hB2 (by unfold maxLen; omega) (fun i _ => (satI_S9 _).i64), hx⟩
end Go.Proofs.YtaegmenjgjdimaaGreat
end

section
/- This text proves the program's 'called': the rows of every function of the language. -/
namespace Go.Proofs.YtaegmenjgjdimaaGreat
open Go.RowKit

/-- the value of a function of the language other than a derivative -/
def fnV (t : Tex) (s : List UInt8) (x : List Int) : Int :=
  if s == [97, 98, 115] then absI (x.getD 0 0) else if s == [102, 108, 111, 111, 114] then floorI (x.getD 0 0) else if s == [109, 105, 110] then minI (x.getD 0 0) (x.getD 1 0) else if s == [109, 97, 120] then maxI (x.getD 0 0) (x.getD 1 0) else if s == [115, 116, 101, 112] then stepI (x.getD 0 0) (x.getD 1 0) else if s == [110, 111, 105, 115, 101] then hash257 [x.getD 0 0, x.getD 1 0] else if s == [99, 108, 97, 109, 112] then clampI (x.getD 0 0) (x.getD 1 0) (x.getD 2 0) else if s == [109, 105, 120] then blendI (x.getD 0 0) (x.getD 1 0) (x.getD 2 0) else if s == [116, 101, 120] then t.look (x.getD 0 0) (x.getD 1 0) else 0
/-- the row of a call -/
def callRow (n m : Nat) (t : Tex) (s : List UInt8) (S : List (List Int)) : List Int :=
  if s == [100, 117] then diffs (S.getD 0 []) n false else if s == [100, 118] then diffs (S.getD 0 []) n true else (List.range m).map fun k => satI (fnV t s (colOf S k))
theorem one_of {x : List Int} (h : x.length = 1) : ∃ a, x = [a] := by
  match x, h with
  | [a], _ => exact ⟨a, rfl⟩
theorem two_of {x : List Int} (h : x.length = 2) : ∃ a b, x = [a, b] := by
  match x, h with
  | [a, b], _ => exact ⟨a, b, rfl⟩
theorem three_of {x : List Int} (h : x.length = 3) : ∃ a b c, x = [a, b, c] := by
  match x, h with
  | [a, b, c], _ => exact ⟨a, b, c, rfl⟩
theorem enters {f : FuncId} {fn : Func} (hf : Tryz.prog.funcs[f]? = some fn) (hname : (fn.name == "runtime.NumGoroutine") = false) (hb : fn.body.isSome = true) (args : Array Value) (w : World) : (callFunc f args).run Tryz.prog w = .ok (.enter f args) w := by
  cases h : fn.body with
  | none => rw [h] at hb; cases hb
  | some c =>
    have h1 : fn.name ≠ "runtime.NumGoroutine" := by simpa using hname
    simp [callFunc, hf, h1, h]

theorem Fun_abs (t : Tex) (_ht : t.okB = true) : Fun 120 t 1 (fnV t [97, 98, 115]) := by
  intro lo hi lo' hi' u v x w hl hs hu hh hv hh'
  obtain ⟨a, rfl⟩ := one_of hl
  obtain ⟨cu, rfl, c1, c2⟩ := hv
  exact callee_abs lo hi u _ _ w hu hh (hs a (by simp)) rfl
theorem look_abs : Instr.findNow .string (.string ⟨#[97, 98, 115]⟩) fnEntries.toList 0 = some (some (0, .func (.func 120) #[] #[])) := by rfl
theorem Fun_floor (t : Tex) (_ht : t.okB = true) : Fun 121 t 1 (fnV t [102, 108, 111, 111, 114]) := by
  intro lo hi lo' hi' u v x w hl hs hu hh hv hh'
  obtain ⟨a, rfl⟩ := one_of hl
  obtain ⟨cu, rfl, c1, c2⟩ := hv
  exact callee_floor lo hi u _ _ w hu hh (hs a (by simp)) rfl
theorem look_floor : Instr.findNow .string (.string ⟨#[102, 108, 111, 111, 114]⟩) fnEntries.toList 0 = some (some (1, .func (.func 121) #[] #[])) := by rfl
theorem Fun_min (t : Tex) (_ht : t.okB = true) : Fun 122 t 2 (fnV t [109, 105, 110]) := by
  intro lo hi lo' hi' u v x w hl hs hu hh hv hh'
  obtain ⟨a, b, rfl⟩ := two_of hl
  obtain ⟨cu, rfl, c1, c2⟩ := hv
  exact callee_min lo hi u _ _ w hu hh  rfl
theorem look_min : Instr.findNow .string (.string ⟨#[109, 105, 110]⟩) fnEntries.toList 0 = some (some (2, .func (.func 122) #[] #[])) := by rfl
theorem Fun_max (t : Tex) (_ht : t.okB = true) : Fun 123 t 2 (fnV t [109, 97, 120]) := by
  intro lo hi lo' hi' u v x w hl hs hu hh hv hh'
  obtain ⟨a, b, rfl⟩ := two_of hl
  obtain ⟨cu, rfl, c1, c2⟩ := hv
  exact callee_max lo hi u _ _ w hu hh  rfl
theorem look_max : Instr.findNow .string (.string ⟨#[109, 97, 120]⟩) fnEntries.toList 0 = some (some (3, .func (.func 123) #[] #[])) := by rfl
theorem Fun_step (t : Tex) (_ht : t.okB = true) : Fun 124 t 2 (fnV t [115, 116, 101, 112]) := by
  intro lo hi lo' hi' u v x w hl hs hu hh hv hh'
  obtain ⟨a, b, rfl⟩ := two_of hl
  obtain ⟨cu, rfl, c1, c2⟩ := hv
  exact callee_step lo hi u _ _ w hu hh (hs a (by simp)) (hs b (by simp)) rfl
theorem look_step : Instr.findNow .string (.string ⟨#[115, 116, 101, 112]⟩) fnEntries.toList 0 = some (some (4, .func (.func 124) #[] #[])) := by rfl
theorem Fun_noise (t : Tex) (_ht : t.okB = true) : Fun 125 t 2 (fnV t [110, 111, 105, 115, 101]) := by
  intro lo hi lo' hi' u v x w hl hs hu hh hv hh'
  obtain ⟨a, b, rfl⟩ := two_of hl
  obtain ⟨cu, rfl, c1, c2⟩ := hv
  exact callee_noise lo hi u _ _ [a, b] w hu hh rfl
theorem look_noise : Instr.findNow .string (.string ⟨#[110, 111, 105, 115, 101]⟩) fnEntries.toList 0 = some (some (5, .func (.func 125) #[] #[])) := by rfl
theorem Fun_clamp (t : Tex) (_ht : t.okB = true) : Fun 126 t 3 (fnV t [99, 108, 97, 109, 112]) := by
  intro lo hi lo' hi' u v x w hl hs hu hh hv hh'
  obtain ⟨a, b, c, rfl⟩ := three_of hl
  obtain ⟨cu, rfl, c1, c2⟩ := hv
  exact callee_clamp lo hi u _ _ w hu hh  rfl
theorem look_clamp : Instr.findNow .string (.string ⟨#[99, 108, 97, 109, 112]⟩) fnEntries.toList 0 = some (some (6, .func (.func 126) #[] #[])) := by rfl
theorem Fun_mix (t : Tex) (_ht : t.okB = true) : Fun 127 t 3 (fnV t [109, 105, 120]) := by
  intro lo hi lo' hi' u v x w hl hs hu hh hv hh'
  obtain ⟨a, b, c, rfl⟩ := three_of hl
  obtain ⟨cu, rfl, c1, c2⟩ := hv
  exact callee_mix lo hi u _ _ w hu hh (hs a (by simp)) (hs b (by simp)) (hs c (by simp)) rfl
theorem look_mix : Instr.findNow .string (.string ⟨#[109, 105, 120]⟩) fnEntries.toList 0 = some (some (7, .func (.func 127) #[] #[])) := by rfl
theorem Fun_tex (t : Tex) (_ht : t.okB = true) : Fun 128 t 2 (fnV t [116, 101, 120]) := by
  intro lo hi lo' hi' u v x w hl hs hu hh hv hh'
  obtain ⟨a, b, rfl⟩ := two_of hl
  obtain ⟨cu, rfl, c1, c2⟩ := hv
  have hv : TexR lo' hi' w (.agg #[.int .i64 t.log, cu]) t := ⟨cu, rfl, c1, c2⟩
  exact callee_tex lo hi lo' hi' u _ t w hu hh hv hh' (Tex.okB_iff.1 _ht) rfl
theorem look_tex : Instr.findNow .string (.string ⟨#[116, 101, 120]⟩) fnEntries.toList 0 = some (some (8, .func (.func 128) #[] #[])) := by rfl

set_option maxHeartbeats 1600000 in
theorem iCalled_d (rows : Bool) (xs : List Int) (lo hi : Nat) (n m : Nat) (pu tu av : Value) (tm g3 : Int) (w : World) (s : ByteArray) (S : List (List Int)) (hs : s.toList = if rows then [100, 118] else [100, 117]) (hxs : S[0]? = some xs)
    (hS : SS lo hi w av S) (hh : hi ≤ w.heap.size) (hg : good m xs) (hm : n * n = m) (h1 : 1 ≤ n) (h8 : n ≤ 8) :
    Calls Tryz.prog 57 #[.string s, .agg #[.int .i64 n, pu, .int .i64 tm, .int .i64 g3, tu], av] w fun e w' => ∃ r, e = .returned r ∧ OwnInts w.heap.size w' r (diffs xs n rows) ∧ Ext w w' := by
  obtain ⟨a, cap, rfl, HS⟩ := hS.open
  have l1 := HS.le
  have l2 := HS.cap
  have hl0 := (List.getElem?_eq_some_iff.1 hxs).1
  have hx0 := (List.getElem?_eq_some_iff.1 hxs).2
  obtain ⟨b, off, u, rfl, hb1, hb2, c0, hu⟩ := HS.at hl0 (Ext.refl w) hh
  rw [hx0] at hu
  simp only [Nat.add_zero] at c0
  have hbn : b ≠ w.heap.size := by omega
  have HU := hid hu
  clear hu hxs hx0
  cases rows
  · have e := conc (l := [100, 117]) hs
    subst e
    clear hs
    go_enter Tryz.func57, Tryz.ntmps57
    go_wp2_with fail
    refine wp_region_stages [([0, 1, 2, 3, 4], 5), ([], 6)] 99 (w.heap.size + 1) (by kernel_rfl) (by kernel_rfl) ?_
    refine wpStages_cons ?_
    simp only [List.filterMap_cons, List.filterMap_nil, List.getElem?_toArray, List.getElem?_cons_zero, List.getElem?_cons_succ]
    show wpQuiet _ _ _ _ [_, _, _, _, _] _
    repeat (go_big_quiet_step (fail))
    refine wpQuiet_nil ⟨_, rfl, fun K hK => ?_⟩
    go_wp2_with fail
    refine (iDiffCols_any lo hi u xs n _ (HU.out.ext hh (by repeat (with_reducible (first | assumption | exact Ext.refl _ | apply Ext.alloc | apply Ext.drew | apply Ext.drewN)))) (by simp; omega) (hg.1.trans hm.symm) h1 h8 hg.2).mono ?_
    rintro e w1 ⟨r, rfl, hr, x1⟩
    obtain ⟨ra, rc, rfl, _⟩ := hr.form
    have X1 : Ext w w1 := Ext.trans (by repeat (with_reducible (first | assumption | exact Ext.refl _ | apply Ext.alloc | apply Ext.drew | apply Ext.drewN))) x1
    go_wp2_with fail
    refine hK _ _ (.inr (fun k _ hk => x1.block (by first | omega | (simp; omega)))) ?_
    clear hK K
    refine wpStages_cons ?_
    simp only [List.filterMap_nil]
    show wpQuiet _ _ _ _ [] _
    try simp only [Act.put, List.setIfInBounds_toArray, List.set_cons_succ, List.set_cons_zero]
    repeat (go_big_quiet_step (fail))
    refine wpQuiet_nil ⟨_, rfl, fun K hK => ?_⟩
    go_wp2_with fail
    go_wp2_with fail
    refine hK _ _ (.inr (fun k _ hk => x1.block (by first | omega | (simp; omega)))) ?_
    clear hK K
    refine wpStages_nil ?_
    go_wp2
    go_ret
    exact ⟨_, rfl, hr.low (by simp), X1⟩
  · have e := conc (l := [100, 118]) hs
    subst e
    clear hs
    go_enter Tryz.func57, Tryz.ntmps57
    go_wp2_with fail
    refine wp_region_stages [([0, 1, 2, 3, 4], 5), ([], 6)] 99 (w.heap.size + 1) (by kernel_rfl) (by kernel_rfl) ?_
    refine wpStages_cons ?_
    simp only [List.filterMap_cons, List.filterMap_nil, List.getElem?_toArray, List.getElem?_cons_zero, List.getElem?_cons_succ]
    show wpQuiet _ _ _ _ [_, _, _, _, _] _
    repeat (go_big_quiet_step (fail))
    refine wpQuiet_nil ⟨_, rfl, fun K hK => ?_⟩
    go_wp2_with fail
    refine (iDiffRows_any lo hi u xs n _ (HU.out.ext hh (by repeat (with_reducible (first | assumption | exact Ext.refl _ | apply Ext.alloc | apply Ext.drew | apply Ext.drewN)))) (by simp; omega) (hg.1.trans hm.symm) h1 h8 hg.2).mono ?_
    rintro e w1 ⟨r, rfl, hr, x1⟩
    obtain ⟨ra, rc, rfl, _⟩ := hr.form
    have X1 : Ext w w1 := Ext.trans (by repeat (with_reducible (first | assumption | exact Ext.refl _ | apply Ext.alloc | apply Ext.drew | apply Ext.drewN))) x1
    go_wp2_with fail
    refine hK _ _ (.inr (fun k _ hk => x1.block (by first | omega | (simp; omega)))) ?_
    clear hK K
    refine wpStages_cons ?_
    simp only [List.filterMap_nil]
    show wpQuiet _ _ _ _ [] _
    try simp only [Act.put, List.setIfInBounds_toArray, List.set_cons_succ, List.set_cons_zero]
    repeat (go_big_quiet_step (fail))
    refine wpQuiet_nil ⟨_, rfl, fun K hK => ?_⟩
    go_wp2_with fail
    go_wp2_with fail
    refine hK _ _ (.inr (fun k _ hk => x1.block (by first | omega | (simp; omega)))) ?_
    clear hK K
    refine wpStages_nil ?_
    go_wp2
    go_ret
    exact ⟨_, rfl, hr.low (by simp), X1⟩

theorem iCalled_any (s : ByteArray) (S : List (List Int)) (lo hi lo' hi' : Nat) (n m : Nat) (pu tu av : Value) (tm : Int) (t : Tex) (w : World) (hs : 0 ≤ arity s) (hl : (S.length : Int) = arity s) (ht : t.okB = true)
    (hS : SS lo hi w av S) (hh : hi ≤ w.heap.size) (hT : TexR lo' hi' w (.agg #[.int .i64 t.log, tu]) t) (hh' : hi' ≤ w.heap.size) (hg : ∀ r ∈ S, good m r) (hm : n * n = m) (h1 : 1 ≤ n) (h8 : n ≤ 8) :
    Calls Tryz.prog 57 #[.string s, .agg #[.int .i64 n, pu, .int .i64 tm, .int .i64 t.log, tu], av] w fun e w' => ∃ r, e = .returned r ∧ OwnInts w.heap.size w' r (callRow n m t s.toList S) ∧ Ext w w' := by
  have hmi : (n : Int) * n = m := by rw [← hm]; simp
  have hm2 : m ≤ 64 := by
    have : n * n ≤ 8 * 8 := Nat.mul_le_mul h8 h8
    omega
  have key : ∀ (l : List UInt8) (F i0 ar : Nat), s.toList = l → (l == [100, 117]) = false → (l == [100, 118]) = false → (arityL l = ar) → ar ≤ 3 → Instr.findNow .string (.string ⟨l.toArray⟩) fnEntries.toList 0 = some (some (i0, .func (.func F) #[] #[])) →
      (∀ xs w', (callFunc F xs).run Tryz.prog w' = .ok (.enter F xs) w') → Fun F t ar (fnV t l) → Calls Tryz.prog 57 #[.string s, .agg #[.int .i64 n, pu, .int .i64 tm, .int .i64 t.log, tu], av] w fun e w' => ∃ r, e = .returned r ∧ OwnInts w.heap.size w' r (callRow n m t s.toList S) ∧ Ext w w' := by
    intro l F i0 ar hsl h1' h2' har ha3 hlk hE hF
    have hlen : S.length = ar := by
      unfold arity at hl
      rw [hsl, har] at hl
      omega
    subst hlen
    rw [hsl]
    unfold callRow
    rw [h1', h2']
    have e := conc hsl
    subst e
    exact iCalled_gen F (fnV t l) i0 _ S lo hi lo' hi' n m pu tu av tm t w (by rw [hsl]; exact h1') (by rw [hsl]; exact h2') hlk hE hF hS hh hT hh' hg hmi hm2 ha3
  have hd : ∀ rows : Bool, s.toList = (if rows then [100, 118] else [100, 117]) → Calls Tryz.prog 57 #[.string s, .agg #[.int .i64 n, pu, .int .i64 tm, .int .i64 t.log, tu], av] w fun e w' => ∃ r, e = .returned r ∧ OwnInts w.heap.size w' r (callRow n m t s.toList S) ∧ Ext w w' := by
    intro rows hsl
    have hl1 : S.length = 1 := by
      unfold arity at hl
      rw [hsl] at hl
      cases rows <;> (have : (S.length : Int) = 1 := hl; omega)
    obtain ⟨xs, rfl⟩ : ∃ xs, S = [xs] := by
      match S, hl1 with
      | [a], _ => exact ⟨a, rfl⟩
    have := iCalled_d rows xs lo hi n m pu tu av tm t.log w s [xs] hsl rfl hS hh (hg xs (by simp)) hm h1 h8
    rw [hsl]
    cases rows <;> exact this
  unfold arity arityL at hs
  by_cases c_abs : (s.toList == [97, 98, 115]) = true
  · exact key [97, 98, 115] _ _ 1 (eq_of_beq c_abs) rfl rfl rfl (by decide) look_abs (enters Tryz.func120 (by kernel_rfl) (by kernel_rfl)) (Fun_abs t ht)
  by_cases c_floor : (s.toList == [102, 108, 111, 111, 114]) = true
  · exact key [102, 108, 111, 111, 114] _ _ 1 (eq_of_beq c_floor) rfl rfl rfl (by decide) look_floor (enters Tryz.func121 (by kernel_rfl) (by kernel_rfl)) (Fun_floor t ht)
  by_cases c_du : (s.toList == [100, 117]) = true
  · exact hd false (eq_of_beq c_du)
  by_cases c_dv : (s.toList == [100, 118]) = true
  · exact hd true (eq_of_beq c_dv)
  by_cases c_min : (s.toList == [109, 105, 110]) = true
  · exact key [109, 105, 110] _ _ 2 (eq_of_beq c_min) rfl rfl rfl (by decide) look_min (enters Tryz.func122 (by kernel_rfl) (by kernel_rfl)) (Fun_min t ht)
  by_cases c_max : (s.toList == [109, 97, 120]) = true
  · exact key [109, 97, 120] _ _ 2 (eq_of_beq c_max) rfl rfl rfl (by decide) look_max (enters Tryz.func123 (by kernel_rfl) (by kernel_rfl)) (Fun_max t ht)
  by_cases c_step : (s.toList == [115, 116, 101, 112]) = true
  · exact key [115, 116, 101, 112] _ _ 2 (eq_of_beq c_step) rfl rfl rfl (by decide) look_step (enters Tryz.func124 (by kernel_rfl) (by kernel_rfl)) (Fun_step t ht)
  by_cases c_noise : (s.toList == [110, 111, 105, 115, 101]) = true
  · exact key [110, 111, 105, 115, 101] _ _ 2 (eq_of_beq c_noise) rfl rfl rfl (by decide) look_noise (enters Tryz.func125 (by kernel_rfl) (by kernel_rfl)) (Fun_noise t ht)
  by_cases c_tex : (s.toList == [116, 101, 120]) = true
  · exact key [116, 101, 120] _ _ 2 (eq_of_beq c_tex) rfl rfl rfl (by decide) look_tex (enters Tryz.func128 (by kernel_rfl) (by kernel_rfl)) (Fun_tex t ht)
  by_cases c_clamp : (s.toList == [99, 108, 97, 109, 112]) = true
  · exact key [99, 108, 97, 109, 112] _ _ 3 (eq_of_beq c_clamp) rfl rfl rfl (by decide) look_clamp (enters Tryz.func126 (by kernel_rfl) (by kernel_rfl)) (Fun_clamp t ht)
  by_cases c_mix : (s.toList == [109, 105, 120]) = true
  · exact key [109, 105, 120] _ _ 3 (eq_of_beq c_mix) rfl rfl rfl (by decide) look_mix (enters Tryz.func127 (by kernel_rfl) (by kernel_rfl)) (Fun_mix t ht)
  simp only [Bool.not_eq_true] at c_abs c_floor c_du c_dv c_min c_max c_step c_noise c_tex c_clamp c_mix
  simp [c_abs, c_floor, c_du, c_dv, c_min, c_max, c_step, c_noise, c_tex, c_clamp, c_mix] at hs
end Go.Proofs.YtaegmenjgjdimaaGreat
end

section
/- This text proves the program's rows of a predefined variable. -/
namespace Go.Proofs.YtaegmenjgjdimaaGreat
open Go.RowKit

set_option maxRecDepth 10000 in
set_option maxHeartbeats 6400000 in
theorem iLoaded_any (s : ByteArray) (lo hi : Nat) (n m : Nat) (pu tu : Value) (f : Nat → Int) (tm g3 : Int) (w : World) (hp : Flats 5 lo hi w pu m f) (hh : hi ≤ w.heap.size) (hm : (n : Int) * n = m) (hm2 : m ≤ 64) (htm : I64 tm) :
    Calls Tryz.prog 56 #[.string s, .agg #[.int .i64 n, pu, .int .i64 tm, .int .i64 g3, tu]] w fun e w' => ∃ r, e = .returned r ∧ OwnInts w.heap.size w' r ((List.range m).map (varL s.toList f tm)) ∧ Ext w w' := by
  obtain ⟨a, cap, rfl, HP⟩ := hp.open
  have l1 := HP.le
  have l2 := HP.cap
  clear hp
  obtain ⟨j0, hj0, hz0, hz1, hz2⟩ := info_parts info_int
  go_enter Tryz.func56, Tryz.ntmps56
  go_wp2_with (at_make; refine wpList_make_row _ rfl _ _ 29 rfl 3 j0 (.int .i64 0) Tryz.underlying29 hj0 hz0 hz1 rfl .i64 .i64 m rfl rfl (by rw [hz2]; omega) (by omega) ?_)
  have hrow := hid (RowI.zero (f := varL s.toList f tm) (show RowI _ _ _ m (fun _ => 0) from World.rowIs_made (w.alloc (.cells #[.int .i64 n, .slice a m cap, .int .i64 tm, .int .i64 g3, tu] 33)) (.int .i64 0) m 3))
  have X0 := hid (show Ext w ((w.alloc (.cells #[.int .i64 n, .slice a m cap, .int .i64 tm, .int .i64 g3, tu] 33)).alloc (.cells (madeCells #[.int .i64 0] m) 3)) from (by repeat (with_reducible (first | assumption | exact Ext.refl _ | apply Ext.alloc | apply Ext.drew | apply Ext.drewN))))
  have c2 : ((w.alloc (.cells #[.int .i64 n, .slice a m cap, .int .i64 tm, .int .i64 g3, tu] 33)).alloc (.cells (madeCells #[.int .i64 0] m) 3)).cell? ⟨w.heap.size, 2, none⟩ = some (.int .i64 tm) := by simp [go_sem]
  have C2 := hid c2
  clear hj0 hz0 hz1 hz2 c2
  simp only [World.size_alloc] at hrow
  generalize hB : w.heap.size + 1 = B at hrow
  have hB2 : w.heap.size ≤ B := by omega
  have hB3 : w.heap.size ≠ B := by omega
  go_wp2
  go_loopw [17] (fun i wr => ∃ k : Nat, k ≤ m ∧ i = .int .i64 k ∧ Ext w wr ∧ RowI wr B 3 m (fillI (varL s.toList f tm) k) ∧ wr.cell? ⟨w.heap.size, 2, none⟩ = some (.int .i64 tm)) (fun i _ => m - (intOf i).toNat)
  case atStart => exact ⟨0, by omega, rfl, X0.out, hrow.out, C2.out⟩
  case round =>
    clear X0 hrow C2
    obtain ⟨k, hk, rfl, hx, hrow, q2⟩ := hrel
    have Q2 := hid q2
    by_cases hlt : k < m
    · obtain ⟨b, off, rfl, hb1, hb2, hc⟩ := HP.at hlt (by decide)
      have zs := hx.size
      have hlt2 := hrow.lt
      have c0 := (hx.cells.1 b _ (by omega)).trans (hc 0 (by decide))
      have c1 := (hx.cells.1 b _ (by omega)).trans (hc 1 (by decide))
      have c2 := (hx.cells.1 b _ (by omega)).trans (hc 2 (by decide))
      have c3 := (hx.cells.1 b _ (by omega)).trans (hc 3 (by decide))
      have c4 := (hx.cells.1 b _ (by omega)).trans (hc 4 (by decide))
      simp only [Nat.add_zero] at c0
      have hbw : b < wr.heap.size := by omega
      have hbB : w.heap.size < wr.heap.size := by omega
      have r0 := hrow.cell hlt
      have r1 := hrow.frozen k
      have HX := hid hx
      have HR := hid hrow
      clear hc hx hrow
      go_wp2
      all_goals
        go_roundw
        case rel =>
          refine ⟨k + 1, by omega, by go_num, (Ext.setCell HX.out hB2 _).alloc _, RowI.alloc (RowI.step HR.out rfl ?_) _, ?_⟩
          · simp only [varL]
            simp [*]
          · have := Q2.out
            simp [go_sem, hB3, hbB, this]
        case measure => simp [intOf]; omega
    · obtain rfl : k = m := by omega
      have h9 : ∀ i, i < k → I64 (varL s.toList f tm i) := fun i hi => by
        unfold varL
        split
        · exact HP.i64 (j := 0) hi (by decide)
        split
        · exact HP.i64 (j := 1) hi (by decide)
        split
        · exact HP.i64 (j := 2) hi (by decide)
        split
        · exact HP.i64 (j := 3) hi (by decide)
        split
        · exact HP.i64 (j := 4) hi (by decide)
        · exact htm
      go_wp2
      go_ret
      exact ⟨_, rfl, hrow.full.ownInts hB2 (by unfold maxLen; omega) h9, hx⟩
end Go.Proofs.YtaegmenjgjdimaaGreat
end

section
/- This text holds the memory of the grid's machine: rows of rows that the machine owns, apart from one another, and copies of rows. -/
namespace Go.Proofs.YtaegmenjgjdimaaGreat
open Go.RowKit

/-- every row of integers of w stands in w' as it stood -/
def KeepI (w w' : World) : Prop := ∀ (b : Nat) (cur : Array Value) (fr : Nat × Nat), w.heap[b]? = some (.cells cur 3 fr) → w'.heap[b]? = some (.cells cur 3 fr)
theorem KeepI.refl (w : World) : KeepI w w := fun _ _ _ h => h
theorem KeepI.trans {w w1 w2 : World} (h : KeepI w w1) (k : KeepI w1 w2) : KeepI w w2 := fun b c f e => k b c f (h b c f e)
theorem Ext.keepI {w w' : World} (h : Ext w w') : KeepI w w' := fun b c f e => (h.block (Array.getElem?_eq_some_iff.1 e).1).trans e
theorem KeepI.grown {w w' : World} {row : Option Nat} (h : w.grownBy w' row) (hr : ∀ (k : Nat) (cur : Array Value) (fr : Nat × Nat), row = some k → w.heap[k]? ≠ some (.cells cur 3 fr)) : KeepI w w' := fun b c f e =>
  (h.block b (Array.getElem?_eq_some_iff.1 e).1 (fun e' => hr b c f e'.symm e)).trans e
theorem KeepI.setCell {w : World} {p : Addr} (u : Value) (h : ∀ (cur : Array Value) (fr : Nat × Nat), w.heap[p.block]? ≠ some (.cells cur 3 fr)) : KeepI w (w.setCell p u) := fun b c f e => by
  have hne : b ≠ p.block := fun e' => h c f (e' ▸ e)
  rw [Below.heap_setCell w p u b hne]
  exact e
theorem OwnInts.keepI {lo : Nat} {w w' : World} {v : Value} {xs : List Int} (h : OwnInts lo w v xs) (k : KeepI w w') : OwnInts lo w' v xs := by
  obtain ⟨⟨h1, h2⟩, h3⟩ := h
  refine ⟨⟨h1, ?_⟩, h3⟩
  rcases h2 with hn | ⟨g, cap, cur, hv, hb, hg, r⟩
  · exact .inl hn
  · exact .inr ⟨g, cap, cur, hv, hb, k _ _ _ hg, r⟩

/-- the values vs are owned rows that hold S -/
structure Rws (lo : Nat) (w : World) (vs : List Value) (S : List (List Int)) : Prop where
  len : vs.length = S.length
  own : ∀ (i : Nat) (v : Value) (xs : List Int), vs[i]? = some v → S[i]? = some xs → OwnInts lo w v xs
theorem Rws.keepI {lo : Nat} {w w' : World} {vs : List Value} {S : List (List Int)} (h : Rws lo w vs S) (k : KeepI w w') : Rws lo w' vs S := ⟨h.len, fun i v xs h1 h2 => (h.own i v xs h1 h2).keepI k⟩
theorem Rws.nil (lo : Nat) (w : World) : Rws lo w [] [] := ⟨rfl, fun i v xs h => by simp at h⟩
theorem Rws.snoc {lo : Nat} {w : World} {vs : List Value} {S : List (List Int)} (h : Rws lo w vs S) {v : Value} {xs : List Int} (hv : OwnInts lo w v xs) : Rws lo w (vs ++ [v]) (S ++ [xs]) := by
  have hl := h.len
  refine ⟨by simp [hl], fun i u ys h1 h2 => ?_⟩
  by_cases hi : i < vs.length
  · rw [List.getElem?_append_left hi] at h1
    rw [List.getElem?_append_left (by omega)] at h2
    exact h.own i u ys h1 h2
  · rw [List.getElem?_append_right (by omega)] at h1
    rw [List.getElem?_append_right (by omega)] at h2
    have hi0 : i - vs.length = 0 := by
      have := (List.getElem?_eq_some_iff.1 h1).1
      simp at this
      omega
    rw [hi0] at h1
    rw [show i - S.length = 0 by omega] at h2
    simp at h1 h2
    subst h1 h2
    exact hv
theorem Rws.take {lo : Nat} {w : World} {vs : List Value} {S : List (List Int)} (h : Rws lo w vs S) (k : Nat) : Rws lo w (vs.take k) (S.take k) := by
  refine ⟨by simp [h.len], fun i u ys h1 h2 => ?_⟩
  rw [List.getElem?_take] at h1 h2
  split at h1
  · rename_i hk
    rw [if_pos hk] at h2
    exact h.own i u ys h1 h2
  · cases h1
theorem Rws.drop {lo : Nat} {w : World} {vs : List Value} {S : List (List Int)} (h : Rws lo w vs S) (k : Nat) : Rws lo w (vs.drop k) (S.drop k) := by
  refine ⟨by simp [h.len], fun i u ys h1 h2 => ?_⟩
  rw [List.getElem?_drop] at h1 h2
  exact h.own _ u ys h1 h2
theorem Rws.set {lo : Nat} {w : World} {vs : List Value} {S : List (List Int)} (h : Rws lo w vs S) (k : Nat) {v : Value} {xs : List Int} (hv : OwnInts lo w v xs) : Rws lo w (vs.set k v) (S.set k xs) := by
  refine ⟨by simp [h.len], fun i u ys h1 h2 => ?_⟩
  rw [List.getElem?_set] at h1 h2
  split at h1
  · rename_i hk
    rw [if_pos hk] at h2
    split at h1
    · split at h2
      · injection h1 with h1
        injection h2 with h2
        subst h1 h2
        exact hv
      · cases h2
    · cases h1
  · rename_i hk
    rw [if_neg hk] at h2
    exact h.own i u ys h1 h2
/-- no two of the values share a block -/
def Apt (vs : List Value) : Prop := vs.Pairwise fun u v => ∀ k, u.ownBlock = some k → v.ownBlock ≠ some k
/-- value r shares its block with none of vs -/
def Lone (r : Value) (vs : List Value) : Prop := ∀ u ∈ vs, ∀ k, u.ownBlock = some k → r.ownBlock ≠ some k
theorem Lone.of {lo M : Nat} {w : World} {vs : List Value} {S : List (List Int)} {r : Value} (h : Rws lo w vs S) (hM : w.heap.size ≤ M) (hr : ∀ k, r.ownBlock = some k → M ≤ k) : Lone r vs := by
  intro u hu k hk e
  obtain ⟨i, hi, rfl⟩ := List.getElem_of_mem hu
  have hl := h.len
  have := ((h.own i vs[i] (S[i]'(by omega)) (by simp [hi]) (by simp [show i < S.length by omega])).lt k hk).2
  have := hr k e
  omega
theorem Apt.insert {vs us : List Value} {r : Value} (h : Apt (vs ++ us)) (hr : Lone r (vs ++ us)) : Apt ((vs ++ [r]) ++ us) := by
  unfold Apt at *
  simp only [List.pairwise_append, List.mem_append, List.mem_singleton, List.pairwise_singleton, true_and] at h ⊢
  obtain ⟨h1, h2, h3⟩ := h
  refine ⟨⟨h1, ?_⟩, h2, ?_⟩
  · rintro a ha b rfl k hk
    exact hr a (List.mem_append_left _ ha) k hk
  · rintro a (ha | rfl) b hb k hk
    · exact h3 a ha b hb k hk
    · intro e
      exact hr b (List.mem_append_right _ hb) k e hk
theorem Apt.sub {vs us vs' us' : List Value} (h : Apt (vs ++ us)) (h1 : List.Sublist vs' vs) (h2 : List.Sublist us' us) : Apt (vs' ++ us') := List.Pairwise.sublist (h1.append h2) h
theorem Apt.store {vs us : List Value} {r : Value} (h : Apt ((vs ++ [r]) ++ us)) (k : Nat) : Apt (vs ++ us.set k r) := by
  unfold Apt at *
  simp only [List.pairwise_append, List.mem_append, List.mem_singleton, List.pairwise_singleton, true_and] at h ⊢
  obtain ⟨⟨h1, h4⟩, h2, h3⟩ := h
  have key : ∀ (us : List Value) (k : Nat), us.Pairwise (fun u v => ∀ k, u.ownBlock = some k → v.ownBlock ≠ some k) → (∀ b ∈ us, ∀ k, r.ownBlock = some k → b.ownBlock ≠ some k) → (us.set k r).Pairwise (fun u v => ∀ k, u.ownBlock = some k → v.ownBlock ≠ some k) := by
    intro us
    induction us with
    | nil => intro k _ _; simp
    | cons x xs ih =>
      intro k hp hr
      rw [List.pairwise_cons] at hp
      cases k with
      | zero =>
        rw [List.set_cons_zero, List.pairwise_cons]
        exact ⟨fun b hb => hr b (List.mem_cons_of_mem _ hb), hp.2⟩
      | succ k =>
        rw [List.set_cons_succ, List.pairwise_cons]
        refine ⟨fun b hb j hj e => ?_, ih k hp.2 fun b hb => hr b (List.mem_cons_of_mem _ hb)⟩
        rcases List.mem_or_eq_of_mem_set hb with hb | rfl
        · exact hp.1 b hb j hj e
        · exact hr x List.mem_cons_self j e hj
  refine ⟨h1, key us k h2 fun b hb j hj => h3 r (.inr rfl) b hb j hj, ?_⟩
  intro a ha b hb j hj e
  rcases List.mem_or_eq_of_mem_set hb with hb | rfl
  · exact h3 a (.inl ha) b hb j hj e
  · exact h4 a ha b rfl j hj e
theorem info_ints : (Tryz.prog.info? 29).map (fun i => (i.zero, i.size, i.bytes)) = some (some (.slice none 0 0), 1, 24) := by kernel_rfl
theorem ownsRow.form {w : World} {lo : Nat} {e : TypeId} {size n : Nat} {v : Value} {xs : List Value} (h : w.ownsRow lo e size v n xs) : ∃ a cap, v = .slice a n cap := by
  rcases h.2 with ⟨rfl, h4⟩ | ⟨g, cap, cur, rfl, hb, hg, hc, hm, hs, ht⟩
  · exact ⟨none, 0, by rw [h4]⟩
  · exact ⟨some ⟨g, 0, none⟩, cap, rfl⟩
/-- append of one row's header to an owned row of headers -/
theorem wpList_append_row (w : World) {ops : Array Oper} {rest : List Oper} {o : Oper} {a : Act} {Q : Exit → Act → World → Prop} (hg : o.guard = none) (s x : Operand)
    (hop : o.op = Op.call { callee := Callee.builtin Builtin.append, args := #[s, x], argTypes := #[70, 70] }) (lo : Nat) (v : Value) (n : Nat) (vs : List Value) (hs : a.eval s = v) (hown : w.ownsRow lo 29 1 v n vs)
    (y : Value) (hy : y.oneCell' = true) (b : Nat) (hx : a.eval x = .slice (some ⟨b, 0, none⟩) 1 1) (hcell : w.cell? ⟨b, 0, none⟩ = some y) (hlen : n < 1000000) (hlo : lo ≤ w.heap.size)
    (hK : ∀ v' w', w'.ownsRow lo 29 1 v' (n + 1) (vs ++ [y]) → w.grownBy w' v.ownBlock → wpList Tryz.prog ops Q rest (a.put o.dst v') w') : wpList Tryz.prog ops Q (o :: rest) a w := by
  obtain ⟨i0, hi0, hz0, hz1, hz2⟩ := info_parts info_ints
  refine wpList_append_own w hg s x 70 hop lo 29 i0 (.slice none 0 0) 1 24 Tryz.underlying70 hi0 hz0 hz1 hz2 rfl (by decide) v n _ hs hown ⟨b, 0, none⟩ 1 1 [y] hx rfl ?_ ?_ ?_ ?_ hlo ?_
  · intro j u hj
    match j, hj with
    | 0, hj => simp at hj; subst hj; exact hcell
  · intro u hu; simp at hu; subst hu; exact hy
  · unfold maxLen; omega
  · omega
  · intro v' w1 hown' hgrow _
    exact hK v' w1 hown' hgrow
/-- append of several headers -/
theorem wpList_append_rows (w : World) {ops : Array Oper} {rest : List Oper} {o : Oper} {a : Act} {Q : Exit → Act → World → Prop} (hg : o.guard = none) (s x : Operand)
    (hop : o.op = Op.call { callee := Callee.builtin Builtin.append, args := #[s, x], argTypes := #[70, 70] }) (lo : Nat) (v : Value) (n : Nat) (vs : List Value) (hs : a.eval s = v) (hown : w.ownsRow lo 29 1 v n vs)
    (ys : List Value) (hy : ∀ y ∈ ys, y.oneCell' = true) (b off cap : Nat) (hx : a.eval x = .slice (some ⟨b, off, none⟩) ys.length cap) (hcell : ∀ i y, ys[i]? = some y → w.cell? ⟨b, off + i, none⟩ = some y) (hlen : n + ys.length < 1000000) (hlo : lo ≤ w.heap.size)
    (hK : ∀ v' w', w'.ownsRow lo 29 1 v' (n + ys.length) (vs ++ ys) → w.grownBy w' v.ownBlock → wpList Tryz.prog ops Q rest (a.put o.dst v') w') : wpList Tryz.prog ops Q (o :: rest) a w := by
  obtain ⟨i0, hi0, hz0, hz1, hz2⟩ := info_parts info_ints
  refine wpList_append_own w hg s x 70 hop lo 29 i0 (.slice none 0 0) 1 24 Tryz.underlying70 hi0 hz0 hz1 hz2 rfl (by decide) v n _ hs hown ⟨b, off, none⟩ ys.length cap ys hx (by simp) ?_ hy ?_ ?_ hlo ?_
  · intro j u hj
    have := hcell j u hj
    rwa [Addr.add_lit]
  · unfold maxLen; omega
  · omega
  · intro v' w1 hown' hgrow _
    exact hK v' w1 hown' hgrow
theorem sliceNil1 (b off n cap : Nat) (w : World) : (binOp .eql 29 (.slice (some ⟨b, off, none⟩) n cap) (.slice none 0 0)).run Tryz.prog w = .ok (.bool false) w := by
  simp only [binOp]
  simp [Op.equal, Op.maxDepth, Lib.run_equalIn_slice_nil w 9999 29 3 (some ⟨b, off, none⟩) n cap 0 0 Tryz.underlying29]
theorem sliceNil2 (b off n cap : Nat) (w : World) : (binOp .eql 70 (.slice (some ⟨b, off, none⟩) n cap) (.slice none 0 0)).run Tryz.prog w = .ok (.bool false) w := by
  simp only [binOp]
  simp [Op.equal, Op.maxDepth, Lib.run_equalIn_slice_nil w 9999 70 29 (some ⟨b, off, none⟩) n cap 0 0 Tryz.underlying70]
set_option maxRecDepth 100000 in
set_option maxHeartbeats 800000 in
theorem cloneInts2_any (lo hi : Nat) (u : Value) (xs : List Int) (w : World) (hu : Ints lo hi w u xs) (hh : hi ≤ w.heap.size) (h1 : 1 ≤ xs.length) (h2 : xs.length ≤ 144) :
    Calls Tryz.prog 99 #[u] w fun e w' => ∃ v', e = .returned v' ∧ OwnInts w.heap.size w' v' xs ∧ Ext w w' := by
  obtain ⟨a, cap, rfl, HU⟩ := hu.open
  obtain ⟨b, off, rfl, hb1, hb2, _⟩ := HU.at (k := 0) (by omega)
  have l1 := HU.le
  have l2 := HU.cap
  clear hu
  go_enter Tryz.func99, Tryz.ntmps99
  have HC : ∀ i y, xs[i]? = some y → I64 y ∧ (w.alloc (.cells #[] 3)).cell? ⟨b, off + i, none⟩ = some (.int .i64 y) := by
    intro i y hy
    obtain ⟨h3, b', off', e, h4, h5, h6⟩ := HU.cell i y hy
    simp only [Option.some.injEq, Addr.mk.injEq, and_true] at e
    obtain ⟨rfl, rfl⟩ := e
    exact ⟨h3, (((Ext.refl w).alloc _).cells.1 b _ (by omega)).trans h6⟩
  have HC := hid HC
  have hnil := fun w => sliceNil1 b off xs.length cap w
  go_wp2_with (at_builtin; refine wpList_append_ints _ rfl _ _ rfl w.heap.size (.slice (some ⟨w.heap.size, 0, none⟩) 0 0) [] xs rfl (OwnInts.empty (Nat.le_refl _) (heap_alloc_new w _)) b off cap rfl HC.out (by simp; omega) (by simp) ?_; intro v' w1 hown hg; obtain ⟨a', c', rfl, _⟩ := hown.form)
  go_ret
  exact ⟨_, rfl, by simpa using hown, ((Ext.refl w).alloc _).grown hg (fun k e => by simp [Value.ownBlock] at e; omega)⟩
theorem ownsRow.empty {lo : Nat} {w : World} {e : TypeId} {g : Nat} (hl : lo ≤ g) (hg : w.heap[g]? = some (.cells #[] e)) : w.ownsRow lo e 1 (.slice (some ⟨g, 0, none⟩) 0 0) 0 [] :=
  ⟨rfl, .inr ⟨g, 0, #[], rfl, hl, hg, Nat.le_refl _, Nat.zero_le _, rfl, rfl⟩⟩
set_option maxRecDepth 100000 in
set_option maxHeartbeats 800000 in
theorem cloneRows_any (b off cap : Nat) (ys : List Value) (w : World) (hb : b < w.heap.size) (hc : ys.length ≤ cap) (hc2 : cap ≤ 9223372036854775807) (hcell : ∀ i y, ys[i]? = some y → w.cell? ⟨b, off + i, none⟩ = some y) (hy : ∀ y ∈ ys, y.oneCell' = true) (h2 : ys.length ≤ 1000) :
    Calls Tryz.prog 129 #[.slice (some ⟨b, off, none⟩) ys.length cap] w fun e w' => ∃ v', e = .returned v' ∧ w'.ownsRow w.heap.size 29 1 v' ys.length ys ∧ Ext w w' := by
  go_enter Tryz.func129, Tryz.ntmps129
  have HC : ∀ i y, ys[i]? = some y → (w.alloc (.cells #[] 29)).cell? ⟨b, off + i, none⟩ = some y := fun i y h => (((Ext.refl w).alloc _).cells.1 b _ hb).trans (hcell i y h)
  have HC := hid HC
  have HY := hid hy
  have hnil := fun w => sliceNil2 b off ys.length cap w
  clear hcell hy
  go_wp2_with (at_builtin; refine wpList_append_rows _ rfl _ _ rfl w.heap.size (.slice (some ⟨w.heap.size, 0, none⟩) 0 0) 0 [] rfl (ownsRow.empty (Nat.le_refl _) (heap_alloc_new w _)) ys HY.out b off cap rfl HC.out (by omega) (by simp) ?_; intro v' w1 hown hg; obtain ⟨a', c', rfl⟩ := ownsRow.form hown)
  go_ret
  exact ⟨_, rfl, by simpa using hown, ((Ext.refl w).alloc _).grown hg (fun k e => by simp [Value.ownBlock] at e; omega)⟩
end Go.Proofs.YtaegmenjgjdimaaGreat
end

section
/- This text proves what the grid's machine does when a row is pushed and when rows are popped. -/
namespace Go.Proofs.YtaegmenjgjdimaaGreat
open Go.RowKit

/-- an empty row's header is nil -/
def Nls (us : List Value) (L : List (List Int)) : Prop := ∀ (j : Nat) (u : Value), us[j]? = some u → L[j]? = some [] → u = .slice none 0 0
theorem Nls.set {us : List Value} {L : List (List Int)} (h : Nls us L) (j : Nat) {v : Value} {xs : List Int} (hx : xs ≠ []) : Nls (us.set j v) (L.set j xs) := by
  intro i u h1 h2
  rw [List.getElem?_set] at h1 h2
  by_cases e : j = i
  · rw [if_pos e] at h2
    split at h2
    · injection h2 with h2; exact absurd h2 hx
    · cases h2
  · rw [if_neg e] at h1 h2
    exact h i u h1 h2
theorem Nls.nils (k : Nat) : Nls (List.replicate k (.slice none 0 0)) (List.replicate k []) := by
  intro j u h1 _
  rw [List.getElem?_replicate] at h1
  split at h1
  · injection h1 with h1; exact h1.symm
  · cases h1
/-- the machine in block mb: its grid, its stack S (the headers vs, in the slice sv), its locals L (the headers us, in the slice lv) -/
structure Mach (lo lo2 : Nat) (w : World) (mb n : Nat) (pu tu : Value) (tm lg : Int) (sv lv : Value) (vs us : List Value) (S L : List (List Int)) : Prop where
  box : w.heap[mb]? = some (.cells #[.int .i64 n, pu, .int .i64 tm, .int .i64 lg, tu, sv, lv] 130)
  low : lo ≤ mb
  so : w.ownsRow lo2 29 1 sv vs.length vs
  lo' : w.ownsRow lo 29 1 lv us.length us
  sep : ∀ k, lv.ownBlock = some k → k < lo2
  hl : lo ≤ lo2
  hl2 : lo2 ≤ w.heap.size
  sl : vs.length = S.length
  rows : Rws lo w (vs ++ us) (S ++ L)
  apt : Apt (vs ++ us)
  nls : Nls us L
theorem cell_of_cells {w : World} {b : Nat} {cs : Array Value} {t : TypeId} (h : w.heap[b]? = some (.cells cs t)) (i : Nat) : w.cell? ⟨b, i, none⟩ = cs[i]? := by simp [World.cell?, h]
theorem frozen_of_cells {w : World} {b : Nat} {cs : Array Value} {t : TypeId} (h : w.heap[b]? = some (.cells cs t)) (i : Nat) : w.frozen? ⟨b, i, none⟩ = false := by simp [World.frozen?, h]
theorem Mach.lt {lo lo2 : Nat} {w : World} {mb n : Nat} {pu tu : Value} {tm lg : Int} {sv lv : Value} {vs us : List Value} {S L : List (List Int)} (M : Mach lo lo2 w mb n pu tu tm lg sv lv vs us S L) : mb < w.heap.size := (Array.getElem?_eq_some_iff.1 M.box).1
/-- a block of rows is not the machine's block -/
theorem ownsRow.not {w : World} {lo : Nat} {e : TypeId} {size n : Nat} {v : Value} {xs : List Value} (h : w.ownsRow lo e size v n xs) {A : Nat} {cs : Array Value} {T : TypeId} (hA : w.heap[A]? = some (.cells cs T)) (hT : T ≠ e) : v.ownBlock ≠ some A := by
  intro k
  rcases h.2 with ⟨rfl, _⟩ | ⟨g, cap, cur, rfl, _, hg, _⟩
  · cases k
  · simp only [Value.ownBlock, Option.some.injEq] at k
    subst k
    rw [hg] at hA
    simp only [Option.some.injEq, Obj.cells.injEq] at hA
    exact hT hA.2.1.symm
theorem ownsRow.int {w : World} {lo : Nat} {e : TypeId} {size n : Nat} {v : Value} {xs : List Value} (h : w.ownsRow lo e size v n xs) (hT : e ≠ 3) : ∀ (k : Nat) (cur : Array Value) (fr : Nat × Nat), v.ownBlock = some k → w.heap[k]? ≠ some (.cells cur 3 fr) := by
  intro k cur fr hk e'
  rcases h.2 with ⟨rfl, _⟩ | ⟨g, cap, cur', rfl, _, hg, _⟩
  · cases hk
  · simp only [Value.ownBlock, Option.some.injEq] at hk
    subst hk
    rw [hg] at e'
    simp only [Option.some.injEq, Obj.cells.injEq] at e'
    exact hT e'.2.1
/-- the world behind a step of the machine: what lies below lo stands, the rows of integers stand -/
structure Step (lo : Nat) (w w' : World) : Prop where
  below : Below lo w w'
  keep : KeepI w w'
theorem Step.refl (lo : Nat) (w : World) : Step lo w w := ⟨Below.refl _ _, KeepI.refl _⟩
theorem Step.trans {lo : Nat} {w w1 w2 : World} (h : Step lo w w1) (k : Step lo w1 w2) : Step lo w w2 := ⟨h.below.trans k.below, h.keep.trans k.keep⟩
theorem Ext.step {lo : Nat} {w w' : World} (h : Ext w w') (hl : lo ≤ w.heap.size) : Step lo w w' := ⟨Below.mono h hl, h.keepI⟩
theorem Step.size {lo : Nat} {w w' : World} (h : Step lo w w') : w.heap.size ≤ w'.heap.size := Below.size h.below
/-- the machine stands when the world only grows -/
theorem Mach.ext {lo lo2 : Nat} {w w' : World} {mb n : Nat} {pu tu : Value} {tm lg : Int} {sv lv : Value} {vs us : List Value} {S L : List (List Int)} (M : Mach lo lo2 w mb n pu tu tm lg sv lv vs us S L) (e : Ext w w') : Mach lo lo2 w' mb n pu tu tm lg sv lv vs us S L := by
  have hg : w.grownBy w' none := ⟨Below.os e, Below.tape e, Below.output e, e.size, fun k hk _ => e.block hk⟩
  exact ⟨(e.block M.lt).trans M.box, M.low, M.so.kept hg (by cases sv.ownBlock <;> simp), M.lo'.kept hg (by cases lv.ownBlock <;> simp), M.sep, M.hl, Nat.le_trans M.hl2 e.size, M.sl, M.rows.keepI e.keepI, M.apt, M.nls⟩
theorem heap_set5 {w : World} {b : Nat} {x0 x1 x2 x3 x4 x5 x6 : Value} {t : TypeId} (h : w.heap[b]? = some (.cells #[x0, x1, x2, x3, x4, x5, x6] t)) (v : Value) : (w.setCell ⟨b, 5, none⟩ v).heap[b]? = some (.cells #[x0, x1, x2, x3, x4, v, x6] t) := by
  simp [World.setCell, Array.getElem?_modify, h]
theorem Rws.insert {lo : Nat} {w : World} {vs us : List Value} {S L : List (List Int)} (hl : vs.length = S.length) (h : Rws lo w (vs ++ us) (S ++ L)) {v : Value} {xs : List Int} (hv : OwnInts lo w v xs) : Rws lo w ((vs ++ [v]) ++ us) ((S ++ [xs]) ++ L) := by
  have hl2 := h.len
  simp only [List.length_append] at hl2
  refine ⟨by simp; omega, fun i u ys h1 h2 => ?_⟩
  by_cases h3 : i < vs.length
  · rw [List.append_assoc, List.getElem?_append_left h3] at h1
    rw [List.append_assoc, List.getElem?_append_left (by omega)] at h2
    exact h.own i u ys (by rw [List.getElem?_append_left h3]; exact h1) (by rw [List.getElem?_append_left (by omega)]; exact h2)
  · by_cases h4 : i = vs.length
    · subst h4
      rw [List.append_assoc, List.getElem?_append_right (Nat.le_refl _)] at h1
      rw [List.append_assoc, hl, List.getElem?_append_right (Nat.le_refl _)] at h2
      simp at h1 h2
      subst h1 h2
      exact hv
    · rw [List.getElem?_append_right (by simp; omega)] at h1
      rw [List.getElem?_append_right (by simp; omega)] at h2
      refine h.own (i - 1) u ys ?_ ?_
      · rw [List.getElem?_append_right (by omega), show i - 1 - vs.length = i - (vs ++ [v]).length by simp; omega]
        exact h1
      · rw [List.getElem?_append_right (by omega), show i - 1 - S.length = i - (S ++ [xs]).length by simp; omega]
        exact h2
set_option maxRecDepth 100000 in
set_option maxHeartbeats 1600000 in
theorem push_any {lo lo2 : Nat} {w : World} {mb n : Nat} {pu tu : Value} {tm lg : Int} {sv lv : Value} {vs us : List Value} {S L : List (List Int)} (M : Mach lo lo2 w mb n pu tu tm lg sv lv vs us S L) {r : Value} {xs : List Int} (hr : OwnInts lo w r xs) (hlone : Lone r (vs ++ us)) (hS : vs.length ≤ 1000) :
    Calls Tryz.prog 98 #[.pointer (some ⟨mb, 0, none⟩), r] w fun e w' => e = .returned (.tuple #[]) ∧ (∃ sv', Mach lo lo2 w' mb n pu tu tm lg sv' lv (vs ++ [r]) us (S ++ [xs]) L) ∧ Step lo w w' ∧ ∀ b, b < w.heap.size → b ≠ mb → sv.ownBlock ≠ some b → w'.heap[b]? = w.heap[b]? := by
  obtain ⟨sa, sc, rfl⟩ := ownsRow.form M.so
  obtain ⟨ra, rc, rfl, _⟩ := hr.form
  have hb := M.lt
  have hlo := M.low
  have c5 := cell_of_cells M.box 5
  have f5 := frozen_of_cells M.box 5
  simp at c5
  have hn1 := ownsRow.not M.so M.box (by decide)
  have HM := hid M
  have HR := hid hr
  have HL := hid hlone
  clear M hr hlone
  go_enter Tryz.func98, Tryz.ntmps98
  go_wp2_with (at_builtin; refine wpList_append_row _ rfl _ _ rfl lo2 _ _ _ rfl (World.ownsRow.alloc HM.out.so _) (.slice ra xs.length rc) rfl w.heap.size rfl (by simp [go_sem]) (by omega) (by have := HM.out.hl2; simp; omega) ?_; intro v' w1 hown hg; obtain ⟨va, vc, rfl⟩ := ownsRow.form hown; obtain ⟨hq0, hq1⟩ : mb < w1.heap.size ∧ w1.heap[mb]? = w.heap[mb]? := ⟨by have := hg.size; simp at this; omega, (hg.block mb (by simp; omega) (fun e => hn1 e.symm)).trans ((Ext.refl w).alloc _ |>.block hb)⟩; have hbx := hq1.trans HM.out.box; have d5 := cell_of_cells hbx 5; have g5 := frozen_of_cells hbx 5; simp at d5; have HBX := hid hbx; clear hbx hq1)
  go_end0
  obtain ⟨M, hv', hgr, hbx⟩ : Mach lo lo2 w mb n pu tu tm lg (.slice sa vs.length sc) lv vs us S L ∧ _ ∧ _ ∧ _ := ⟨HM.out, hown, hg, HBX.out⟩
  have hr := HR.out
  have x0 : Ext w (w.alloc (.cells #[.slice ra xs.length rc] 29)) := (by repeat (with_reducible (first | assumption | exact Ext.refl _ | apply Ext.alloc | apply Ext.drew | apply Ext.drewN)))
  have hlw : lo ≤ w.heap.size := Nat.le_trans M.hl M.hl2
  have hsl := World.ownsRow.lt M.so
  have k1 : KeepI w w1 := x0.keepI.trans (KeepI.grown hgr (fun k cur fr hk => ownsRow.int (World.ownsRow.alloc M.so _) (by decide) k cur fr hk))
  have k2 : KeepI w1 (w1.setCell ⟨mb, 5, none⟩ (.slice va (vs.length + 1) vc)) := KeepI.setCell _ (fun cur fr e => by
    rw [hbx] at e
    simp at e)
  have hmb := ownsRow.not hv' hbx (by decide)
  have hgs : w1.grownBy (w1.setCell ⟨mb, 5, none⟩ (.slice va (vs.length + 1) vc)) (some mb) := ⟨rfl, rfl, rfl, by simp, fun k hk hne => Below.heap_setCell _ _ _ _ (by simpa using hne)⟩
  have hll := M.lo'.alloc (.cells #[.slice ra xs.length rc] 29)
  have hlm := ownsRow.not M.lo' M.box (by decide)
  refine ⟨rfl, ⟨_, heap_set5 hbx _, M.low, ?_, ?_, M.sep, M.hl, by have := hgr.size; have := x0.size; have := M.hl2; simp; omega, by simp [M.sl], ?_, ?_, M.nls⟩, ⟨?_, k1.trans k2⟩, ?_⟩
  · have := hv'.kept hgs (.inr hmb)
    simpa using this
  · refine (hll.kept hgr ?_).kept hgs (.inr hlm)
    cases hk : lv.ownBlock with
    | none => exact .inl rfl
    | some k =>
      refine .inr fun e => ?_
      have h1 := M.sep k hk
      have h2 := (hsl k e.symm).1
      omega
  · have hr2 := (M.rows.keepI (k1.trans k2))
    have hr3 : OwnInts lo _ _ _ := hr.keepI (k1.trans k2)
    exact Rws.insert M.sl hr2 hr3
  · exact M.apt.insert HL.out
  · exact Below.setCell (Below.grown (Below.mono x0 hlw) hgr (by have := x0.size; omega) (fun k hk => by have := (hsl k hk).1; have := M.hl; omega)) M.low _
  · intro b hb1 hb2 hb3
    exact (Below.heap_setCell _ _ _ _ hb2).trans ((hgr.block b (by simp; omega) (fun e => hb3 e.symm)).trans (x0.block hb1))
end Go.Proofs.YtaegmenjgjdimaaGreat
end

section
/- This text proves what the grid's machine does when rows are popped. -/
namespace Go.Proofs.YtaegmenjgjdimaaGreat
open Go.RowKit

theorem ownsRow.shrink {w : World} {lo : Nat} {e : TypeId} {g n cap q : Nat} {xs : List Value} (h : w.ownsRow lo e 1 (.slice (some ⟨g, 0, none⟩) n cap) n xs) (hq : q ≤ n) : w.ownsRow lo e 1 (.slice (some ⟨g, 0, none⟩) q cap) q (xs.take q) := by
  obtain ⟨h1, h2⟩ := h
  refine ⟨by simp; omega, ?_⟩
  rcases h2 with ⟨hn, _⟩ | ⟨g', cap', cur, hv, hb, hg, hc, hm, hs, ht⟩
  · simp at hn
  · simp only [Value.slice.injEq, Option.some.injEq, Addr.mk.injEq, and_true, true_and] at hv
    obtain ⟨rfl, rfl⟩ := hv
    refine .inr ⟨g, cap, cur, rfl, hb, hg, by omega, hm, hs, ?_⟩
    rw [← ht, List.take_take, Nat.mul_one, Nat.mul_one, Nat.min_eq_left hq]
theorem ownsRow.caps {w : World} {lo : Nat} {e : TypeId} {g n cap : Nat} {xs : List Value} (h : w.ownsRow lo e 1 (.slice (some ⟨g, 0, none⟩) n cap) n xs) : n ≤ cap ∧ cap ≤ 9223372036854775807 := by
  rcases h.2 with ⟨hn, _⟩ | ⟨g', cap', cur, hv, hb, hg, hc, hm, hs, ht⟩
  · simp at hn
  · simp only [Value.slice.injEq, Option.some.injEq, Addr.mk.injEq, and_true, true_and] at hv
    obtain ⟨rfl, rfl⟩ := hv
    unfold maxLen at hm
    exact ⟨hc, by omega⟩
theorem ownsRow.form1 {w : World} {lo : Nat} {e : TypeId} {size n : Nat} {v : Value} {xs : List Value} (h : w.ownsRow lo e size v n xs) (hn : 1 ≤ n) : ∃ g cap, v = .slice (some ⟨g, 0, none⟩) n cap ∧ lo ≤ g ∧ g < w.heap.size := by
  rcases h.2 with ⟨rfl, h4⟩ | ⟨g, cap, cur, rfl, hb, hg, hc, hm, hs, ht⟩
  · omega
  · exact ⟨g, cap, rfl, hb, (Array.getElem?_eq_some_iff.1 hg).1⟩
theorem Rws.one {lo : Nat} {w : World} {vs : List Value} {S : List (List Int)} (h : Rws lo w vs S) : ∀ v ∈ vs, v.oneCell' = true := by
  intro v hv
  obtain ⟨i, hi, rfl⟩ := List.getElem_of_mem hv
  have hl := h.len
  obtain ⟨a, c, e, _⟩ := (h.own i vs[i] (S[i]'(by omega)) (by simp [hi]) (by simp [show i < S.length by omega])).form
  rw [e]
  rfl
theorem Rws.left {lo : Nat} {w : World} {vs us : List Value} {S L : List (List Int)} (hl : vs.length = S.length) (h : Rws lo w (vs ++ us) (S ++ L)) : Rws lo w vs S := by
  have := h.take vs.length
  rwa [List.take_left, hl, List.take_left] at this
theorem Rws.right {lo : Nat} {w : World} {vs us : List Value} {S L : List (List Int)} (hl : vs.length = S.length) (h : Rws lo w (vs ++ us) (S ++ L)) : Rws lo w us L := by
  have := h.drop vs.length
  rwa [List.drop_left, hl, List.drop_left] at this
theorem Rws.app {lo : Nat} {w : World} {vs us : List Value} {S L : List (List Int)} (h : Rws lo w vs S) (k : Rws lo w us L) : Rws lo w (vs ++ us) (S ++ L) := by
  have hl := h.len
  refine ⟨by simp [h.len, k.len], fun i u ys h1 h2 => ?_⟩
  by_cases h3 : i < vs.length
  · rw [List.getElem?_append_left h3] at h1
    rw [List.getElem?_append_left (by omega)] at h2
    exact h.own i u ys h1 h2
  · rw [List.getElem?_append_right (by omega)] at h1 h2
    rw [hl] at h1
    exact k.own _ u ys h1 h2
set_option maxRecDepth 100000 in
set_option maxHeartbeats 1600000 in
theorem pop_any {lo lo2 : Nat} {w : World} {mb n : Nat} {pu tu : Value} {tm lg : Int} {sv lv : Value} {vs us : List Value} {S L : List (List Int)} (M : Mach lo lo2 w mb n pu tu tm lg sv lv vs us S L) (p q : Nat) (hp : 1 ≤ p) (hq : q + p = vs.length) (hS : vs.length ≤ 1000) :
    Calls Tryz.prog 100 #[.pointer (some ⟨mb, 0, none⟩), .int .i64 p] w fun e w' => ∃ r, e = .returned r ∧ w'.ownsRow w.heap.size 29 1 r p (vs.drop q) ∧ (∃ sv', Mach lo lo2 w' mb n pu tu tm lg sv' lv (vs.take q) us (S.take q) L ∧ sv'.ownBlock = sv.ownBlock) ∧ Step lo w w' ∧ ∀ b, b < w.heap.size → b ≠ mb → w'.heap[b]? = w.heap[b]? := by
  obtain ⟨g, sc, rfl, hg1, hg2⟩ := ownsRow.form1 M.so (by omega)
  have hb := M.lt
  have hlo := M.low
  obtain ⟨l1, l2⟩ := ownsRow.caps M.so
  have c5 := cell_of_cells M.box 5
  have f5 := frozen_of_cells M.box 5
  simp at c5
  have hq2 : (vs.length : Int) - p = q := by omega
  have hq3 : vs.length - q = p := by omega
  have hmx := ownsRow.not M.so M.box (by decide)
  have hdl : (vs.drop q).length = p := by simp; omega
  have hcell : ∀ i y, (vs.drop q)[i]? = some y → w.cell? ⟨g, q + i, none⟩ = some y := by
    intro i y hy
    rw [List.getElem?_drop] at hy
    have hlt := (List.getElem?_eq_some_iff.1 hy).1
    rw [World.ownsRow.cellAt M.so (q + i) (by omega)]
    exact hy
  have hone : ∀ y ∈ vs.drop q, y.oneCell' = true := fun y hy => (Rws.left M.sl M.rows).one y (List.mem_of_mem_drop hy)
  have HM := hid M
  have HC := hid hcell
  have HO := hid hone
  have HD := hid hdl
  clear M hcell hone hdl
  go_enter Tryz.func100, Tryz.ntmps100
  go_wp2_with fail
  have key := cloneRows_any g q (sc - q) (vs.drop q) w hg2 (by rw [HD.out]; omega) (by omega) HC.out HO.out (by rw [HD.out]; omega)
  rw [HD.out] at key
  refine key.mono ?_
  rintro e w1 ⟨r, rfl, hr, x1⟩
  obtain ⟨ra, rc, rfl⟩ := ownsRow.form hr
  have M1 := HM.out.ext x1
  have b5 := cell_of_cells M1.box 5
  have g5 := frozen_of_cells M1.box 5
  simp at b5
  have hb2 := M1.lt
  have HR := hid hr
  have HM1 := hid M1
  clear key hr M1 c5 f5
  go_wp2
  go_ret
  obtain ⟨M, hr⟩ : Mach lo lo2 w1 mb n pu tu tm lg _ lv vs us S L ∧ _ := ⟨HM1.out, HR.out⟩
  have k2 : KeepI w1 (w1.setCell ⟨mb, 5, none⟩ (.slice (some ⟨g, 0, none⟩) q sc)) := KeepI.setCell _ (fun cur fr e => by
    rw [M.box] at e
    simp at e)
  have hgs : w1.grownBy (w1.setCell ⟨mb, 5, none⟩ (.slice (some ⟨g, 0, none⟩) q sc)) (some mb) := ⟨rfl, rfl, rfl, by simp, fun k hk hne => Below.heap_setCell _ _ _ _ (by simpa using hne)⟩
  have hlm := ownsRow.not M.lo' M.box (by decide)
  have hlw : lo ≤ w.heap.size := Nat.le_trans HM.out.hl HM.out.hl2
  have hrm := ownsRow.not hr M.box (by decide)
  have htl : (vs.take q).length = q := by simp; omega
  refine ⟨_, rfl, hr.kept hgs (.inr hrm), ⟨_, ⟨heap_set5 M.box _, M.low, ?_, M.lo'.kept hgs (.inr hlm), M.sep, M.hl, by have := M.hl2; simpa using this, by simp [M.sl], ?_, ?_, M.nls⟩, rfl⟩, ⟨?_, x1.keepI.trans k2⟩, fun b hb1 hb2 => (Below.heap_setCell _ _ _ _ hb2).trans (x1.block hb1)⟩
  · rw [htl]
    exact (ownsRow.shrink M.so (by omega)).kept hgs (.inr hmx)
  · have h1 := (Rws.left M.sl M.rows).keepI k2
    have h2 := (Rws.right M.sl M.rows).keepI k2
    exact (h1.take q).app h2
  · exact M.apt.sub (List.take_sublist _ _) (List.Sublist.refl _)
  · exact Below.setCell (Below.mono x1 hlw) M.low _
end Go.Proofs.YtaegmenjgjdimaaGreat
end

section
/- This text proves the laws on regions that draw their order for an arbitrary set of cells that no effect touches; it speaks of no program. -/
namespace Go.Proofs.YtaegmenjgjdimaaGreat

open Classical in
/-- w, or d where the cells that C names are in d as they are in w -/
noncomputable def lowc (C : Addr → Prop) (w d : World) : World := if (∀ a, C a → d.cell? a = w.cell? a ∧ d.frozen? a = w.frozen? a) then d else w
theorem lowc_same (C : Addr → Prop) (w d : World) : ∀ a, C a → (lowc C w d).cell? a = w.cell? a ∧ (lowc C w d).frozen? a = w.frozen? a := by
  unfold lowc
  split
  · assumption
  · exact fun _ _ => ⟨rfl, rfl⟩
@[go_sem] theorem cell?_lowc (C : Addr → Prop) (w d : World) (a : Addr) (h : C a) : (lowc C w d).cell? a = w.cell? a := (lowc_same C w d a h).1
@[go_sem] theorem frozen?_lowc (C : Addr → Prop) (w d : World) (a : Addr) (h : C a) : (lowc C w d).frozen? a = w.frozen? a := (lowc_same C w d a h).2
/-- the worlds whose cells named by C are those of w -/
def SC (C : Addr → Prop) (w : World) : World → Prop := fun w' => ∃ d, w' = lowc C w d
theorem SC.of {C : Addr → Prop} {w w2 : World} (h : ∀ a, C a → w2.cell? a = w.cell? a ∧ w2.frozen? a = w.frozen? a) : SC C w w2 := ⟨w2, by unfold lowc; rw [if_pos h]⟩
theorem SC.drew (C : Addr → Prop) (w : World) : SC C w w.drew := SC.of fun _ _ => ⟨rfl, rfl⟩
theorem SC.get {C : Addr → Prop} {w w2 : World} (h : SC C w w2) : ∀ a, C a → w2.cell? a = w.cell? a ∧ w2.frozen? a = w.frozen? a := by
  obtain ⟨d, rfl⟩ := h
  exact lowc_same C w d
/-- by whole blocks -/
theorem SC.blocks {C : Addr → Prop} {w w2 : World} (h : ∀ a, C a → w2.heap[a.block]? = w.heap[a.block]?) : SC C w w2 := SC.of fun a ha => ⟨World.cell?_of_block (h a ha), World.frozen?_of_block (h a ha)⟩

theorem bind_ok {P : Program} {α β : Type} {s : Sem α} {f : α → Sem β} {w w' : World} {b : β} (h : (s.bind f).run P w = .ok b w') : ∃ a w1, (f a).run P w1 = .ok b w' := by
  rw [Sem.run_bind'] at h
  cases hs : s.run P w with
  | ok v w1 => rw [hs] at h; exact ⟨v, w1, h⟩
  | halt x w1 => rw [hs] at h; simp at h
theorem nil_value {P : Program} {ρ : Operand → Value} {x : Operand} {o : Oper} (hx : o.op = .nilCheck x) {w w' : World} {n : Next} (h : (execOp ρ o).run P w = .ok n w') : ∃ v, n = .value v := by
  unfold execOp at h
  rw [hx] at h
  dsimp only at h
  have hp : ∀ {v : Value} {w1 : World}, Sem.run P (pure (Next.value v)) w1 = Result.ok n w' → ∃ v, n = .value v := fun h => by simp at h; exact ⟨_, h.1.symm⟩
  split at h
  · simp [runtimePanic] at h
  · simp [runtimePanic] at h
  · simp [runtimePanic] at h
  · split at h
    · simp [runtimePanic] at h
    · obtain ⟨a, w1, h⟩ := bind_ok h
      obtain ⟨c, w2, h⟩ := bind_ok h
      split at h
      · obtain ⟨d, w3, h⟩ := bind_ok h
        exact hp h
      · exact hp h
    · exact hp h
  · exact hp h

def isReadC : Op → Bool
  | .nilCheck _ => true
  | o => isRead o
theorem value_onlyC {P : Program} {ρ : Operand → Value} {o : Oper} (hr : isReadC o.op = true) {w w' : World} {n : Next} (h : (execOp ρ o).run P w = .ok n w') : ∃ v, n = .value v := by
  by_cases hn : ∃ x, o.op = .nilCheck x
  · obtain ⟨x, hx⟩ := hn
    exact nil_value hx h
  · refine value_only ?_ h
    revert hr hn
    cases o.op <;> intro hr hn <;> first | exact absurd ⟨_, rfl⟩ hn | exact hr

def readsOkC (ops : Array Oper) : List (List Nat × Nat) → Bool
  | [] => true
  | (T, _) :: r => T.all (fun i => match ops[i]? with | some o => isReadC o.op | none => false) && readsOkC ops r

/-- the stages of a region: reads, then the one operation that may come up, and so on; N: the blocks that no stage but number z writes -/
def wpStagesS (P : Program) (ops : Array Oper) (Q : Exit → Act → World → Prop) (S : World → Prop) (z : Nat) : List (List Nat × Nat) → Act → World → Prop
  | [], a, w => Q .normal a w
  | (T, e) :: r, a, w => wpQuiet P ops S (fun a' => ∃ o, ops[e]? = some o ∧ wpList P ops (Exit.then (fun a2 w2 => (e = z ∨ S w2) ∧ wpStagesS P ops Q S z r a2 w2) Q) [o] a' w) (T.filterMap (ops[·]?)) a

theorem plan_of_quietS {P : Program} {ops : Array Oper} {Q : Exit → Act → World → Prop} {S : World → Prop} {z : Nat} {r : List (Bool × Nat)} {w : World} {K : Act → Prop}
    (hK : ∀ a, K a → wpPlan P ops Q S z r a w) :
    ∀ (T : List Nat) (a : Act), T.all (fun i => match ops[i]? with | some o => isReadC o.op | none => false) = true → wpQuiet P ops S K (T.filterMap (ops[·]?)) a →
      wpPlan P ops Q S z (T.map (fun i => (true, i)) ++ r) a w
  | [], a, _, h => hK a h
  | i :: T, a, hr, h => by
    simp only [List.all_cons, Bool.and_eq_true] at hr
    obtain ⟨hri, hr'⟩ := hr
    cases ho : ops[i]? with
    | none => rw [ho] at hri; cases hri
    | some o =>
      rw [ho] at hri
      simp only [List.filterMap_cons, ho] at h
      refine ⟨o, ho, ?_⟩
      unfold takeOp
      unfold wpQuiet at h
      split
      · rename_i hw
        rw [if_pos hw] at h
        obtain ⟨v, hv, hn⟩ := h
        refine ⟨v, fun w' hw' => ?_, plan_of_quietS hK T _ hr' hn⟩
        have h1 := hv w' hw'
        unfold Oper.quietAt at h1
        cases hrun : (execOp a.eval o).run P w' with
        | halt x w1 => rw [hrun] at h1; exact h1.elim
        | ok n w1 =>
          obtain ⟨u, rfl⟩ := value_onlyC hri hrun
          rw [hrun] at h1
          obtain ⟨e1, e2⟩ := h1
          rw [e1, e2]
      · rename_i hw
        rw [if_neg hw] at h
        exact plan_of_quietS hK T _ hr' h

theorem plan_of_stagesS {P : Program} {ops : Array Oper} {Q : Exit → Act → World → Prop} {S : World → Prop} {z : Nat} : ∀ (st : List (List Nat × Nat)) (a : Act) (w : World), readsOkC ops st = true →
    wpStagesS P ops Q S z st a w → wpPlan P ops Q S z (stagesPlan st) a w
  | [], _, _, _, h => h
  | (T, e) :: r, a, w, hr, h => by
    simp only [readsOkC, Bool.and_eq_true] at hr
    refine plan_of_quietS (K := fun a' => ∃ o, ops[e]? = some o ∧ wpList P ops (Exit.then (fun a2 w2 => (e = z ∨ S w2) ∧ wpStagesS P ops Q S z r a2 w2) Q) [o] a' w) (fun a' ha => ?_) T a hr.1 h
    obtain ⟨o, ho, hl⟩ := ha
    refine ⟨o, ho, ?_⟩
    have key : ∀ a2 w2, ((e = z ∨ S w2) ∧ wpStagesS P ops Q S z r a2 w2) → ((e = z ∨ S w2) ∧ wpPlan P ops Q S z (stagesPlan r) a2 w2) :=
      fun a2 w2 ⟨k1, k2⟩ => ⟨k1, plan_of_stagesS r a2 w2 hr.2 k2⟩
    unfold wpList at hl ⊢
    split
    · rename_i hw
      rw [if_pos hw] at hl
      rcases hl with hl | ⟨h1, h2⟩
      · refine .inl ?_
        have h3 := upon_then hl
        have h4 : o.wp P a' w (wpList P ops (Exit.then (fun a2 w2 => (e = z ∨ S w2) ∧ wpStagesS P ops Q S z r a2 w2) Q) []) Q := h3
        have h5 := Oper.wp_mono (K' := wpList P ops (Exit.then (fun a2 w2 => (e = z ∨ S w2) ∧ wpPlan P ops Q S z (stagesPlan r) a2 w2) Q) []) (fun a2 w2 hk => key a2 w2 hk) h4
        unfold Oper.wp at h5 ⊢
        generalize (execOp a'.eval o).run P w = res at h5 ⊢
        cases res with
        | ok n w' => cases n <;> exact h5
        | halt x w' => cases x <;> exact h5
      · exact .inr ⟨h1, h2⟩
    · rename_i hw
      rw [if_neg hw] at hl
      exact key _ _ hl

/-- the law that the walks use -/
theorem wp_region_stagesS {P : Program} {Q : Exit → Act → World → Prop} {id : Nat} {a : Act} {w : World} {l : List Oper} (st : List (List Nat × Nat)) (z : Nat) (S : World → Prop) (hm : P.follows .mixedOrders = true)
    (hB : (planB .any l.toArray z (stagesPlan st) && readsOkC l.toArray st && (stagesPlan st).length == l.length) = true)
    (hS : S w.drew) (h : wpStagesS P l.toArray (NoPanic Q) S z st a w.drew) : (Code.region id l.toArray true).wp P Q a w := by
  simp only [Bool.and_eq_true, beq_iff_eq] at hB
  exact wp_region_plan (stagesPlan st) z S hm hB.1.1 hB.2 hS (plan_of_stagesS st a w.drew hB.1.2 h)

theorem wpStagesS_nil {P : Program} {ops : Array Oper} {Q : Exit → Act → World → Prop} {S : World → Prop} {z : Nat} {a : Act} {w : World} (h : Q .normal a w) : wpStagesS P ops (NoPanic Q) S z [] a w := h
/-- one stage: the reads, then the operation; what follows stands behind a variable -/
theorem wpStagesS_cons {P : Program} {ops : Array Oper} {Q : Exit → Act → World → Prop} {S : World → Prop} {z : Nat} {T : List Nat} {e : Nat} {r : List (List Nat × Nat)} {a : Act} {w : World}
    (h : wpQuiet P ops S (fun a' => ∃ o, ops[e]? = some o ∧ ∀ K : Act → World → Prop, (∀ a2 w2, (e = z ∨ S w2) → wpStagesS P ops Q S z r a2 w2 → K a2 w2) → wpList P ops (Exit.then K Q) [o] a' w) (T.filterMap (ops[·]?)) a) :
    wpStagesS P ops Q S z ((T, e) :: r) a w := by
  unfold wpStagesS
  have e1 : (fun a' => ∃ o, ops[e]? = some o ∧ wpList P ops (Exit.then (fun a2 w2 => (e = z ∨ S w2) ∧ wpStagesS P ops Q S z r a2 w2) Q) [o] a' w) =
      (fun a' => ∃ o, ops[e]? = some o ∧ ∀ K : Act → World → Prop, (∀ a2 w2, (e = z ∨ S w2) → wpStagesS P ops Q S z r a2 w2 → K a2 w2) → wpList P ops (Exit.then K Q) [o] a' w) := by
    funext a'
    refine propext ⟨fun ⟨o, ho, hl⟩ => ⟨o, ho, fun K hK => ?_⟩, fun ⟨o, ho, hl⟩ => ⟨o, ho, hl _ fun a2 w2 h1 h2 => ⟨h1, h2⟩⟩⟩
    unfold wpList at hl ⊢
    split
    · rename_i hw
      rw [if_pos hw] at hl
      rcases hl with hl | ⟨h1, h2⟩
      · refine .inl ?_
        have h4 := Oper.wp_mono (K' := wpList P ops (Exit.then K Q) []) (fun a2 w2 hk => hK a2 w2 hk.1 hk.2) hl
        unfold Oper.wp at h4 ⊢
        generalize (execOp a'.eval o).run P w = res at h4 ⊢
        cases res with
        | ok n w' => cases n <;> exact h4
        | halt x w' => cases x <;> exact h4
      · exact .inr ⟨h1, h2⟩
    · rename_i hw
      rw [if_neg hw] at hl
      exact hK _ _ hl.1 hl.2
  rw [e1]
  exact h



/-- the state of a region on its way, by stages: see wpZS_stage -/
def wpZS (P : Program) (ops : Array Oper) (Q : Exit → Act → World → Prop) (S : World → Prop) (z fuel : Nat) (listed : Array Bool) (a : Act) (w : World) : Prop :=
  wpAnyZ P .any ops Q S z fuel listed a w

def takesOkC (ops : Array Oper) (z : Nat) : List Nat → Array Bool → Bool
  | [], _ => true
  | i :: r, l => (match ops[i]? with | some o => isReadC o.op | none => false) && (i != z && Region.free .any ops l i && (Region.ready .any ops l).contains i) && takesOkC ops z r (l.setIfInBounds i true)

def stageOkC (ops : Array Oper) (z : Nat) (T E : List Nat) (l : Array Bool) : Bool :=
  Region.noSelect ops && waitsAll .any ops z && takesOkC ops z T l && (Region.ready .any ops (listAll T l) == E) && !E.isEmpty

/-- what is asked of the operation that comes up: what follows stands behind a variable -/
def wpComesS (P : Program) (ops : Array Oper) (Q : Exit → Act → World → Prop) (S : World → Prop) (z fuel : Nat) (l : Array Bool) (e : Nat) (a : Act) (w : World) : Prop :=
  ∃ o, ops[e]? = some o ∧ ∀ K : Act → World → Prop, (∀ a2 w2, (e = z ∨ S w2) → wpZS P ops Q S z fuel (l.setIfInBounds e true) a2 w2 → K a2 w2) → wpList P ops (Exit.then K Q) [o] a w

theorem wpOp_of_comesS {P : Program} {ops : Array Oper} {Q : Exit → Act → World → Prop} {S : World → Prop} {z fuel : Nat} {l : Array Bool} {e : Nat} {a : Act} {w : World} (h : wpComesS P ops Q S z fuel l e a w) :
    wpOp P ops Q e (fun a' w' => (e = z ∨ S w') ∧ wpZS P ops Q S z fuel (l.setIfInBounds e true) a' w') a w := by
  obtain ⟨o, ho, hl⟩ := h
  have ht := hl (fun a' w' => (e = z ∨ S w') ∧ wpZS P ops Q S z fuel (l.setIfInBounds e true) a' w') (fun a2 w2 k1 k2 => ⟨k1, k2⟩)
  unfold wpOp
  simp only [ho]
  unfold wpList at ht
  split
  · rename_i hw
    rw [if_pos hw] at ht
    rcases ht with ht | ⟨h1, h2⟩
    · refine .inl ?_
      have h3 := upon_then ht
      exact h3
    · exact .inr ⟨h1, h2⟩
  · rename_i hw
    rw [if_neg hw] at ht
    exact ht

theorem wpZS_takes {P : Program} {ops : Array Oper} {Q : Exit → Act → World → Prop} {S : World → Prop} {z fuel : Nat} {w : World} {K : Act → Prop} (hsel : Region.noSelect ops = true) (hz : waitsAll .any ops z = true) (hS : S w) :
    ∀ (T : List Nat) (l : Array Bool) (a : Act), takesOkC ops z T l = true → (∀ a, K a → wpZS P ops (NoPanic Q) S z fuel (listAll T l) a w) →
      wpQuiet P ops S K (T.filterMap (ops[·]?)) a → wpZS P ops (NoPanic Q) S z (T.length + fuel) l a w
  | [], l, a, _, hK, h => by rw [List.length_nil, Nat.zero_add]; exact hK a h
  | i :: T, l, a, hT, hK, h => by
    simp only [takesOkC, Bool.and_eq_true, bne_iff_ne] at hT
    obtain ⟨⟨hri, ⟨hiz, hf⟩, hr⟩, hT'⟩ := hT
    cases ho : ops[i]? with
    | none => rw [ho] at hri; cases hri
    | some o =>
      rw [ho] at hri
      simp only [List.filterMap_cons, ho] at h
      unfold wpQuiet at h
      have hlen : (i :: T).length + fuel = T.length + fuel + 1 := by rw [List.length_cons]; omega
      rw [hlen]
      split at h
      · rename_i hw
        obtain ⟨v, hv, hn⟩ := h
        refine wpAnyZ_first (v := v) ho hz hiz (Region.noSelect_spec hsel) (fun c a w k => k) _ l a w (Region.free_spec ho hf) (by simpa using hr) (.inl ⟨hw, fun w' hw' => ?_⟩) hS (wpZS_takes hsel hz hS T _ _ hT' hK hn)
        have h1 := hv w' hw'
        unfold Oper.quietAt at h1
        cases hrun : (execOp a.eval o).run P w' with
        | halt x w1 => rw [hrun] at h1; exact h1.elim
        | ok n w1 =>
          obtain ⟨u, rfl⟩ := value_onlyC hri hrun
          rw [hrun] at h1
          obtain ⟨e1, e2⟩ := h1
          rw [e1, e2]
      · rename_i hw
        exact wpAnyZ_first (v := undef) ho hz hiz (Region.noSelect_spec hsel) (fun c a w k => k) _ l a w (Region.free_spec ho hf) (by simpa using hr) (.inr ⟨by simpa using hw, rfl⟩) hS (wpZS_takes hsel hz hS T _ _ hT' hK h)

/-- a stage: the reads T are taken; then one of E comes up -/
theorem wpZS_stage {P : Program} {ops : Array Oper} {Q : Exit → Act → World → Prop} {S : World → Prop} {z fuel : Nat} {l : Array Bool} {a : Act} {w : World} (T E : List Nat) (hB : stageOkC ops z T E l = true) (hS : S w)
    (h : wpQuiet P ops S (fun a' => ∀ e ∈ E, wpComesS P ops (NoPanic Q) S z fuel (listAll T l) e a' w) (T.filterMap (ops[·]?)) a) :
    wpZS P ops (NoPanic Q) S z (T.length + (fuel + 1)) l a w := by
  simp only [stageOkC, Bool.and_eq_true, beq_iff_eq] at hB
  obtain ⟨⟨⟨⟨h1, h2⟩, h3⟩, h4⟩, h5⟩ := hB
  refine wpZS_takes h1 h2 hS T l a h3 (fun a' hk => ?_) h
  refine ⟨fun h0 => ?_, fun e he => ?_⟩
  · rw [h4] at h0; rw [h0] at h5; cases h5
  · rw [h4] at he
    exact wpOp_of_comesS (hk e he)

theorem wpZS_end {P : Program} {ops : Array Oper} {Q : Exit → Act → World → Prop} {S : World → Prop} {z : Nat} {l : Array Bool} {a : Act} {w : World} (hB : (Region.ready .any ops l).isEmpty = true) (h : Q .normal a w) : wpZS P ops (NoPanic Q) S z 0 l a w :=
  ⟨by simpa using hB, h⟩

theorem wp_region_ZS {P : Program} {Q : Exit → Act → World → Prop} {id : Nat} {a : Act} {w : World} {l : List Oper} (z : Nat) (S : World → Prop) (hm : P.follows .mixedOrders = true)
    (h : wpZS P l.toArray (NoPanic Q) S z l.length (Array.replicate l.length false) a w.drew) : (Code.region id l.toArray true).wp P Q a w := by
  refine wp_region_noPanic (wp_region_any hm ?_)
  have := wpAny_of_Z _ _ _ _ h
  simpa using this

end Go.Proofs.YtaegmenjgjdimaaGreat
end

section
/- This text proves the operations of the grid's machine. -/
namespace Go.Proofs.YtaegmenjgjdimaaGreat
open Go.RowKit

theorem SC.go {C : Addr → Prop} {w w1 w2 : World} (h : SC C w w1) (k : ∀ a, C a → w2.heap[a.block]? = w1.heap[a.block]?) : SC C w w2 := SC.of fun a ha => by
  have h1 := h.get a ha
  exact ⟨(World.cell?_of_block (k a ha)).trans h1.1, (World.frozen?_of_block (k a ha)).trans h1.2⟩
/-- the machine and the row that an operation yields -/
theorem snoc_drop {α : Type} (l : List α) (q : Nat) (hq : q + 1 = l.length) : ∃ x, l.drop q = [x] ∧ l = l.take q ++ [x] := by
  refine ⟨l[q]'(by omega), ?_, ?_⟩
  · rw [List.drop_eq_getElem_cons (by omega), List.drop_of_length_le (by omega)]
  · rw [← List.take_succ_eq_append_getElem (by omega), List.take_of_length_le (by omega)]
theorem snoc2_drop {α : Type} (l : List α) (q : Nat) (hq : q + 2 = l.length) : ∃ x y, l.drop q = [x, y] ∧ l = l.take q ++ [x] ++ [y] := by
  refine ⟨l[q]'(by omega), l[q + 1]'(by omega), ?_, ?_⟩
  · rw [List.drop_eq_getElem_cons (by omega), List.drop_eq_getElem_cons (by omega), List.drop_of_length_le (by omega)]
  · rw [← List.take_succ_eq_append_getElem (by omega), ← List.take_succ_eq_append_getElem (by omega), List.take_of_length_le (by omega)]
set_option maxRecDepth 100000 in
set_option maxHeartbeats 3200000 in
theorem unary_any {lo lo2 : Nat} {w : World} {mb n : Nat} {pu tu : Value} {tm lg : Int} {sv lv : Value} {vs us : List Value} {S L : List (List Int)} (M : Mach lo lo2 w mb n pu tu tm lg sv lv vs us S L) (q m : Nat) (op : Int) (hop : opsOk op) (hq : q + 1 = S.length) (hS : S.length ≤ 1000)
    (hg : ∀ r ∈ S, good m r) (hm : m ≤ 64) :
    Calls Tryz.prog 97 #[.pointer (some ⟨mb, 0, none⟩), .int .i64 op] w fun e w' => e = .returned (.tuple #[]) ∧ (∃ sv' vs', Mach lo lo2 w' mb n pu tu tm lg sv' lv vs' us (S.take q ++ [List.zipWith (arithI op) (S.getD q []) (S.getD q [])]) L) ∧ Step lo w w' := by
  have hvl := M.sl
  obtain ⟨x, hx1, hx2⟩ := snoc_drop vs q (by omega)
  obtain ⟨xs, hs1, hs2⟩ := snoc_drop S q hq
  have hR := Rws.left M.sl M.rows
  have hown : OwnInts lo w x xs := by
    have := (hR.drop q).own 0 x xs (by rw [hx1]; rfl) (by rw [hs1]; rfl)
    exact this
  have hxs : S.getD q [] = xs := by
    have h1 : S[q]? = (S.drop q)[0]? := by rw [List.getElem?_drop, Nat.add_zero]
    rw [List.getD, h1, hs1]
    rfl
  rw [hxs]
  obtain ⟨g1, g2⟩ := hg xs (by rw [hs2]; simp)
  replace g1 := hid g1
  replace hxs := hid hxs
  obtain ⟨zs, hzs⟩ : ∃ zs, List.zipWith (arithI op) xs xs = zs := ⟨_, rfl⟩
  rw [hzs]
  replace hzs := hid hzs
  have HM := hid M
  have HO := hid hown
  have hx1' := hid hx1
  have hlw : lo ≤ w.heap.size := Nat.le_trans M.hl M.hl2
  clear M hown hR hx1 hx2 hs1 hs2
  go_enter Tryz.func97, Tryz.ntmps97
  go_wp2_with fail
  refine (pop_any HM.out 1 q (Nat.le_refl _) (by omega) (by omega)).mono ?_
  rintro e w1 ⟨r, rfl, hr, ⟨sv1, M1, hsv0⟩, st1, fr1⟩
  have hsv1 : ∀ k, sv1.ownBlock = some k → k < w.heap.size := fun k hk => (World.ownsRow.lt HM.out.so k (hsv0 ▸ hk)).2
  clear hsv0
  obtain ⟨rb, rc, rfl, hrb1, hrb2⟩ := ownsRow.form1 hr (Nat.le_refl _)
  rw [hx1'.out] at hr
  have r0 := World.ownsRow.cellAt hr 0 (by omega)
  simp at r0
  obtain ⟨xa, xc, rfl, _⟩ := HO.out.form
  have HM1 := hid M1
  have HX1 := hid ((HO.out.keepI st1.keep))
  have hu := hid (HX1.out.ints.wide (Nat.zero_le _) (Nat.le_refl _))
  have HS1 := hid st1
  have HF1 := hid fr1
  have hs1 := st1.size
  clear HM M1 st1 fr1
  go_wp2_with fail
  refine wp_region_stagesS [([0, 1, 2, 3, 4, 5, 6, 7], 8), ([], 9)] 99 (fun w' => ∃ d, w' = lowc (fun a => a.block = rb) _ d) (by kernel_rfl) (by kernel_rfl) (SC.drew _ _) ?_
  refine wpStagesS_cons ?_
  simp only [List.filterMap_cons, List.filterMap_nil, List.getElem?_toArray, List.getElem?_cons_zero, List.getElem?_cons_succ]
  show wpQuiet _ _ _ _ [_, _, _, _, _, _, _, _] _
  repeat (go_big_quiet_step (fail))
  refine wpQuiet_nil ⟨_, rfl, fun K hK => ?_⟩
  go_wp2_with fail
  refine (iCombined_any 0 w1.heap.size 0 w1.heap.size _ _ op xs xs _ hop (hu.out.ext (Nat.le_refl _) (Ext.drew (Ext.refl _))) (Nat.le_refl _) (hu.out.ext (Nat.le_refl _) (Ext.drew (Ext.refl _))) (Nat.le_refl _) rfl (by rw [g1.out]; omega) g2 g2).mono ?_
  rintro e w2 ⟨y, rfl, hy, x2⟩
  rw [hzs.out] at hy
  obtain ⟨ya, yc, rfl, _⟩ := hy.form
  have X2 : Ext w1 w2 := Ext.trans (Ext.drew (Ext.refl _)) x2
  have SC2 : SC (fun a => a.block = rb) w1 w2 := SC.blocks (fun a ha => by rw [ha]; exact X2.block hrb2)
  go_wp2_with fail
  refine hK _ _ (.inr (SC2)) ?_
  clear hK K
  refine wpStagesS_cons ?_
  simp only [List.filterMap_nil]
  show wpQuiet _ _ _ _ [] _
  try simp only [Act.put, List.setIfInBounds_toArray, List.set_cons_succ, List.set_cons_zero]
  repeat (go_big_quiet_step (fail))
  refine wpQuiet_nil ⟨_, rfl, fun K hK => ?_⟩
  go_wp2_with fail
  have M2 := HM1.out.ext X2
  have hlone := Lone.of (M := w1.heap.size) HM1.out.rows (Nat.le_refl _) (fun k hk => (hy.lt k hk).1)
  refine (push_any M2 (hy.low (Nat.le_trans hlw hs1)) hlone (by simp; omega)).mono ?_
  rintro e w3 ⟨rfl, ⟨sv3, M3⟩, st3, fr3⟩
  have SC3 : SC (fun a => a.block = rb) w1 w3 := SC2.go (fun a ha => by
    have hrm := ownsRow.not (hr.kept (row := none) ⟨X2.os, X2.tape, X2.output, X2.size, fun k hk _ => X2.block hk⟩ (by simp [Value.ownBlock])) M2.box (by decide)
    rw [ha]
    exact fr3 rb (by have := X2.size; omega) (fun e => hrm (by rw [e]; rfl)) (fun e => by have := hsv1 rb e; omega))
  go_wp2_with fail
  refine hK _ _ (.inr (SC3)) ?_
  clear hK K
  refine wpStagesS_nil ?_
  go_wp2
  go_end0
  exact ⟨rfl, ⟨sv3, _, M3⟩, HS1.out.trans ((X2.step (Nat.le_trans hlw hs1)).trans st3)⟩
set_option maxRecDepth 100000 in
set_option maxHeartbeats 3200000 in
theorem binary_any {lo lo2 : Nat} {w : World} {mb n : Nat} {pu tu : Value} {tm lg : Int} {sv lv : Value} {vs us : List Value} {S L : List (List Int)} (M : Mach lo lo2 w mb n pu tu tm lg sv lv vs us S L) (q m : Nat) (op : Int) (hop : opsOk op) (hq : q + 2 = S.length) (hS : S.length ≤ 1000)
    (hg : ∀ r ∈ S, good m r) (hm : m ≤ 64) :
    Calls Tryz.prog 96 #[.pointer (some ⟨mb, 0, none⟩), .int .i64 op] w fun e w' => e = .returned (.tuple #[]) ∧ (∃ sv' vs', Mach lo lo2 w' mb n pu tu tm lg sv' lv vs' us (S.take q ++ [List.zipWith (arithI op) (S.getD q []) (S.getD (q + 1) [])]) L) ∧ Step lo w w' := by
  have hvl := M.sl
  obtain ⟨x, x', hx1, hx2⟩ := snoc2_drop vs q (by omega)
  obtain ⟨xs, ys, hs1, hs2⟩ := snoc2_drop S q hq
  have hR := Rws.left M.sl M.rows
  have hown : OwnInts lo w x xs := by
    have := (hR.drop q).own 0 x xs (by rw [hx1]; rfl) (by rw [hs1]; rfl)
    exact this
  have hown' : OwnInts lo w x' ys := by
    have := (hR.drop q).own 1 x' ys (by rw [hx1]; rfl) (by rw [hs1]; rfl)
    exact this
  have hxs : S.getD q [] = xs := by
    have h1 : S[q]? = (S.drop q)[0]? := by rw [List.getElem?_drop, Nat.add_zero]
    rw [List.getD, h1, hs1]
    rfl
  have hys : S.getD (q + 1) [] = ys := by
    have h1 : S[q + 1]? = (S.drop q)[1]? := by rw [List.getElem?_drop]
    rw [List.getD, h1, hs1]
    rfl
  rw [hxs, hys]
  obtain ⟨g1, g2⟩ := hg xs (by rw [hs2]; simp)
  obtain ⟨g3, g4⟩ := hg ys (by rw [hs2]; simp)
  replace g1 := hid g1
  replace g3 := hid g3
  replace hxs := hid hxs
  replace hys := hid hys
  obtain ⟨zs, hzs⟩ : ∃ zs, List.zipWith (arithI op) xs ys = zs := ⟨_, rfl⟩
  rw [hzs]
  replace hzs := hid hzs
  have HM := hid M
  have HO := hid hown
  have HO' := hid hown'
  have hx1' := hid hx1
  have hlw : lo ≤ w.heap.size := Nat.le_trans M.hl M.hl2
  clear M hown hown' hR hx1 hx2 hs1 hs2
  go_enter Tryz.func96, Tryz.ntmps96
  go_wp2_with fail
  refine (pop_any HM.out 2 q (by omega) (by omega) (by omega)).mono ?_
  rintro e w1 ⟨r, rfl, hr, ⟨sv1, M1, hsv0⟩, st1, fr1⟩
  have hsv1 : ∀ k, sv1.ownBlock = some k → k < w.heap.size := fun k hk => (World.ownsRow.lt HM.out.so k (hsv0 ▸ hk)).2
  clear hsv0
  obtain ⟨rb, rc, rfl, hrb1, hrb2⟩ := ownsRow.form1 hr (by omega)
  rw [hx1'.out] at hr
  have r0 := World.ownsRow.cellAt hr 0 (by omega)
  have r1 := World.ownsRow.cellAt hr 1 (by omega)
  simp at r0 r1
  obtain ⟨xa, xc, rfl, _⟩ := HO.out.form
  obtain ⟨ya', yc', rfl, _⟩ := HO'.out.form
  have HM1 := hid M1
  have HX1 := hid ((HO.out.keepI st1.keep))
  have hu := hid (HX1.out.ints.wide (Nat.zero_le _) (Nat.le_refl _))
  have hu' := hid ((HO'.out.keepI st1.keep).ints.wide (Nat.zero_le _) (Nat.le_refl _))
  have HS1 := hid st1
  have HF1 := hid fr1
  have hs1 := st1.size
  clear HM M1 st1 fr1
  go_wp2_with fail
  refine wp_region_stagesS [([0, 1, 2, 3, 4, 5, 6, 7], 8), ([], 9)] 99 (fun w' => ∃ d, w' = lowc (fun a => a.block = rb) _ d) (by kernel_rfl) (by kernel_rfl) (SC.drew _ _) ?_
  refine wpStagesS_cons ?_
  simp only [List.filterMap_cons, List.filterMap_nil, List.getElem?_toArray, List.getElem?_cons_zero, List.getElem?_cons_succ]
  show wpQuiet _ _ _ _ [_, _, _, _, _, _, _, _] _
  repeat (go_big_quiet_step (fail))
  refine wpQuiet_nil ⟨_, rfl, fun K hK => ?_⟩
  go_wp2_with fail
  refine (iCombined_any 0 w1.heap.size 0 w1.heap.size _ _ op xs ys _ hop (hu.out.ext (Nat.le_refl _) (Ext.drew (Ext.refl _))) (Nat.le_refl _) (hu'.out.ext (Nat.le_refl _) (Ext.drew (Ext.refl _))) (Nat.le_refl _) (by rw [g1.out, g3.out]) (by rw [g3.out]; omega) g2 g4).mono ?_
  rintro e w2 ⟨y, rfl, hy, x2⟩
  rw [hzs.out] at hy
  obtain ⟨ya, yc, rfl, _⟩ := hy.form
  have X2 : Ext w1 w2 := Ext.trans (Ext.drew (Ext.refl _)) x2
  have SC2 : SC (fun a => a.block = rb) w1 w2 := SC.blocks (fun a ha => by rw [ha]; exact X2.block hrb2)
  go_wp2_with fail
  refine hK _ _ (.inr (SC2)) ?_
  clear hK K
  refine wpStagesS_cons ?_
  simp only [List.filterMap_nil]
  show wpQuiet _ _ _ _ [] _
  try simp only [Act.put, List.setIfInBounds_toArray, List.set_cons_succ, List.set_cons_zero]
  repeat (go_big_quiet_step (fail))
  refine wpQuiet_nil ⟨_, rfl, fun K hK => ?_⟩
  go_wp2_with fail
  have M2 := HM1.out.ext X2
  have hlone := Lone.of (M := w1.heap.size) HM1.out.rows (Nat.le_refl _) (fun k hk => (hy.lt k hk).1)
  refine (push_any M2 (hy.low (Nat.le_trans hlw hs1)) hlone (by simp; omega)).mono ?_
  rintro e w3 ⟨rfl, ⟨sv3, M3⟩, st3, fr3⟩
  have SC3 : SC (fun a => a.block = rb) w1 w3 := SC2.go (fun a ha => by
    have hrm := ownsRow.not (hr.kept (row := none) ⟨X2.os, X2.tape, X2.output, X2.size, fun k hk _ => X2.block hk⟩ (by simp [Value.ownBlock])) M2.box (by decide)
    rw [ha]
    exact fr3 rb (by have := X2.size; omega) (fun e => hrm (by rw [e]; rfl)) (fun e => by have := hsv1 rb e; omega))
  go_wp2_with fail
  refine hK _ _ (.inr (SC3)) ?_
  clear hK K
  refine wpStagesS_nil ?_
  go_wp2
  go_end0
  exact ⟨rfl, ⟨sv3, _, M3⟩, HS1.out.trans ((X2.step (Nat.le_trans hlw hs1)).trans st3)⟩
end Go.Proofs.YtaegmenjgjdimaaGreat
end

section
/- This text proves the instructions of the grid's machine. -/
namespace Go.Proofs.YtaegmenjgjdimaaGreat
open Go.RowKit

/-- the cells that the instructions read ahead of their effects: the box xb of the instruction, the machine's grid and locals in block mb -/
def CMx (mb xb : Nat) : Addr → Prop := fun a => a.block = xb ∨ a = ⟨mb, 0, none⟩ ∨ a = ⟨mb, 1, none⟩ ∨ a = ⟨mb, 2, none⟩ ∨ a = ⟨mb, 3, none⟩ ∨ a = ⟨mb, 4, none⟩ ∨ a = ⟨mb, 6, none⟩
@[go_sem] theorem CMx_x (mb xb o : Nat) : CMx mb xb ⟨xb, o, none⟩ := .inl rfl
@[go_sem] theorem CMx_0 (mb xb : Nat) : CMx mb xb ⟨mb, 0, none⟩ := .inr (.inl rfl)
@[go_sem] theorem CMx_1 (mb xb : Nat) : CMx mb xb ⟨mb, 1, none⟩ := .inr (.inr (.inl rfl))
@[go_sem] theorem CMx_2 (mb xb : Nat) : CMx mb xb ⟨mb, 2, none⟩ := .inr (.inr (.inr (.inl rfl)))
@[go_sem] theorem CMx_3 (mb xb : Nat) : CMx mb xb ⟨mb, 3, none⟩ := .inr (.inr (.inr (.inr (.inl rfl))))
@[go_sem] theorem CMx_4 (mb xb : Nat) : CMx mb xb ⟨mb, 4, none⟩ := .inr (.inr (.inr (.inr (.inr (.inl rfl)))))
@[go_sem] theorem CMx_6 (mb xb : Nat) : CMx mb xb ⟨mb, 6, none⟩ := .inr (.inr (.inr (.inr (.inr (.inr rfl)))))
theorem CMx_of {lo lo2 : Nat} {w w' : World} {mb n xb : Nat} {pu tu : Value} {tm lg : Int} {sv sv' lv : Value} {vs us vs' us' : List Value} {S L S' L' : List (List Int)} (M : Mach lo lo2 w mb n pu tu tm lg sv lv vs us S L) (M' : Mach lo lo2 w' mb n pu tu tm lg sv' lv vs' us' S' L')
    (hx : w'.heap[xb]? = w.heap[xb]?) : SC (CMx mb xb) w w' := SC.of fun a ha => by
  rcases ha with ha | ha | ha | ha | ha | ha | ha
  · have h : w'.heap[a.block]? = w.heap[a.block]? := by rw [ha]; exact hx
    exact ⟨World.cell?_of_block h, World.frozen?_of_block h⟩
  all_goals
    subst ha
    rw [cell_of_cells M.box, cell_of_cells M'.box, frozen_of_cells M.box, frozen_of_cells M'.box]
    exact ⟨rfl, rfl⟩
/-- the grid that the machine works on: it lies below lo -/
structure GridIn (lo : Nat) (w : World) (n m : Nat) (pu tu : Value) (f : Nat → Int) (tm : Int) (t : Tex) : Prop where
  flats : Flats 5 0 lo w pu m f
  tex : TexR 0 lo w (.agg #[.int .i64 t.log, tu]) t
  hm : n * n = m
  h1 : 1 ≤ n
  h8 : n ≤ 8
  ok : t.okB = true
  tm9 : S9 tm
  f9 : ∀ i, i < m * 5 → S9 (f i)
theorem GridIn.step {lo : Nat} {w w' : World} {n m : Nat} {pu tu : Value} {f : Nat → Int} {tm : Int} {t : Tex} (h : GridIn lo w n m pu tu f tm t) (s : Below lo w w') : GridIn lo w' n m pu tu f tm t := by
  have e : Same 0 lo w w' := fun b _ hb => s.block b hb
  exact ⟨h.flats.same e, h.tex.same e, h.hm, h.h1, h.h8, h.ok, h.tm9, h.f9⟩
theorem GridIn.hmi {lo : Nat} {w : World} {n m : Nat} {pu tu : Value} {f : Nat → Int} {tm : Int} {t : Tex} (h : GridIn lo w n m pu tu f tm t) : (n : Int) * n = m ∧ 1 ≤ m ∧ m ≤ 64 := by
  have h1 := h.h1
  have h8 := h.h8
  have h2 : n * n ≤ 8 * 8 := Nat.mul_le_mul h8 h8
  have h3 : 1 * 1 ≤ n * n := Nat.mul_le_mul h1 h1
  have := h.hm
  refine ⟨by rw [← h.hm]; simp, by omega, by omega⟩
theorem ownsRow.ss {w : World} {lo lo' p : Nat} {v : Value} {vs : List Value} {S : List (List Int)} (h : w.ownsRow lo 29 1 v p vs) (hr : Rws lo' w vs S) : SS 0 w.heap.size w v S := by
  have hl := hr.len
  have hp : p = S.length := by have := h.1; omega
  subst hp
  rcases h.2 with ⟨rfl, h4⟩ | ⟨g, cap, cur, rfl, hb, hg, hc, hm, hs, ht⟩
  · refine ⟨none, 0, by rw [h4], by omega, by unfold maxLen; omega, fun i xs hx => ?_⟩
    have := (List.getElem?_eq_some_iff.1 hx).1
    omega
  · refine ⟨some ⟨g, 0, none⟩, cap, rfl, hc, hm, fun i xs hx => ?_⟩
    have hi := (List.getElem?_eq_some_iff.1 hx).1
    obtain ⟨v, hv⟩ : ∃ v, vs[i]? = some v := ⟨vs[i]'(by omega), by simp [show i < vs.length by omega]⟩
    refine ⟨g, 0, v, rfl, Nat.zero_le _, (Array.getElem?_eq_some_iff.1 hg).1, ?_, (hr.own i _ xs hv hx).ints.wide (Nat.zero_le _) (Nat.le_refl _)⟩
    have e := hv
    rw [← ht, List.getElem?_take, if_pos (by omega)] at e
    simp only [World.cell?, hg, Nat.zero_add]
    rw [← Array.getElem?_toList]
    exact e
set_option maxRecDepth 100000 in
set_option maxHeartbeats 3200000 in
theorem exec1 {lo lo2 : Nat} {w : World} {mb n m : Nat} {pu tu : Value} {f : Nat → Int} {tm : Int} {t : Tex} {sv lv : Value} {vs us : List Value} {S L : List (List Int)} (M : Mach lo lo2 w mb n pu tu tm t.log sv lv vs us S L) (G : GridIn lo w n m pu tu f tm t) (s : ByteArray) (num : Int) (hn : I64 num) (hS : S.length ≤ 1000)
    (zs : List Int) (hz : List.replicate m num = zs) :
    Calls Tryz.prog 60 #[.pointer (some ⟨mb, 0, none⟩), .agg #[.int .i64 1, .string s, .int .i64 num]] w fun e w' => e = .returned (.tuple #[]) ∧ (∃ sv' vs', Mach lo lo2 w' mb n pu tu tm t.log sv' lv vs' us (S ++ [zs]) L) ∧ Step lo w w' := by
  obtain ⟨q1, q2, q3⟩ := G.hmi
  have hb := M.lt
  have hvl := M.sl
  have c0 := cell_of_cells M.box 0
  have c1 := cell_of_cells M.box 1
  have c2 := cell_of_cells M.box 2
  have c3 := cell_of_cells M.box 3
  have c4 := cell_of_cells M.box 4
  simp at c0 c1 c2 c3 c4
  have hlw : lo ≤ w.heap.size := Nat.le_trans M.hl M.hl2
  have hsv := World.ownsRow.lt M.so
  have x0 : Ext w (w.alloc (.cells #[.int .i64 1, .string s, .int .i64 num] 81)) := (by repeat (with_reducible (first | assumption | exact Ext.refl _ | apply Ext.alloc | apply Ext.drew | apply Ext.drewN)))
  have HM := hid (M.ext x0)
  have hxb : w.heap.size < (w.alloc (.cells #[.int .i64 1, .string s, .int .i64 num] 81)).heap.size := by simp
  replace hz := hid hz
  clear M G
  go_enter Tryz.func60, Tryz.ntmps60
  go_wp2_with fail
  refine wp_region_stagesS [([0, 1, 2, 3, 4, 5, 6], 7), ([], 8)] 99 (fun w' => ∃ d, w' = lowc (CMx mb w.heap.size) _ d) (by kernel_rfl) (by kernel_rfl) (SC.drew _ _) ?_
  refine wpStagesS_cons ?_
  simp only [List.filterMap_cons, List.filterMap_nil, List.getElem?_toArray, List.getElem?_cons_zero, List.getElem?_cons_succ]
  show wpQuiet _ _ _ _ [_, _, _, _, _, _, _] _
  repeat (go_big_quiet_step (fail))
  refine wpQuiet_nil ⟨_, rfl, fun K hK => ?_⟩
  go_wp2_with fail
  refine (iConstant_any num n m _ _ _ _ _ q1 (by omega) hn).mono ?_
  rintro e w2 ⟨y, rfl, hy, x2⟩
  rw [hz.out] at hy
  obtain ⟨ya, yc, rfl, _⟩ := hy.form
  have X2 : Ext (w.alloc (.cells #[.int .i64 1, .string s, .int .i64 num] 81)) w2 := Ext.trans (Ext.drew (Ext.refl _)) x2
  have M2 := HM.out.ext X2
  have SC2 := CMx_of HM.out M2 (X2.block hxb)
  go_wp2_with fail
  refine hK _ _ (.inr (SC2)) ?_
  clear hK K
  refine wpStagesS_cons ?_
  simp only [List.filterMap_nil]
  show wpQuiet _ _ _ _ [] _
  try simp only [Act.put, List.setIfInBounds_toArray, List.set_cons_succ, List.set_cons_zero]
  repeat (go_big_quiet_step (fail))
  refine wpQuiet_nil ⟨_, rfl, fun K hK => ?_⟩
  go_wp2_with fail
  have hlone := Lone.of (M := (w.alloc (.cells #[.int .i64 1, .string s, .int .i64 num] 81)).heap.size) HM.out.rows (Nat.le_refl _) (fun k hk => (hy.lt k hk).1)
  refine (push_any M2 (hy.low (by have := x0.size; simp; omega)) hlone (by omega)).mono ?_
  rintro e w3 ⟨rfl, ⟨sv3, M3⟩, st3, fr3⟩
  have SC3 := CMx_of HM.out M3 ((fr3 w.heap.size (by have := X2.size; omega) (by omega) (fun e => by have := (hsv _ e).2; omega)).trans (X2.block hxb))
  go_wp2_with fail
  refine hK _ _ (.inr (SC3)) ?_
  clear hK K
  refine wpStagesS_nil ?_
  go_wp2
  go_end0
  exact ⟨rfl, ⟨sv3, _, M3⟩, ((x0.trans X2).step hlw).trans st3⟩
set_option maxRecDepth 100000 in
set_option maxHeartbeats 3200000 in
theorem exec2 {lo lo2 : Nat} {w : World} {mb n m : Nat} {pu tu : Value} {f : Nat → Int} {tm : Int} {t : Tex} {sv lv : Value} {vs us : List Value} {S L : List (List Int)} (M : Mach lo lo2 w mb n pu tu tm t.log sv lv vs us S L) (G : GridIn lo w n m pu tu f tm t) (s : ByteArray) (num : Int) (hS : S.length ≤ 1000)
    (zs : List Int) (hz : (List.range m).map (varL s.toList f tm) = zs) :
    Calls Tryz.prog 60 #[.pointer (some ⟨mb, 0, none⟩), .agg #[.int .i64 2, .string s, .int .i64 num]] w fun e w' => e = .returned (.tuple #[]) ∧ (∃ sv' vs', Mach lo lo2 w' mb n pu tu tm t.log sv' lv vs' us (S ++ [zs]) L) ∧ Step lo w w' := by
  obtain ⟨q1, q2, q3⟩ := G.hmi
  have hb := M.lt
  have hvl := M.sl
  have c0 := cell_of_cells M.box 0
  have c1 := cell_of_cells M.box 1
  have c2 := cell_of_cells M.box 2
  have c3 := cell_of_cells M.box 3
  have c4 := cell_of_cells M.box 4
  simp at c0 c1 c2 c3 c4
  have hlw : lo ≤ w.heap.size := Nat.le_trans M.hl M.hl2
  have hsv := World.ownsRow.lt M.so
  have x0 : Ext w (w.alloc (.cells #[.int .i64 2, .string s, .int .i64 num] 81)) := (by repeat (with_reducible (first | assumption | exact Ext.refl _ | apply Ext.alloc | apply Ext.drew | apply Ext.drewN)))
  have HM := hid (M.ext x0)
  have hxb : w.heap.size < (w.alloc (.cells #[.int .i64 2, .string s, .int .i64 num] 81)).heap.size := by simp
  replace hz := hid hz
  have HF := hid (G.flats.ext hlw x0)
  have t9 := G.tm9.i64
  clear M G
  go_enter Tryz.func60, Tryz.ntmps60
  go_wp2_with fail
  refine wp_region_stagesS [([0, 1, 2, 3, 4, 5, 6], 7), ([], 8)] 99 (fun w' => ∃ d, w' = lowc (CMx mb w.heap.size) _ d) (by kernel_rfl) (by kernel_rfl) (SC.drew _ _) ?_
  refine wpStagesS_cons ?_
  simp only [List.filterMap_cons, List.filterMap_nil, List.getElem?_toArray, List.getElem?_cons_zero, List.getElem?_cons_succ]
  show wpQuiet _ _ _ _ [_, _, _, _, _, _, _] _
  repeat (go_big_quiet_step (fail))
  refine wpQuiet_nil ⟨_, rfl, fun K hK => ?_⟩
  go_wp2_with fail
  refine (iLoaded_any s 0 lo n m _ _ f tm _ _ (HF.out.ext (Nat.le_trans hlw x0.size) (Ext.drew (Ext.refl _))) (Nat.le_trans hlw x0.size) q1 q3 t9).mono ?_
  rintro e w2 ⟨y, rfl, hy, x2⟩
  rw [hz.out] at hy
  obtain ⟨ya, yc, rfl, _⟩ := hy.form
  have X2 : Ext (w.alloc (.cells #[.int .i64 2, .string s, .int .i64 num] 81)) w2 := Ext.trans (Ext.drew (Ext.refl _)) x2
  have M2 := HM.out.ext X2
  have SC2 := CMx_of HM.out M2 (X2.block hxb)
  go_wp2_with fail
  refine hK _ _ (.inr (SC2)) ?_
  clear hK K
  refine wpStagesS_cons ?_
  simp only [List.filterMap_nil]
  show wpQuiet _ _ _ _ [] _
  try simp only [Act.put, List.setIfInBounds_toArray, List.set_cons_succ, List.set_cons_zero]
  repeat (go_big_quiet_step (fail))
  refine wpQuiet_nil ⟨_, rfl, fun K hK => ?_⟩
  go_wp2_with fail
  have hlone := Lone.of (M := (w.alloc (.cells #[.int .i64 2, .string s, .int .i64 num] 81)).heap.size) HM.out.rows (Nat.le_refl _) (fun k hk => (hy.lt k hk).1)
  refine (push_any M2 (hy.low (by have := x0.size; simp; omega)) hlone (by omega)).mono ?_
  rintro e w3 ⟨rfl, ⟨sv3, M3⟩, st3, fr3⟩
  have SC3 := CMx_of HM.out M3 ((fr3 w.heap.size (by have := X2.size; omega) (by omega) (fun e => by have := (hsv _ e).2; omega)).trans (X2.block hxb))
  go_wp2_with fail
  refine hK _ _ (.inr (SC3)) ?_
  clear hK K
  refine wpStagesS_nil ?_
  go_wp2
  go_end0
  exact ⟨rfl, ⟨sv3, _, M3⟩, ((x0.trans X2).step hlw).trans st3⟩
set_option maxRecDepth 100000 in
set_option maxHeartbeats 3200000 in
theorem exec7 {lo lo2 : Nat} {w : World} {mb n m : Nat} {pu tu : Value} {f : Nat → Int} {tm : Int} {t : Tex} {sv lv : Value} {vs us : List Value} {S L : List (List Int)} (M : Mach lo lo2 w mb n pu tu tm t.log sv lv vs us S L) (G : GridIn lo w n m pu tu f tm t) (s : ByteArray) (num : Int) (hS : S.length ≤ 1000)
    (zs : List Int) (p q : Nat) (hp : arity s = p) (hp1 : 1 ≤ p) (hq : q + p = S.length) (hg : ∀ r ∈ S, good m r) (hz : callRow n m t s.toList (S.drop q) = zs) :
    Calls Tryz.prog 60 #[.pointer (some ⟨mb, 0, none⟩), .agg #[.int .i64 7, .string s, .int .i64 num]] w fun e w' => e = .returned (.tuple #[]) ∧ (∃ sv' vs', Mach lo lo2 w' mb n pu tu tm t.log sv' lv vs' us (S.take q ++ [zs]) L) ∧ Step lo w w' := by
  obtain ⟨q1, q2, q3⟩ := G.hmi
  have hb := M.lt
  have hvl := M.sl
  have c0 := cell_of_cells M.box 0
  have c1 := cell_of_cells M.box 1
  have c2 := cell_of_cells M.box 2
  have c3 := cell_of_cells M.box 3
  have c4 := cell_of_cells M.box 4
  simp at c0 c1 c2 c3 c4
  have hlw : lo ≤ w.heap.size := Nat.le_trans M.hl M.hl2
  have hsv := World.ownsRow.lt M.so
  have x0 : Ext w (w.alloc (.cells #[.int .i64 7, .string s, .int .i64 num] 81)) := (by repeat (with_reducible (first | assumption | exact Ext.refl _ | apply Ext.alloc | apply Ext.drew | apply Ext.drewN)))
  have HM := hid (M.ext x0)
  have hxb : w.heap.size < (w.alloc (.cells #[.int .i64 7, .string s, .int .i64 num] 81)).heap.size := by simp
  replace hz := hid hz
  have HG := hid (G.step (x0.step hlw).below)
  have hg2 : ∀ r ∈ S.drop q, good m r := fun r hr => hg r (List.mem_of_mem_drop hr)
  have hdl : (S.drop q).length = p := by simp; omega
  replace hp := hid hp
  replace hg := hid hg
  replace hg2 := hid hg2
  replace hdl := hid hdl
  clear M G
  go_enter Tryz.func60, Tryz.ntmps60
  go_wp2_with fail
  refine wp_region_stagesS [([0, 1, 2, 3, 4, 5, 6, 7, 8, 9], 10), ([], 11), ([], 12), ([], 13)] 99 (fun w' => ∃ d, w' = lowc (CMx mb w.heap.size) _ d) (by kernel_rfl) (by kernel_rfl) (SC.drew _ _) ?_
  refine wpStagesS_cons ?_
  simp only [List.filterMap_cons, List.filterMap_nil, List.getElem?_toArray, List.getElem?_cons_zero, List.getElem?_cons_succ]
  show wpQuiet _ _ _ _ [_, _, _, _, _, _, _, _, _, _] _
  repeat (go_big_quiet_step (fail))
  refine wpQuiet_nil ⟨_, rfl, fun K hK => ?_⟩
  go_wp2_with fail
  refine (iArity_val hp.out _).mono ?_
  rintro e w1 ⟨rfl, rfl⟩
  have X1 : Ext (w.alloc (.cells #[.int .i64 7, .string s, .int .i64 num] 81)) (w.alloc (.cells #[.int .i64 7, .string s, .int .i64 num] 81)).drew := Ext.drew (Ext.refl _)
  have M1 := HM.out.ext X1
  have SC1 := CMx_of HM.out M1 (X1.block hxb)
  go_wp2_with fail
  refine hK _ _ (.inr (SC1)) ?_
  clear hK K
  refine wpStagesS_cons ?_
  simp only [List.filterMap_nil]
  show wpQuiet _ _ _ _ [] _
  try simp only [Act.put, List.setIfInBounds_toArray, List.set_cons_succ, List.set_cons_zero]
  repeat (go_big_quiet_step (fail))
  refine wpQuiet_nil ⟨_, rfl, fun K hK => ?_⟩
  go_wp2_with fail
  refine (pop_any M1 p q hp1 (by omega) (by omega)).mono ?_
  rintro e w2 ⟨r, rfl, hr, ⟨sv2, M2, hsv2⟩, st2, fr2⟩
  obtain ⟨ra, rc, rfl⟩ := ownsRow.form hr
  have SC2 := CMx_of HM.out M2 ((fr2 w.heap.size (by have := X1.size; omega) (by omega)).trans (X1.block hxb))
  have HR := hid hr
  go_wp2_with fail
  refine hK _ _ (.inr (SC2)) ?_
  clear hK K
  refine wpStagesS_cons ?_
  simp only [List.filterMap_nil]
  show wpQuiet _ _ _ _ [] _
  try simp only [Act.put, List.setIfInBounds_toArray, List.set_cons_succ, List.set_cons_zero]
  repeat (go_big_quiet_step (fail))
  refine wpQuiet_nil ⟨_, rfl, fun K hK => ?_⟩
  go_wp2_with fail
  have G2 := HG.out.step ((X1.step (by simp; omega)).trans st2).below
  have hs2 := st2.size
  have hs1 := X1.size
  have hs0 := x0.size
  have hSS : SS 0 w2.heap.size w2 (.slice ra p rc) (S.drop q) := by
    have hrw := ((Rws.left M1.sl M1.rows).drop q).keepI st2.keep
    exact ownsRow.ss HR.out hrw
  refine (iCalled_any s (S.drop q) 0 w2.heap.size 0 lo n m _ _ _ tm t w2 (by rw [hp.out]; omega) (by rw [hdl.out, hp.out]) G2.ok hSS (Nat.le_refl _) G2.tex (by omega) hg2.out G2.hm G2.h1 G2.h8).mono ?_
  rintro e w3 ⟨y, rfl, hy, x3⟩
  rw [hz.out] at hy
  obtain ⟨ya, yc, rfl, _⟩ := hy.form
  have M3 := M2.ext x3
  have f2 := (fr2 w.heap.size (by omega) (by omega)).trans (X1.block hxb)
  have f3 := (x3.block (by omega)).trans f2
  have SC3 := CMx_of HM.out M3 f3
  go_wp2_with fail
  refine hK _ _ (.inr (SC3)) ?_
  clear hK K
  refine wpStagesS_cons ?_
  simp only [List.filterMap_nil]
  show wpQuiet _ _ _ _ [] _
  try simp only [Act.put, List.setIfInBounds_toArray, List.set_cons_succ, List.set_cons_zero]
  repeat (go_big_quiet_step (fail))
  refine wpQuiet_nil ⟨_, rfl, fun K hK => ?_⟩
  go_wp2_with fail
  have hlone := Lone.of (M := w2.heap.size) M2.rows (Nat.le_refl _) (fun k hk => (hy.lt k hk).1)
  refine (push_any M3 (hy.low (by omega)) hlone (by simp; omega)).mono ?_
  rintro e w4 ⟨rfl, ⟨sv4, M4⟩, st4, fr4⟩
  have hs3 := x3.size
  have SC4 := CMx_of HM.out M4 ((fr4 w.heap.size (by omega) (by omega) (fun e => by have := (hsv _ (hsv2 ▸ e)).2; omega)).trans f3)
  go_wp2_with fail
  refine hK _ _ (.inr (SC4)) ?_
  clear hK K
  refine wpStagesS_nil ?_
  go_wp2
  go_end0
  exact ⟨rfl, ⟨sv4, _, M4⟩, (((x0.trans X1).step hlw).trans st2).trans ((x3.step (by omega)).trans st4)⟩
end Go.Proofs.YtaegmenjgjdimaaGreat
end

section
/- This text proves the other instructions of the grid's machine: local, store, unary, binary. -/
namespace Go.Proofs.YtaegmenjgjdimaaGreat
open Go.RowKit

def CMl (mb xb lb : Nat) : Addr → Prop := fun a => a.block = lb ∨ CMx mb xb a
@[go_sem] theorem CMl_l (mb xb lb o : Nat) : CMl mb xb lb ⟨lb, o, none⟩ := .inl rfl
@[go_sem] theorem CMl_x (mb xb lb o : Nat) : CMl mb xb lb ⟨xb, o, none⟩ := .inr (CMx_x _ _ _)
@[go_sem] theorem CMl_6 (mb xb lb : Nat) : CMl mb xb lb ⟨mb, 6, none⟩ := .inr (CMx_6 _ _)
theorem CMl_of {mb xb lb : Nat} {w w' : World} (h : SC (CMx mb xb) w w') (hl : w'.heap[lb]? = w.heap[lb]?) : SC (CMl mb xb lb) w w' := SC.of fun a ha => by
  rcases ha with ha | ha
  · have h : w'.heap[a.block]? = w.heap[a.block]? := by rw [ha]; exact hl
    exact ⟨World.cell?_of_block h, World.frozen?_of_block h⟩
  · exact h.get a ha
set_option maxRecDepth 100000 in
set_option maxHeartbeats 3200000 in
theorem exec3 {lo lo2 : Nat} {w : World} {mb n m : Nat} {pu tu : Value} {tm lg : Int} {sv lv : Value} {vs us : List Value} {S L : List (List Int)} (M : Mach lo lo2 w mb n pu tu tm lg sv lv vs us S L) (s : ByteArray) (j : Nat) (xs : List Int) (hx : L[j]? = some xs) (h1 : 1 ≤ xs.length) (h2 : xs.length ≤ 64) (hS : S.length ≤ 1000) :
    Calls Tryz.prog 60 #[.pointer (some ⟨mb, 0, none⟩), .agg #[.int .i64 3, .string s, .int .i64 j]] w fun e w' => e = .returned (.tuple #[]) ∧ (∃ sv' vs', Mach lo lo2 w' mb n pu tu tm lg sv' lv vs' us (S ++ [xs]) L) ∧ Step lo w w' := by
  have hR := Rws.right M.sl M.rows
  have hjL := (List.getElem?_eq_some_iff.1 hx).1
  have hul := hR.len
  have hju : j < us.length := by omega
  obtain ⟨v, hv⟩ : ∃ v, us[j]? = some v := ⟨us[j], by simp [hju]⟩
  have hown := hR.own j v xs hv hx
  obtain ⟨va, vc, rfl, _⟩ := hown.form
  obtain ⟨lb, lc, rfl, hlb1, hlb2⟩ := ownsRow.form1 M.lo' (by omega)
  obtain ⟨k1, k2⟩ := ownsRow.caps M.lo'
  have hbl := M.sep lb rfl
  have hvl := M.sl
  have hb := M.lt
  have c6 := cell_of_cells M.box 6
  simp at c6
  have r0 := World.ownsRow.cellAt M.lo' j (by omega)
  rw [hv] at r0
  have hlw : lo ≤ w.heap.size := Nat.le_trans M.hl M.hl2
  have hsv := World.ownsRow.lt M.so
  have hsl := M.so
  have hbm : lb ≠ mb := fun e => by
    have := ownsRow.not M.lo' M.box (by decide)
    exact this (by rw [← e]; rfl)
  have x0 : Ext w (w.alloc (.cells #[.int .i64 3, .string s, .int .i64 j] 81)) := (by repeat (with_reducible (first | assumption | exact Ext.refl _ | apply Ext.alloc | apply Ext.drew | apply Ext.drewN)))
  have HM := hid (M.ext x0)
  have HO := hid (hown.ints.ext (Nat.le_refl _) x0)
  have hxb : w.heap.size < (w.alloc (.cells #[.int .i64 3, .string s, .int .i64 j] 81)).heap.size := by simp
  have hlo2 := M.hl2
  clear M hown hv hx hR hsl
  go_enter Tryz.func60, Tryz.ntmps60
  go_wp2_with fail
  refine wp_region_stagesS [([0, 1, 2, 3, 4, 5, 6, 7, 8], 9), ([], 10)] 99 (fun w' => ∃ d, w' = lowc (CMl mb w.heap.size lb) _ d) (by kernel_rfl) (by kernel_rfl) (SC.drew _ _) ?_
  refine wpStagesS_cons ?_
  simp only [List.filterMap_cons, List.filterMap_nil, List.getElem?_toArray, List.getElem?_cons_zero, List.getElem?_cons_succ]
  show wpQuiet _ _ _ _ [_, _, _, _, _, _, _, _, _] _
  repeat (go_big_quiet_step (fail))
  refine wpQuiet_nil ⟨_, rfl, fun K hK => ?_⟩
  go_wp2_with fail
  refine (cloneInts2_any lo w.heap.size _ xs _ (HO.out.ext (Nat.le_of_lt hxb) (Ext.drew (Ext.refl _))) (Nat.le_of_lt hxb) h1 (by omega)).mono ?_
  rintro e w2 ⟨y, rfl, hy, x2⟩
  obtain ⟨ya, yc, rfl, _⟩ := hy.form
  have X2 : Ext (w.alloc (.cells #[.int .i64 3, .string s, .int .i64 j] 81)) w2 := Ext.trans (Ext.drew (Ext.refl _)) x2
  have M2 := HM.out.ext X2
  have SC2 := CMl_of (CMx_of HM.out M2 (X2.block hxb)) (X2.block (k := lb) (by omega))
  go_wp2_with fail
  refine hK _ _ (.inr (SC2)) ?_
  clear hK K
  refine wpStagesS_cons ?_
  simp only [List.filterMap_nil]
  show wpQuiet _ _ _ _ [] _
  try simp only [Act.put, List.setIfInBounds_toArray, List.set_cons_succ, List.set_cons_zero]
  repeat (go_big_quiet_step (fail))
  refine wpQuiet_nil ⟨_, rfl, fun K hK => ?_⟩
  go_wp2_with fail
  have hlone := Lone.of (M := (w.alloc (.cells #[.int .i64 3, .string s, .int .i64 j] 81)).heap.size) HM.out.rows (Nat.le_refl _) (fun k hk => (hy.lt k hk).1)
  refine (push_any M2 (hy.low (by have := x0.size; simp; omega)) hlone (by omega)).mono ?_
  rintro e w3 ⟨rfl, ⟨sv3, M3⟩, st3, fr3⟩
  have hz2 := X2.size
  have SC3 := CMl_of (CMx_of HM.out M3 ((fr3 w.heap.size (by omega) (by omega) (fun e => by have := (hsv _ e).2; omega)).trans (X2.block hxb))) ((fr3 lb (by omega) hbm (fun e => by have := (hsv _ e).1; omega)).trans (X2.block (k := lb) (by omega)))
  go_wp2_with fail
  refine hK _ _ (.inr (SC3)) ?_
  clear hK K
  refine wpStagesS_nil ?_
  go_wp2
  go_end0
  exact ⟨rfl, ⟨sv3, _, M3⟩, ((x0.trans X2).step hlw).trans st3⟩

set_option maxRecDepth 100000 in
set_option maxHeartbeats 3200000 in
theorem exec5 {lo lo2 : Nat} {w : World} {mb n m : Nat} {pu tu : Value} {tm lg : Int} {sv lv : Value} {vs us : List Value} {S L : List (List Int)} (M : Mach lo lo2 w mb n pu tu tm lg sv lv vs us S L) (s : ByteArray) (q : Nat) (op : Int) (hop : opsOk op) (hq : q + 1 = S.length) (hS : S.length ≤ 1000) (hg : ∀ r ∈ S, good m r) (hm : m ≤ 64) :
    Calls Tryz.prog 60 #[.pointer (some ⟨mb, 0, none⟩), .agg #[.int .i64 5, .string s, .int .i64 op]] w fun e w' => e = .returned (.tuple #[]) ∧ (∃ sv' vs', Mach lo lo2 w' mb n pu tu tm lg sv' lv vs' us (S.take q ++ [List.zipWith (arithI op) (S.getD q []) (S.getD q [])]) L) ∧ Step lo w w' := by
  have hlw : lo ≤ w.heap.size := Nat.le_trans M.hl M.hl2
  have x0 : Ext w (w.alloc (.cells #[.int .i64 5, .string s, .int .i64 op] 81)) := (by repeat (with_reducible (first | assumption | exact Ext.refl _ | apply Ext.alloc | apply Ext.drew | apply Ext.drewN)))
  have HC := hid (unary_any (M.ext x0) q m op hop hq hS hg hm)
  clear M hop hq
  go_enter Tryz.func60, Tryz.ntmps60
  go_wp2_with fail
  refine HC.out.mono ?_
  rintro e w2 ⟨rfl, h1, h2⟩
  go_wp2
  go_end0
  exact ⟨rfl, h1, (x0.step hlw).trans h2⟩
set_option maxRecDepth 100000 in
set_option maxHeartbeats 3200000 in
theorem exec6 {lo lo2 : Nat} {w : World} {mb n m : Nat} {pu tu : Value} {tm lg : Int} {sv lv : Value} {vs us : List Value} {S L : List (List Int)} (M : Mach lo lo2 w mb n pu tu tm lg sv lv vs us S L) (s : ByteArray) (q : Nat) (op : Int) (hop : opsOk op) (hq : q + 2 = S.length) (hS : S.length ≤ 1000) (hg : ∀ r ∈ S, good m r) (hm : m ≤ 64) :
    Calls Tryz.prog 60 #[.pointer (some ⟨mb, 0, none⟩), .agg #[.int .i64 6, .string s, .int .i64 op]] w fun e w' => e = .returned (.tuple #[]) ∧ (∃ sv' vs', Mach lo lo2 w' mb n pu tu tm lg sv' lv vs' us (S.take q ++ [List.zipWith (arithI op) (S.getD q []) (S.getD (q + 1) [])]) L) ∧ Step lo w w' := by
  have hlw : lo ≤ w.heap.size := Nat.le_trans M.hl M.hl2
  have x0 : Ext w (w.alloc (.cells #[.int .i64 6, .string s, .int .i64 op] 81)) := (by repeat (with_reducible (first | assumption | exact Ext.refl _ | apply Ext.alloc | apply Ext.drew | apply Ext.drewN)))
  have HC := hid (binary_any (M.ext x0) q m op hop hq hS hg hm)
  clear M hop hq
  go_enter Tryz.func60, Tryz.ntmps60
  go_wp2_with fail
  refine HC.out.mono ?_
  rintro e w2 ⟨rfl, h1, h2⟩
  go_wp2
  go_end0
  exact ⟨rfl, h1, (x0.step hlw).trans h2⟩
set_option maxRecDepth 100000 in
set_option maxHeartbeats 3200000 in
theorem exec4 {lo lo2 : Nat} {w : World} {mb n : Nat} {pu tu : Value} {tm lg : Int} {sv lv : Value} {vs us : List Value} {S L : List (List Int)} (M : Mach lo lo2 w mb n pu tu tm lg sv lv vs us S L) (s : ByteArray) (j q : Nat) (hj : j < L.length) (hq : q + 1 = S.length) (hS : S.length ≤ 1000) (hne : ∀ r ∈ S, r ≠ []) :
    Calls Tryz.prog 60 #[.pointer (some ⟨mb, 0, none⟩), .agg #[.int .i64 4, .string s, .int .i64 j]] w fun e w' => e = .returned (.tuple #[]) ∧ (∃ sv' vs' us', Mach lo lo2 w' mb n pu tu tm lg sv' lv vs' us' (S.take q) (L.set j (S.getD q []))) ∧ Step lo w w' := by
  have hR := Rws.right M.sl M.rows
  have hul := hR.len
  have hju : j < us.length := by omega
  have hvl := M.sl
  obtain ⟨x, hx1, hx2⟩ := snoc_drop vs q (by omega)
  obtain ⟨xs, hs1, hs2⟩ := snoc_drop S q hq
  have hRl := Rws.left M.sl M.rows
  have hown : OwnInts lo w x xs := by
    have := (hRl.drop q).own 0 x xs (by rw [hx1]; rfl) (by rw [hs1]; rfl)
    exact this
  have hnx : xs ≠ [] := hne xs (List.mem_of_mem_drop (by rw [hs1]; exact List.mem_singleton.2 rfl))
  have hxs : S.getD q [] = xs := by
    have h1 : S[q]? = (S.drop q)[0]? := by rw [List.getElem?_drop, Nat.add_zero]
    rw [List.getD, h1, hs1]
    rfl
  rw [hxs]
  obtain ⟨xa, xc, rfl, _⟩ := hown.form
  obtain ⟨lb, lc, rfl, hlb1, hlb2⟩ := ownsRow.form1 M.lo' (by omega)
  obtain ⟨k1, k2⟩ := ownsRow.caps M.lo'
  have hbl := M.sep lb rfl
  have hb := M.lt
  have c6 := cell_of_cells M.box 6
  simp at c6
  have hlw : lo ≤ w.heap.size := Nat.le_trans M.hl M.hl2
  have hsv := World.ownsRow.lt M.so
  have hlo2 := M.hl2
  have hapt : Apt ((vs.take q ++ [.slice xa xs.length xc]) ++ us) := by rw [← hx2]; exact M.apt
  have x0 : Ext w (w.alloc (.cells #[.int .i64 4, .string s, .int .i64 j] 81)) := (by repeat (with_reducible (first | assumption | exact Ext.refl _ | apply Ext.alloc | apply Ext.drew | apply Ext.drewN)))
  have HM := hid (M.ext x0)
  have HO := hid hown
  have HA := hid hapt
  have hxb : w.heap.size < (w.alloc (.cells #[.int .i64 4, .string s, .int .i64 j] 81)).heap.size := by simp
  replace hx1 := hid hx1
  clear M hown hR hRl hapt hx2 hs1 hs2 hxs
  go_enter Tryz.func60, Tryz.ntmps60
  go_wp2_with fail
  refine wp_region_stagesS [([0, 1, 2, 3, 4, 5, 6], 7), ([], 8), ([], 9), ([], 10), ([], 11)] 11 (fun w' => ∃ d, w' = lowc (CMx mb w.heap.size) _ d) (by kernel_rfl) (by kernel_rfl) (SC.drew _ _) ?_
  refine wpStagesS_cons ?_
  simp only [List.filterMap_cons, List.filterMap_nil, List.getElem?_toArray, List.getElem?_cons_zero, List.getElem?_cons_succ]
  show wpQuiet _ _ _ _ [_, _, _, _, _, _, _] _
  repeat (go_big_quiet_step (fail))
  refine wpQuiet_nil ⟨_, rfl, fun K hK => ?_⟩
  go_wp2_with fail
  have X1 : Ext (w.alloc (.cells #[.int .i64 4, .string s, .int .i64 j] 81)) (w.alloc (.cells #[.int .i64 4, .string s, .int .i64 j] 81)).drew := Ext.drew (Ext.refl _)
  have M1 := HM.out.ext X1
  refine (pop_any M1 1 q (Nat.le_refl _) (by omega) (by omega)).mono ?_
  rintro e w2 ⟨r, rfl, hr, ⟨sv2, M2, hsv2⟩, st2, fr2⟩
  obtain ⟨rb, rc, rfl, hrb1, hrb2⟩ := ownsRow.form1 hr (Nat.le_refl _)
  rw [hx1.out] at hr
  have r0 := World.ownsRow.cellAt hr 0 (by omega)
  simp at r0
  have SC2 := CMx_of HM.out M2 ((fr2 w.heap.size (by have := X1.size; omega) (by omega)).trans (X1.block hxb))
  have hlt2 := (World.ownsRow.lt M2.lo' lb rfl).2
  obtain ⟨y0, hy0⟩ : ∃ y, us[j]? = some y := ⟨us[j], by simp [hju]⟩
  have t0 := World.ownsRow.cellAt M2.lo' j (by omega)
  rw [hy0] at t0
  have t1 := World.ownsRow.frozenAt M2.lo' j
  have HM2 := hid M2
  have HST := hid st2
  have HX := hid (HO.out.keepI ((x0.trans X1).keepI.trans st2.keep))
  clear M2 hr st2 fr2 hy0
  go_wp2_with fail
  refine hK _ _ (.inr (SC2)) ?_
  clear hK K
  refine wpStagesS_cons ?_
  simp only [List.filterMap_nil]
  show wpQuiet _ _ _ _ [] _
  try simp only [Act.put, List.setIfInBounds_toArray, List.set_cons_succ, List.set_cons_zero]
  repeat (go_big_quiet_step (fail))
  refine wpQuiet_nil ⟨_, rfl, fun K hK => ?_⟩
  go_wp2_with fail
  go_wp2_with fail
  refine hK _ _ (.inr (SC2)) ?_
  clear hK K
  refine wpStagesS_cons ?_
  simp only [List.filterMap_nil]
  show wpQuiet _ _ _ _ [] _
  try simp only [Act.put, List.setIfInBounds_toArray, List.set_cons_succ, List.set_cons_zero]
  repeat (go_big_quiet_step (fail))
  refine wpQuiet_nil ⟨_, rfl, fun K hK => ?_⟩
  go_wp2_with fail
  go_wp2_with fail
  refine hK _ _ (.inr (SC2)) ?_
  clear hK K
  refine wpStagesS_cons ?_
  simp only [List.filterMap_nil]
  show wpQuiet _ _ _ _ [] _
  try simp only [Act.put, List.setIfInBounds_toArray, List.set_cons_succ, List.set_cons_zero]
  repeat (go_big_quiet_step (fail))
  refine wpQuiet_nil ⟨_, rfl, fun K hK => ?_⟩
  go_wp2_with fail
  go_wp2_with fail
  refine hK _ _ (.inr (SC2)) ?_
  clear hK K
  refine wpStagesS_cons ?_
  simp only [List.filterMap_nil]
  show wpQuiet _ _ _ _ [] _
  try simp only [Act.put, List.setIfInBounds_toArray, List.set_cons_succ, List.set_cons_zero]
  repeat (go_big_quiet_step (fail))
  refine wpQuiet_nil ⟨_, rfl, fun K hK => ?_⟩
  go_wp2_with fail
  go_wp2_with fail
  refine hK _ _ (.inl (by trivial)) ?_
  clear hK K
  refine wpStagesS_nil ?_
  go_wp2
  go_end0
  have M2 := HM2.out
  have hsto := World.ownsRow.stored M2.lo' j (.slice xa xs.length xc)
  have hbm : lb ≠ mb := fun e => ownsRow.not M2.lo' M2.box (by decide) (by rw [← e]; rfl)
  have kk : KeepI w2 (w2.setCell ⟨lb, j, none⟩ (.slice xa xs.length xc)) := KeepI.setCell _ (fun cur fr => ownsRow.int M2.lo' (by decide) lb cur fr rfl)
  have hsl2 := World.ownsRow.lt M2.so
  have hl2 : (us.set j (.slice xa xs.length xc)).length = us.length := by simp
  refine ⟨rfl, ⟨sv2, vs.take q, us.set j (.slice xa xs.length xc), ⟨?_, M2.low, ?_, ?_, M2.sep, M2.hl, by have := M2.hl2; simpa using this, M2.sl, ?_, HA.out.store j, M2.nls.set j hnx⟩⟩, (((x0.trans X1).step hlw).trans HST.out).trans ⟨Below.setCell (Below.refl _ _) hlb1 _, kk⟩⟩
  · exact (Below.heap_setCell _ _ _ _ (fun e => hbm e.symm)).trans M2.box
  · refine M2.so.kept hsto.2 ?_
    cases hk : sv2.ownBlock with
    | none => exact .inl rfl
    | some k => exact .inr (fun e => by have := (hsl2 k hk).1; injection e with e; omega)
  · rw [hl2]
    exact hsto.1
  · exact (Rws.left M2.sl M2.rows).keepI kk |>.app (((Rws.right M2.sl M2.rows).keepI kk).set j (HX.out.keepI kk))
end Go.Proofs.YtaegmenjgjdimaaGreat
end

section
/- This text says what the grid's machine computes, in plain numbers, and proves that its rows stay in range; it walks no function. -/
namespace Go.Proofs.YtaegmenjgjdimaaGreat
open Go.RowKit

/-- the row that an instruction other than a store pushes -/
def rowI (n m : Nat) (f : Nat → Int) (tm : Int) (t : Tex) (op : Int) (s : ByteArray) (num : Int) (args L : List (List Int)) : List Int :=
  if op = 1 then List.replicate m num else if op = 2 then (List.range m).map (varL s.toList f tm) else if op = 3 then L.getD num.toNat [] else if op = 5 then List.zipWith (arithI num) (args.getD 0 []) (args.getD 0 [])
  else if op = 6 then List.zipWith (arithI num) (args.getD 0 []) (args.getD 1 []) else callRow n m t s.toList args
/-- where the operands of an instruction begin -/
def cutI (op : Int) (s : ByteArray) (S : List (List Int)) : Nat := S.length - (popsI op s).toNat
def nextS (n m : Nat) (f : Nat → Int) (tm : Int) (t : Tex) (x : Ins) (S L : List (List Int)) : List (List Int) :=
  if x.op = 4 then S.take (cutI x.op x.name S) else S.take (cutI x.op x.name S) ++ [rowI n m f tm t x.op x.name x.num (S.drop (cutI x.op x.name S)) L]
def nextL (x : Ins) (S L : List (List Int)) : List (List Int) := if x.op = 4 then L.set x.num.toNat (S.getD (cutI x.op x.name S) []) else L
/-- the locals behind the instructions -/
def runG (n m : Nat) (f : Nat → Int) (tm : Int) (t : Tex) : List Ins → List (List Int) → List (List Int) → List (List Int)
  | [], _, L => L
  | x :: r, S, L => runG n m f tm t r (nextS n m f tm t x S L) (nextL x S L)
theorem zip_good {m : Nat} {op : Int} {a b : List Int} (ha : a.length = m) (hb : b.length = m) : good m (List.zipWith (arithI op) a b) := by
  refine ⟨by simp; omega, fun x hx => ?_⟩
  obtain ⟨i, hi, rfl⟩ := List.getElem_of_mem hx
  simp
  exact satI_S9 _
theorem varL_S9 {f : Nat → Int} {tm : Int} {m q : Nat} (l : List UInt8) (hf : ∀ i, i < m * 5 → S9 (f i)) (ht : S9 tm) (hq : q < m) : S9 (varL l f tm q) := by
  unfold varL
  split
  · exact hf _ (by omega)
  split
  · exact hf _ (by omega)
  split
  · exact hf _ (by omega)
  split
  · exact hf _ (by omega)
  split
  · exact hf _ (by omega)
  · exact ht
theorem call_good {n m : Nat} (hm : n * n = m) (t : Tex) (l : List UInt8) (S : List (List Int)) : good m (callRow n m t l S) := by
  have hd : ∀ xs rows, good m (diffs xs n rows) := fun xs rows => ⟨by rw [diffs_length, hm], fun x hx => by
    obtain ⟨i, hi, rfl⟩ := List.getElem_of_mem hx
    rw [diffs_at]
    exact dVal_i64 _ _ _ _⟩
  unfold callRow
  split
  · exact hd _ _
  split
  · exact hd _ _
  · refine ⟨by simp, fun x hx => ?_⟩
    obtain ⟨i, hi, rfl⟩ := List.mem_map.1 hx
    exact satI_S9 _
/-- the state of the machine ahead of the instructions xs -/
structure Okst (L0 m : Nat) (xs : List Ins) (S L : List (List Int)) : Prop where
  run : ∃ d st, (runD L0 xs S.length d st).isSome = true ∧ ∀ j r, L[j]? = some r → (st j = true ∧ good m r) ∨ (st j = false ∧ r = [])
  len : L.length = L0
  rows : ∀ r ∈ S, good m r
theorem Okst.wf {L0 m : Nat} {x : Ins} {r : List Ins} {S L : List (List Int)} (h : Okst L0 m (x :: r) S L) : wfI x.op x.name x.num L0 = true := by
  obtain ⟨d, st, h1, _⟩ := h.run
  exact runD_wf _ _ _ _ h1 x (List.mem_cons_self)
theorem Okst.pops {L0 m : Nat} {x : Ins} {r : List Ins} {S L : List (List Int)} (h : Okst L0 m (x :: r) S L) : ∃ p : Nat, popsI x.op x.name = p ∧ cutI x.op x.name S + p = S.length := by
  obtain ⟨d, st, h1, _⟩ := h.run
  have hb := pops_bd h.wf
  unfold runD at h1
  split at h1
  · rename_i hc
    refine ⟨(popsI x.op x.name).toNat, by omega, ?_⟩
    unfold cutI
    omega
  · simp at h1
/-- a local that is read is stored -/
theorem Okst.local {L0 m : Nat} {x : Ins} {r : List Ins} {S L : List (List Int)} (h : Okst L0 m (x :: r) S L) (h3 : x.op = 3) : ∃ xs, L[x.num.toNat]? = some xs ∧ good m xs := by
  obtain ⟨d, st, h1, h2⟩ := h.run
  obtain ⟨j, hj, hjL⟩ := wf_at h.wf (.inl h3)
  unfold runD at h1
  split at h1
  · rename_i hc
    have hs := hc.2.1 h3
    rw [hj] at hs ⊢
    simp only [Int.toNat_natCast] at hs ⊢
    have hl := h.len
    have hx : L[j]? = some (L[j]'(by omega)) := by simp [show j < L.length by omega]
    rcases h2 j _ hx with h4 | h4
    · exact ⟨_, hx, h4.2⟩
    · rw [hs] at h4; cases h4.1
  · simp at h1
theorem Okst.next {L0 n m : Nat} {f : Nat → Int} {tm : Int} {t : Tex} {x : Ins} {r : List Ins} {S L : List (List Int)} (h : Okst L0 m (x :: r) S L) (hm : n * n = m) (hn : numB x = true) (hf : ∀ i, i < m * 5 → S9 (f i)) (ht : S9 tm) : Okst L0 m r (nextS n m f tm t x S L) (nextL x S L) := by
  obtain ⟨p, hp, hc⟩ := h.pops
  have hwf := h.wf
  have hloc := h.local
  have hrows := h.rows
  obtain ⟨d, st, h1, h2⟩ := h.run
  have hlen := h.len
  have hd : ∀ y ∈ S.drop (cutI x.op x.name S), good m y := fun y hy => hrows y (List.mem_of_mem_drop hy)
  have htk : ∀ y ∈ S.take (cutI x.op x.name S), good m y := fun y hy => hrows y (List.mem_of_mem_take hy)
  have hdl : (S.drop (cutI x.op x.name S)).length = p := by simp; omega
  have hga : ∀ i, i < p → good m ((S.drop (cutI x.op x.name S)).getD i []) := fun i hi => by
    have e : (S.drop (cutI x.op x.name S)).getD i [] = (S.drop (cutI x.op x.name S))[i]'(by omega) := by rw [List.getD, List.getElem?_eq_getElem (show i < (S.drop (cutI x.op x.name S)).length by omega)]; rfl
    rw [e]
    exact hd _ (List.getElem_mem _)
  unfold runD at h1
  split at h1
  case isFalse => simp at h1
  rename_i hcond
  generalize (if (S.length : Int) - popsI x.op x.name + pushI x.op > d then (S.length : Int) - popsI x.op x.name + pushI x.op else d) = d2 at h1
  by_cases h4 : x.op = 4
  · have hp1 : p = 1 := by
      rw [h4] at hp
      have : popsI 4 x.name = 1 := rfl
      omega
    have hq0 : pushI x.op = 0 := by rw [h4]; rfl
    obtain ⟨j, hj, hjL⟩ := wf_at hwf (.inr h4)
    refine ⟨⟨d2, markSt x.op x.num st, ?_, ?_⟩, ?_, ?_⟩
    · unfold nextS
      rw [if_pos h4, List.length_take, Nat.min_eq_left (by omega)]
      have e : ((S.length : Int) - popsI x.op x.name + pushI x.op) = (cutI x.op x.name S : Nat) := by rw [hp, hq0]; omega
      rw [e] at h1
      exact h1
    · intro i y hy
      unfold nextL at hy
      rw [if_pos h4, hj, Int.toNat_natCast] at hy
      unfold markSt
      rw [if_pos h4, hj, Int.toNat_natCast]
      rw [List.getElem?_set] at hy
      by_cases hij : j = i
      · subst hij
        rw [if_pos rfl, if_pos (by omega)] at hy
        injection hy with hy
        subst hy
        refine .inl ⟨by simp, ?_⟩
        have := hga 0 (by omega)
        rw [List.getD, List.getElem?_drop, Nat.add_zero] at this
        exact this
      · rw [if_neg hij] at hy
        have := h2 i y hy
        rw [if_neg (fun e => hij e.symm)]
        exact this
    · unfold nextL
      rw [if_pos h4, List.length_set]
      exact hlen
    · intro y hy
      unfold nextS at hy
      rw [if_pos h4] at hy
      exact htk y hy
  · have hq1 : pushI x.op = 1 := by unfold pushI; rw [if_neg h4]
    have hmk : markSt x.op x.num st = st := by unfold markSt; rw [if_neg h4]
    have hL : nextL x S L = L := by unfold nextL; rw [if_neg h4]
    have hrow : good m (rowI n m f tm t x.op x.name x.num (S.drop (cutI x.op x.name S)) L) := by
      unfold rowI
      split
      · have hb := inB_iff.1 (show inB x.num (-1000000000) 1000000000 = true from hn)
        refine ⟨by simp, fun y hy => ?_⟩
        rw [List.eq_of_mem_replicate hy]
        exact hb
      split
      · refine ⟨by simp, fun y hy => ?_⟩
        obtain ⟨i, hi, rfl⟩ := List.mem_map.1 hy
        exact varL_S9 _ hf ht (List.mem_range.1 hi)
      split
      · rename_i h3
        obtain ⟨xs, hx, hg⟩ := hloc h3
        rw [List.getD, hx]
        exact hg
      split
      · rename_i h5
        have hp5 : p = 1 := by
          rw [h5] at hp
          have : popsI 5 x.name = 1 := rfl
          omega
        exact zip_good (hga 0 (by omega)).1 (hga 0 (by omega)).1
      split
      · rename_i h6
        have hp6 : p = 2 := by
          rw [h6] at hp
          have : popsI 6 x.name = 2 := rfl
          omega
        exact zip_good (hga 0 (by omega)).1 (hga 1 (by omega)).1
      · exact call_good hm t _ _
    refine ⟨⟨d2, st, ?_, ?_⟩, by rw [hL]; exact hlen, ?_⟩
    · unfold nextS
      rw [if_neg h4, List.length_append, List.length_take, Nat.min_eq_left (by omega), List.length_singleton]
      rw [hmk] at h1
      have e : ((S.length : Int) - popsI x.op x.name + pushI x.op) = ((cutI x.op x.name S + 1 : Nat) : Int) := by rw [hp, hq1]; omega
      rw [e] at h1
      exact h1
    · rw [hL]
      exact h2
    · intro y hy
      unfold nextS at hy
      rw [if_neg h4] at hy
      rcases List.mem_append.1 hy with hy | hy
      · exact htk y hy
      · simp at hy
        subst hy
        exact hrow
end Go.Proofs.YtaegmenjgjdimaaGreat
end

section
/- This text proves the program's RunGrid. -/
namespace Go.Proofs.YtaegmenjgjdimaaGreat
open Go.RowKit

theorem opsOk_of {num : Int} (h : inB num 4 7 = true) : opsOk num := by
  have := inB_iff.1 h
  unfold opsOk
  omega
theorem execute_any {lo lo2 : Nat} {w : World} {mb n m : Nat} {pu tu : Value} {f : Nat → Int} {tm : Int} {t : Tex} {sv lv : Value} {vs us : List Value} {S L : List (List Int)} {x : Ins} {r : List Ins} {L0 : Nat} (M : Mach lo lo2 w mb n pu tu tm t.log sv lv vs us S L) (G : GridIn lo w n m pu tu f tm t) (ok : Okst L0 m (x :: r) S L) (hn : numB x = true) (hS : S.length ≤ 1000) :
    Calls Tryz.prog 60 #[.pointer (some ⟨mb, 0, none⟩), .agg #[.int .i64 x.op, .string x.name, .int .i64 x.num]] w fun e w' => e = .returned (.tuple #[]) ∧ (∃ sv' vs' us', Mach lo lo2 w' mb n pu tu tm t.log sv' lv vs' us' (nextS n m f tm t x S L) (nextL x S L)) ∧ Step lo w w' := by
  have hwf := ok.wf
  obtain ⟨p, hp, hc⟩ := ok.pops
  obtain ⟨q1, q2, q3⟩ := G.hmi
  have hloc := ok.local
  have hrows := ok.rows
  have hlen := ok.len
  clear ok
  obtain ⟨op, s, num⟩ := x
  simp only at hwf hp hc hloc ⊢
  have hop : 1 ≤ op ∧ op ≤ 7 := by
    by_cases h : 1 ≤ op ∧ op ≤ 7
    · exact h
    · unfold wfI at hwf
      rw [if_neg (by omega), if_neg (by omega), if_neg (by omega), if_neg (by omega), if_neg (by omega), if_neg (by omega), if_neg (by omega)] at hwf
      cases hwf
  have hnum := inB_iff.1 (show inB num (-1000000000) 1000000000 = true from hn)
  have wrap : ∀ {e : Ending} {w' : World} {S' L' : List (List Int)}, (nextS n m f tm t ⟨op, s, num⟩ S L = S') → (nextL ⟨op, s, num⟩ S L = L') → (e = .returned (.tuple #[]) ∧ (∃ sv' vs', Mach lo lo2 w' mb n pu tu tm t.log sv' lv vs' us S' L') ∧ Step lo w w') → (e = .returned (.tuple #[]) ∧ (∃ sv' vs' us', Mach lo lo2 w' mb n pu tu tm t.log sv' lv vs' us' (nextS n m f tm t ⟨op, s, num⟩ S L) (nextL ⟨op, s, num⟩ S L)) ∧ Step lo w w') := by
    intro e w' S' L' h1 h2 ⟨h3, ⟨sv', vs', h4⟩, h5⟩
    subst h1 h2
    exact ⟨h3, ⟨sv', vs', us, h4⟩, h5⟩
  rcases (show op = 1 ∨ op = 2 ∨ op = 3 ∨ op = 4 ∨ op = 5 ∨ op = 6 ∨ op = 7 by omega) with rfl | rfl | rfl | rfl | rfl | rfl | rfl
  · have h0 : p = 0 := by have : popsI 1 s = 0 := rfl; omega
    refine (exec1 M G s num ⟨by omega, by omega⟩ hS _ rfl).mono fun e w' h => wrap ?_ rfl h
    unfold nextS
    rw [if_neg (by simp), show cutI 1 s S = S.length by omega, List.take_length]
    rfl
  · have h0 : p = 0 := by have : popsI 2 s = 0 := rfl; omega
    refine (exec2 M G s num hS _ rfl).mono fun e w' h => wrap ?_ rfl h
    unfold nextS
    rw [if_neg (by simp), show cutI 2 s S = S.length by omega, List.take_length]
    rfl
  · have h0 : p = 0 := by have : popsI 3 s = 0 := rfl; omega
    obtain ⟨j, rfl, hj⟩ := wf_at hwf (.inl rfl)
    obtain ⟨xs, hx, hg⟩ := hloc rfl
    simp only [Int.toNat_natCast] at hx
    refine (exec3 (m := m) M s j xs hx (by rw [hg.1]; omega) (by rw [hg.1]; omega) hS).mono fun e w' h => wrap ?_ rfl h
    unfold nextS
    rw [if_neg (by simp), show cutI 3 s S = S.length by omega, List.take_length]
    unfold rowI
    rw [if_neg (by simp), if_neg (by simp), if_pos rfl, Int.toNat_natCast, List.getD, hx]
    rfl
  · have h0 : p = 1 := by have : popsI 4 s = 1 := rfl; omega
    obtain ⟨j, rfl, hj⟩ := wf_at hwf (.inr rfl)
    have h4 := exec4 M s j (cutI 4 s S) (by omega) (by omega) hS (fun r hr e => by have := (hrows r hr).1; rw [e] at this; simp at this; omega)
    unfold nextS nextL
    rw [if_pos rfl, if_pos rfl]
    exact h4
  · have h0 : p = 1 := by have : popsI 5 s = 1 := rfl; omega
    have hn3 : num = 3 := by simp [wfI] at hwf; exact hwf.2
    refine (exec5 (m := m) M s (cutI 5 s S) num (by subst hn3; unfold opsOk; omega) (by omega) hS hrows q3).mono fun e w' h => wrap ?_ rfl h
    unfold nextS
    rw [if_neg (by simp)]
    unfold rowI
    rw [if_neg (by simp), if_neg (by simp), if_neg (by simp), if_pos rfl]
    simp only [List.getD, List.getElem?_drop, Nat.add_zero]
  · have h0 : p = 2 := by have : popsI 6 s = 2 := rfl; omega
    have hn4 : inB num 4 7 = true := by simp [wfI] at hwf; exact hwf.2
    refine (exec6 (m := m) M s (cutI 6 s S) num (opsOk_of hn4) (by omega) hS hrows q3).mono fun e w' h => wrap ?_ rfl h
    unfold nextS
    rw [if_neg (by simp)]
    unfold rowI
    rw [if_neg (by simp), if_neg (by simp), if_neg (by simp), if_neg (by simp), if_pos rfl]
    simp only [List.getD, List.getElem?_drop, Nat.add_zero]
  · have hp7 : arity s = p := by have : popsI 7 s = arity s := rfl; omega
    have hab := arity_bd s
    refine (exec7 M G s num hS _ p (cutI 7 s S) hp7 (by omega) hc hrows rfl).mono fun e w' h => wrap ?_ rfl h
    unfold nextS
    rw [if_neg (by simp)]
    unfold rowI
    rw [if_neg (by simp), if_neg (by simp), if_neg (by simp), if_neg (by simp), if_neg (by simp)]
end Go.Proofs.YtaegmenjgjdimaaGreat
end

section
/- This text proves the program's RunGrid. -/
namespace Go.Proofs.YtaegmenjgjdimaaGreat
open Go.RowKit

/-- the slice value v owns rows that hold S, apart from one another -/
def OwnSS (lo : Nat) (w : World) (v : Value) (S : List (List Int)) : Prop := ∃ us, w.ownsRow lo 29 1 v us.length us ∧ Rws lo w us S ∧ Apt us ∧ Nls us S
/-- what RunGrid hands back, where it runs -/
def Cod.out (c : Cod) (g : Grd) : List (List Int) := runG g.n.toNat g.m g.f g.tm g.t c.xs [] (List.replicate c.ls.length [])
theorem iValid_val {g : Grd} {r : Bool} (h : g.okB = r) (lo hi : Nat) (v : Value) (w : World) (hv : g.R lo hi w v) (hh : hi ≤ w.heap.size) :
    Calls Tryz.prog 55 #[v] w fun e w' => e = .returned (.bool r) ∧ Ext w w' := h ▸ iIsValidGrid_any lo hi v g w hv hh
theorem Grd.parts {g : Grd} (h : g.okB = true) : ∃ n : Nat, g.n = n ∧ n * n = g.m ∧ 1 ≤ n ∧ n ≤ 8 ∧ g.t.okB = true ∧ S9 g.tm ∧ ∀ i, i < g.m * 5 → S9 (g.f i) := by
  unfold Grd.okB at h
  simp only [Bool.and_eq_true, decide_eq_true_eq, List.all_eq_true, List.mem_range] at h
  obtain ⟨⟨⟨⟨h1, h2⟩, h3⟩, h4⟩, h5⟩ := h
  have h1 := inB_iff.1 h1
  have h3 := inB_iff.1 h3
  obtain ⟨n, hn⟩ : ∃ n : Nat, g.n = n := ⟨g.n.toNat, by omega⟩
  rw [hn] at h1 h2
  have h6 : ((n * n : Nat) : Int) = (g.m : Int) := by rw [h2]; simp
  refine ⟨n, hn, by omega, by omega, by omega, h4, ⟨by omega, by omega⟩, fun i hi => ?_⟩
  have h7 := h5 (i / 5) (by omega)
  unfold ptB ptL at h7
  simp only [List.all_cons, List.all_nil, Bool.and_true, Bool.and_eq_true] at h7
  obtain ⟨a0, a1, a2, a3, a4⟩ := h7
  have hi5 : i = i / 5 * 5 + i % 5 := by omega
  have hlt : i % 5 < 5 := Nat.mod_lt _ (by decide)
  have key : inB (g.f i) (-1000000) 1000000 = true := by
    rcases (show i % 5 = 0 ∨ i % 5 = 1 ∨ i % 5 = 2 ∨ i % 5 = 3 ∨ i % 5 = 4 by omega) with e | e | e | e | e <;> rw [e] at hi5 <;> rw [hi5]
    · exact a0
    · exact a1
    · exact a2
    · exact a3
    · exact a4
  have := inB_iff.1 key
  exact ⟨by omega, by omega⟩
theorem Okst.start {c : Cod} {m : Nat} (h : c.depth.isSome = true) : Okst c.ls.length m c.xs [] (List.replicate c.ls.length []) := by
  unfold Cod.depth at h
  split at h
  · refine ⟨⟨0, fun _ => false, h, fun j r hj => .inr ⟨rfl, ?_⟩⟩, by simp, fun r hr => by cases hr⟩
    exact List.eq_of_mem_replicate (List.mem_of_getElem? hj)
  · simp at h
theorem Rws.nils (lo : Nat) (w : World) (k : Nat) : Rws lo w (List.replicate k (.slice none 0 0)) (List.replicate k []) := by
  refine ⟨by simp, fun i v xs h1 h2 => ?_⟩
  rw [List.eq_of_mem_replicate (List.mem_of_getElem? h1), List.eq_of_mem_replicate (List.mem_of_getElem? h2)]
  exact OwnInts.nil lo w
theorem Apt.nils (k : Nat) : Apt (List.replicate k (.slice none 0 0)) := by
  unfold Apt
  induction k with
  | zero => simp
  | succ k ih =>
    rw [List.replicate_succ, List.pairwise_cons]
    refine ⟨fun b hb j hj => ?_, ih⟩
    simp [Value.ownBlock] at hj
theorem ownsRow.fresh (w : World) (lo k : Nat) (hl : lo ≤ w.heap.size) (hk : k ≤ 2000000) : (w.alloc (.cells (madeCells #[.slice none 0 0] k) 29)).ownsRow lo 29 1 (.slice (some ⟨w.heap.size, 0, none⟩) k k) (List.replicate k (Value.slice none 0 0)).length (List.replicate k (.slice none 0 0)) := by
  have h := World.ownsRow_lit (size := 1) (e := 29) w (madeCells #[Value.slice none 0 0] k) k hl (by unfold maxLen; omega) (by rw [Nat.mul_one]; exact size_madeCells _ _)
  rw [toList_madeCells_one] at h
  simpa using h

set_option maxRecDepth 100000 in
set_option maxHeartbeats 6400000 in
theorem iRunGrid_no (lo hi lo' hi' : Nat) (v u : Value) (c : Cod) (g : Grd) (w : World) (hv : c.R lo hi w v) (hh : hi ≤ w.heap.size) (hu : g.R lo' hi' w u) (hh' : hi' ≤ w.heap.size) (hL : c.ls.length ≤ 2000000) (hno : (c.runB && g.okB) = false) :
    Calls Tryz.prog 33 #[v, u] w fun e w' => e = .returned (.tuple #[.slice none 0 0, .bool false]) ∧ Ext w w' := by
  have HV := hid hv
  have HU := hid hu
  obtain ⟨a1, c1, a2, c2, rfl, -, -⟩ := hv.form
  obtain ⟨pu, tu, rfl, -, -, -, -, -⟩ := hu
  clear hv
  cases h1 : c.runB
  · go_enter Tryz.func33, Tryz.ntmps33
    go_wp2_with (go_at_call 38; refine (iRunnable_val h1 lo hi _ _ (HV.out.ext hh (by repeat (with_reducible (first | assumption | exact Ext.refl _ | apply Ext.alloc | apply Ext.drew | apply Ext.drewN)))) (by simp; omega) hL).mono ?_; rintro e w1 ⟨rfl, x1⟩)
    refine bodyPost_ret (v := .tuple #[.slice none 0 0, .bool false]) (by simp [results, Tryz.results33, go_sem]) rfl ⟨rfl, Ext.trans (by repeat (with_reducible (first | assumption | exact Ext.refl _ | apply Ext.alloc | apply Ext.drew | apply Ext.drewN))) x1⟩
  · have h2 : g.okB = false := by rw [h1] at hno; simpa using hno
    have hbx := hid (show ∀ w1, Ext ((w.alloc (.cells #[.slice a1 c.xs.length c1, .slice a2 c.ls.length c2] 44)).alloc (.cells #[.int .i64 g.n, pu, .int .i64 g.tm, .int .i64 g.t.log, tu] 33)) w1 → w.heap.size + 1 < w1.heap.size ∧ w1.cell? ⟨w.heap.size + 1, 0, none⟩ = some (.int .i64 g.n) ∧ w1.cell? ⟨w.heap.size + 1, 1, none⟩ = some pu ∧ w1.cell? ⟨w.heap.size + 1, 2, none⟩ = some (.int .i64 g.tm) ∧ w1.cell? ⟨w.heap.size + 1, 3, none⟩ = some (.int .i64 g.t.log) ∧ w1.cell? ⟨w.heap.size + 1, 4, none⟩ = some tu from by
      intro w1 x1
      have := x1.size
      refine ⟨by simp at this; omega, ?_, ?_, ?_, ?_, ?_⟩ <;> (rw [x1.cells.1 _ _ (by simp)]; simp [go_sem]))
    go_enter Tryz.func33, Tryz.ntmps33
    go_wp2_with (go_at_call 38; refine (iRunnable_val h1 lo hi _ _ (HV.out.ext hh (by repeat (with_reducible (first | assumption | exact Ext.refl _ | apply Ext.alloc | apply Ext.drew | apply Ext.drewN)))) (by simp; omega) hL).mono ?_; rintro e w1 ⟨rfl, x1⟩; obtain ⟨d, d0, d1, d2, d3, d4⟩ := hbx.out w1 x1; have X1 : Ext w w1 := Ext.trans (by repeat (with_reducible (first | assumption | exact Ext.refl _ | apply Ext.alloc | apply Ext.drew | apply Ext.drewN))) x1; clear x1)
    refine (iValid_val h2 lo' hi' _ _ (HU.out.ext hh' X1) (by have := X1.size; omega)).mono ?_
    rintro e w2 ⟨rfl, x2⟩
    go_wp2
    refine bodyPost_ret (v := .tuple #[.slice none 0 0, .bool false]) (by simp [results, Tryz.results33, go_sem]) rfl ⟨rfl, X1.trans x2⟩
set_option maxRecDepth 100000 in
set_option maxHeartbeats 6400000 in
theorem iRunGrid_yes (lo hi lo' hi' : Nat) (v u : Value) (c : Cod) (g : Grd) (w : World) (hv : c.R lo hi w v) (hh : hi ≤ w.heap.size) (hu : g.R lo' hi' w u) (hh' : hi' ≤ w.heap.size) (hL : c.ls.length ≤ 2000000) (hyes : (c.runB && g.okB) = true) :
    Calls Tryz.prog 33 #[v, u] w fun e w' => ∃ r, e = .returned (.tuple #[r, .bool true]) ∧ OwnSS w.heap.size w' r (c.out g) ∧ Ext w w' := by
  have HV := hid hv
  have HU := hid hu
  obtain ⟨a1, c1, a2, c2, rfl, HI, -⟩ := hv.form
  obtain ⟨pu, tu, rfl, -, t64, l64, hp, ht⟩ := hu
  clear hv
  simp only [Bool.and_eq_true] at hyes
  obtain ⟨h1, h2⟩ := hyes
  obtain ⟨n, hn, hnn, n1, n8, hok, htm9, hf9⟩ := Grd.parts h2
  have hdep : c.depth.isSome = true := by unfold Cod.runB at h1; simp at h1; exact h1.1
  have hnums : ∀ x ∈ c.xs, numB x = true := by unfold Cod.runB at h1; simp at h1; exact h1.2
  have hlen : c.xs.length ≤ 300 := by
    unfold Cod.depth at hdep
    split at hdep
    · assumption
    · simp at hdep
  have hout : runG n g.m g.f g.tm g.t c.xs [] (List.replicate c.ls.length []) = c.out g := by unfold Cod.out; rw [hn]; rfl
  have HG := hid (show GridIn w.heap.size w n g.m pu tu g.f g.tm g.t from ⟨hp.wide (Nat.zero_le _) hh', ⟨tu, rfl, l64, ht.wide (Nat.zero_le _) hh'⟩, hnn, n1, n8, hok, htm9, hf9⟩)
  have HD := hid hdep
  have HN := hid hnums
  have HOUT := hid hout
  clear hp ht t64 l64 hnn hok htm9 hf9 hdep hnums hout
  rw [hn]
  replace hn := hid hn
  obtain ⟨i0, hi0, hz0, hz1, hz2⟩ := info_parts info_ints
  have hbx := hid (show ∀ w1, Ext ((w.alloc (.cells #[.slice a1 c.xs.length c1, .slice a2 c.ls.length c2] 44)).alloc (.cells #[.int .i64 n, pu, .int .i64 g.tm, .int .i64 g.t.log, tu] 33)) w1 → w.heap.size + 1 < w1.heap.size ∧ w1.cell? ⟨w.heap.size + 1, 0, none⟩ = some (.int .i64 n) ∧ w1.cell? ⟨w.heap.size + 1, 1, none⟩ = some pu ∧ w1.cell? ⟨w.heap.size + 1, 2, none⟩ = some (.int .i64 g.tm) ∧ w1.cell? ⟨w.heap.size + 1, 3, none⟩ = some (.int .i64 g.t.log) ∧ w1.cell? ⟨w.heap.size + 1, 4, none⟩ = some tu ∧ w.heap.size < w1.heap.size ∧ w1.cell? ⟨w.heap.size, 0, none⟩ = some (.slice a1 c.xs.length c1) ∧ w1.cell? ⟨w.heap.size, 1, none⟩ = some (.slice a2 c.ls.length c2) from by
    intro w1 x1
    have := x1.size
    simp at this
    refine ⟨by omega, ?_, ?_, ?_, ?_, ?_, by omega, ?_, ?_⟩ <;> (rw [x1.cells.1 _ _ (by simp <;> omega)]; simp [go_sem]))
  go_enter Tryz.func33, Tryz.ntmps33
  go_wp2_with (go_at_call 38; refine (iRunnable_val h1 lo hi _ _ (HV.out.ext hh (by repeat (with_reducible (first | assumption | exact Ext.refl _ | apply Ext.alloc | apply Ext.drew | apply Ext.drewN)))) (by simp; omega) hL).mono ?_; rintro e w1 ⟨rfl, x1⟩; obtain ⟨d, d0, d1, d2, d3, d4, -⟩ := hbx.out w1 x1)
  refine (iValid_val h2 lo' hi' _ _ (by have := HU.out.ext hh' (Ext.trans (by repeat (with_reducible (first | assumption | exact Ext.refl _ | apply Ext.alloc | apply Ext.drew | apply Ext.drewN))) x1 : Ext w w1); rw [hn.out] at this; exact this) (by have := x1.size; simp at this; omega)).mono ?_
  rintro e w2 ⟨rfl, x2⟩
  clear d d0 d1 d2 d3 d4
  obtain ⟨d, d0, d1, d2, d3, d4, e, e0, e1⟩ := hbx.out w2 (x1.trans x2)
  have X2 : Ext w w2 := (Ext.trans (by repeat (with_reducible (first | assumption | exact Ext.refl _ | apply Ext.alloc | apply Ext.drew | apply Ext.drewN))) x1 : Ext w w1).trans x2
  clear x1 x2 hbx
  have HX2 := hid X2
  go_wp2_with fail
  refine wp_region_stages [([0, 1, 2, 3], 4), ([5], 6), ([], 7)] 7 w2.heap.size (by kernel_rfl) (by kernel_rfl) ?_
  refine wpStages_cons ?_
  simp only [List.filterMap_cons, List.filterMap_nil, List.getElem?_toArray, List.getElem?_cons_zero, List.getElem?_cons_succ]
  show wpQuiet _ _ _ _ [_, _, _, _] _
  repeat (go_big_quiet_step (fail))
  refine wpQuiet_nil ⟨_, rfl, fun K hK => ?_⟩
  go_wp2_with (at_make; refine wpList_make_row _ rfl _ _ 70 rfl 29 i0 (.slice none 0 0) Tryz.underlying70 hi0 hz0 hz1 rfl .i64 .i64 c.ls.length rfl rfl (by rw [hz2]; omega) (by omega) ?_)
  go_wp2_with fail
  refine hK _ _ (.inr (fun k _ hk => Ext.block (by repeat (with_reducible (first | assumption | exact Ext.refl _ | apply Ext.alloc | apply Ext.drew | apply Ext.drewN))) (by first | omega | (simp; omega)))) ?_
  clear hK K
  clear hi0 hz0 hz1 hz2
  refine wpStages_cons ?_
  simp only [List.filterMap_cons, List.filterMap_nil, List.getElem?_toArray, List.getElem?_cons_zero, List.getElem?_cons_succ]
  show wpQuiet _ _ _ _ [_] _
  try simp only [Act.put, List.setIfInBounds_toArray, List.set_cons_succ, List.set_cons_zero]
  repeat (go_big_quiet_step (fail))
  refine wpQuiet_nil ⟨_, rfl, fun K hK => ?_⟩
  go_wp2_with fail
  go_wp2_with fail
  refine hK _ _ (.inr (fun k _ hk => Ext.block (by repeat (with_reducible (first | assumption | exact Ext.refl _ | apply Ext.alloc | apply Ext.drew | apply Ext.drewN))) (by first | omega | (simp; omega)))) ?_
  clear hK K
  refine wpStages_cons ?_
  simp only [List.filterMap_nil]
  show wpQuiet _ _ _ _ [] _
  try simp only [Act.put, List.setIfInBounds_toArray, List.set_cons_succ, List.set_cons_zero]
  repeat (go_big_quiet_step (fail))
  refine wpQuiet_nil ⟨_, rfl, fun K hK => ?_⟩
  go_wp2_with fail
  go_wp2_with fail
  refine hK _ _ (.inl (by trivial)) ?_
  clear hK K
  refine wpStages_nil ?_
  have M0 : Mach w.heap.size (w2.heap.size + 1) ((w2.drew.alloc (.cells (madeCells #[.slice none 0 0] c.ls.length) 29)).alloc (.cells #[.int .i64 n, pu, .int .i64 g.tm, .int .i64 g.t.log, tu, .slice none 0 0, .slice (some ⟨w2.heap.size, 0, none⟩) c.ls.length c.ls.length] 130)) (w2.heap.size + 1) n pu tu g.tm g.t.log (.slice none 0 0) (.slice (some ⟨w2.heap.size, 0, none⟩) c.ls.length c.ls.length) [] (List.replicate c.ls.length (.slice none 0 0)) [] (List.replicate c.ls.length []) := by
    have hz := X2.size
    have hf := ownsRow.fresh w2.drew w.heap.size c.ls.length hz hL
    refine ⟨?_, by omega, World.ownsRow_nil _ _ _ _, hf.alloc _, fun k hk => by simp [Value.ownBlock] at hk; omega, by omega, by simp, rfl, Rws.nils _ _ _, Apt.nils _, Nls.nils _⟩
    have := hnew (w2.drew.alloc (.cells (madeCells #[.slice none 0 0] c.ls.length) 29)) (.cells #[.int .i64 n, pu, .int .i64 g.tm, .int .i64 g.t.log, tu, .slice none 0 0, .slice (some ⟨w2.heap.size, 0, none⟩) c.ls.length c.ls.length] 130)
    simpa using this
  have X3 : Ext w ((w2.drew.alloc (.cells (madeCells #[.slice none 0 0] c.ls.length) 29)).alloc (.cells #[.int .i64 n, pu, .int .i64 g.tm, .int .i64 g.t.log, tu, .slice none 0 0, .slice (some ⟨w2.heap.size, 0, none⟩) c.ls.length c.ls.length] 130)) := (X2.drew.alloc _).alloc _
  have X23 : Ext w2 ((w2.drew.alloc (.cells (madeCells #[.slice none 0 0] c.ls.length) 29)).alloc (.cells #[.int .i64 n, pu, .int .i64 g.tm, .int .i64 g.t.log, tu, .slice none 0 0, .slice (some ⟨w2.heap.size, 0, none⟩) c.ls.length c.ls.length] 130)) := (by repeat (with_reducible (first | assumption | exact Ext.refl _ | apply Ext.alloc | apply Ext.drew | apply Ext.drewN)))
  have f0 := (X23.cells.1 _ 0 e).trans e0
  have f1 : w.heap.size < ((w2.drew.alloc (.cells (madeCells #[.slice none 0 0] c.ls.length) 29)).alloc (.cells #[.int .i64 n, pu, .int .i64 g.tm, .int .i64 g.t.log, tu, .slice none 0 0, .slice (some ⟨w2.heap.size, 0, none⟩) c.ls.length c.ls.length] 130)).heap.size := by have := X23.size; omega
  go_wp2_with fail
  have M0' := hid M0
  have HX3 := hid X3
  clear M0 X3 X23 f0 f1
  clear d d0 d1 d2 d3 d4 e e0 e1 X2
  have k1 := HI.le
  have k2 := HI.cap
  go_loopw [27] (fun i wr => ∃ (k : Nat) (sv : Value) (vs us : List Value) (S L : List (List Int)), k ≤ c.xs.length ∧ i = .int .i64 k ∧ Mach w.heap.size (w2.heap.size + 1) wr (w2.heap.size + 1) n pu tu g.tm g.t.log sv (.slice (some ⟨w2.heap.size, 0, none⟩) c.ls.length c.ls.length) vs us S L ∧ Okst c.ls.length g.m (c.xs.drop k) S L ∧ runG n g.m g.f g.tm g.t (c.xs.drop k) S L = c.out g ∧ S.length ≤ k ∧ Ext w wr) (fun i _ => c.xs.length - (intOf i).toNat)
  case atStart => exact ⟨0, _, _, _, _, _, by omega, rfl, M0'.out, by rw [List.drop_zero]; exact Okst.start HD.out, by rw [List.drop_zero]; exact HOUT.out, by simp, HX3.out⟩
  case round =>
    clear M0' HX3
    obtain ⟨k, sv, vs, us, S, L, hk, rfl, M, ok, hrun, hSk, hx⟩ := hrel
    by_cases hlt : k < c.xs.length
    · obtain ⟨b, off, op, s, num, rfl, hb1, hbw, hdrop, hget, io, inn, x0, x1, x2⟩ := HI.at hlt hx hh
      rw [hdrop] at ok hrun
      have hnb : numB ⟨op, s, num⟩ = true := HN.out _ (List.mem_of_getElem? hget)
      have y0 : Ext wr (wr.alloc (.cells #[.int .i64 op, .string s, .int .i64 num] 81)) := (by repeat (with_reducible (first | assumption | exact Ext.refl _ | apply Ext.alloc | apply Ext.drew | apply Ext.drewN)))
      have HC := hid (execute_any (M.ext y0) (HG.out.step (hx.trans y0)) ok hnb (by omega))
      have HK := hid (ok.next (t := g.t) HG.out.hm hnb HG.out.f9 HG.out.tm9)
      have hpq := ok.pops
      have HR := hid hrun
      have HX := hid (hx.trans y0)
      clear M ok hrun hget hdrop hx y0 hnb
      go_wp2_with fail
      refine HC.out.mono ?_
      rintro e w7 ⟨rfl, ⟨sv', vs', us', M'⟩, st⟩
      have HM' := hid M'
      have HS' := hid st
      clear M' st
      go_wp2
      go_roundw
      case rel =>
        refine ⟨k + 1, sv', vs', us', _, _, by omega, by go_num, HM'.out, HK.out, HR.out, ?_, Below.trans HX.out HS'.out.below⟩
        obtain ⟨p, hp1, hp2⟩ := hpq
        unfold nextS
        split
        · rw [List.length_take]; omega
        · rw [List.length_append, List.length_take, List.length_singleton]; omega
      case measure => simp [intOf]; omega
    · obtain rfl : k = c.xs.length := by omega
      rw [List.drop_length] at hrun
      have c6 := cell_of_cells M.box 6
      simp at c6
      have hb := M.lt
      have hrun' : L = c.out g := hrun
      have HM := hid M
      have HR := hid hrun'
      clear M ok hrun hrun'
      go_wp2
      refine bodyPost_ret (v := .tuple #[.slice (some ⟨w2.heap.size, 0, none⟩) c.ls.length c.ls.length, .bool true]) (by simp [results, Tryz.results33, go_sem]) rfl ⟨_, rfl, ?_, hx⟩
      rw [← HR.out]
      have M := HM.out
      exact ⟨us, M.lo', Rws.right M.sl M.rows, (List.pairwise_append.1 M.apt).2.1, M.nls⟩
end Go.Proofs.YtaegmenjgjdimaaGreat
end

section
/- This text proves what the law reads back of a texture that was marked. -/
namespace Go.Proofs.YtaegmenjgjdimaaGreat
open Go.RowKit
end Go.Proofs.YtaegmenjgjdimaaGreat
end

section
/- This text proves what the law reads back of marked textures. -/
namespace Go.Proofs.YtaegmenjgjdimaaGreat
open Go.RowKit
theorem heldRes_mark (n : Nat) : heldRes (upFrom 1 n) 1 = 1 + n := by unfold heldRes; rw [upFrom_length, if_pos rfl]
end Go.Proofs.YtaegmenjgjdimaaGreat
end

section
/- This text holds whole blocks as the walks know them: what a block of cells holds, and what becomes of it. -/
namespace Go.Proofs.YtaegmenjgjdimaaGreat
open Go.RowKit

/-- block g of w holds the cells cs of element type t, and may be written -/
def Blk (w : World) (g : Nat) (t : TypeId) (cs : List Value) : Prop := w.heap[g]? = some (.cells cs.toArray t (0, 0))
theorem Blk.lt {w : World} {g : Nat} {t : TypeId} {cs : List Value} (h : Blk w g t cs) : g < w.heap.size := (Array.getElem?_eq_some_iff.1 h).1
theorem Blk.cell {w : World} {g : Nat} {t : TypeId} {cs : List Value} (h : Blk w g t cs) (i : Nat) {v : Value} (hi : cs[i]? = some v) : w.cell? ⟨g, i, none⟩ = some v := by
  unfold Blk at h
  simp [World.cell?, h, hi]
theorem Blk.free {w : World} {g : Nat} {t : TypeId} {cs : List Value} (h : Blk w g t cs) (i : Nat) : w.frozen? ⟨g, i, none⟩ = false := by
  unfold Blk at h
  simp [World.frozen?, h]
theorem Blk.new (w : World) (t : TypeId) (cs : List Value) : Blk (w.alloc (.cells cs.toArray t)) w.heap.size t cs := by
  show (w.heap.push _)[w.heap.size]? = _
  simp
theorem Blk.of {w w' : World} {g : Nat} {t : TypeId} {cs : List Value} (h : Blk w g t cs) (e : w'.heap[g]? = w.heap[g]?) : Blk w' g t cs := e.trans h
theorem Blk.ext {w w' : World} {g : Nat} {t : TypeId} {cs : List Value} (h : Blk w g t cs) (e : Ext w w') : Blk w' g t cs := h.of (e.block h.lt)
theorem Blk.set {w : World} {g : Nat} {t : TypeId} {cs : List Value} (h : Blk w g t cs) (i : Nat) (v : Value) : Blk (w.setCell ⟨g, i, none⟩ v) g t (cs.set i v) := by
  have hlt := h.lt
  have h' : w.heap[g] = .cells cs.toArray t (0, 0) := by unfold Blk at h; simpa [Array.getElem?_eq_getElem hlt] using h
  show (w.heap.modify g _)[g]? = _
  rw [Array.getElem?_eq_getElem (by simpa using hlt), Array.getElem_modify_self, h']
  simp
theorem Blk.other {w : World} {g : Nat} {t : TypeId} {cs : List Value} (h : Blk w g t cs) {a : Addr} (ne : g ≠ a.block) (v : Value) : Blk (w.setCell a v) g t cs := h.of (Below.heap_setCell _ _ _ _ ne)
theorem Blk.grown {w w' : World} {g : Nat} {t : TypeId} {cs : List Value} {row : Option Nat} (h : Blk w g t cs) (hg : w.grownBy w' row) (ne : some g ≠ row) : Blk w' g t cs := h.of (hg.block g h.lt ne)

theorem OwnInts.grown {lo : Nat} {w w' : World} {v : Value} {xs : List Int} {row : Option Nat} (h : OwnInts lo w v xs) (hg : w.grownBy w' row) (ne : ∀ k, v.ownBlock = some k → some k ≠ row) : OwnInts lo w' v xs := by
  obtain ⟨⟨h1, h2⟩, h3⟩ := h
  refine ⟨⟨h1, ?_⟩, h3⟩
  rcases h2 with hn | ⟨g, cap, cur, rfl, hb, hh, r⟩
  · exact .inl hn
  · exact .inr ⟨g, cap, cur, rfl, hb, by rw [hg.block g ((Array.getElem?_eq_some_iff.1 hh).1) (ne g rfl)]; exact hh, r⟩
theorem OwnInts.setOther {lo : Nat} {w : World} {v : Value} {xs : List Int} (h : OwnInts lo w v xs) {a : Addr} (ne : v.ownBlock ≠ some a.block) (u : Value) : OwnInts lo (w.setCell a u) v xs := ⟨ownsRow_setCell_other h.1 ne u, h.2⟩
theorem OwnInts.fresh0 {lo g : Nat} {w : World} (hl : lo ≤ g) (h : Blk w g 3 []) : OwnInts lo w (.slice (some ⟨g, 0, none⟩) 0 0) [] :=
  ⟨⟨rfl, .inr ⟨g, 0, #[], rfl, hl, h, Nat.le_refl _, Nat.zero_le _, rfl, rfl⟩⟩, fun _ h => by cases h⟩
theorem OwnInts.block {lo : Nat} {w : World} {v : Value} {xs : List Int} (h : OwnInts lo w v xs) {k : Nat} (hk : v.ownBlock = some k) : ∃ cur, w.heap[k]? = some (.cells cur 3 (0, 0)) := by
  obtain ⟨⟨h1, h2⟩, h3⟩ := h
  rcases h2 with ⟨rfl, _⟩ | ⟨g, cap, cur, rfl, hb, hh, r⟩
  · cases hk
  · simp only [Value.ownBlock, Option.some.injEq] at hk
    subst hk
    exact ⟨cur, hh⟩
theorem Ext.gr {w w' : World} (h : Ext w w') (row : Option Nat) : w.grownBy w' row := ⟨h.os, h.tape, h.output, h.size, fun i hi _ => h.block hi⟩
theorem Ext.setNew {w w1 : World} (h : Ext w w1) {b : Nat} (hb : w.heap.size ≤ b) (i : Nat) (u : Value) : Ext w (w1.setCell ⟨b, i, none⟩ u) := h.setCell hb u
end Go.Proofs.YtaegmenjgjdimaaGreat
end

section
/- This text proves what the laws' helper functions over slices of rows do. -/
namespace Go.Proofs.YtaegmenjgjdimaaGreat
open Go.RowKit

/-- v owns, in the blocks from lo up to hi, rows that hold S -/
def SSO (lo hi : Nat) (w : World) (v : Value) (S : List (List Int)) : Prop := ∃ us, w.ownsRow lo 29 1 v us.length us ∧ Rws lo w us S ∧ Apt us ∧ (∀ k, v.ownBlock = some k → k < hi) ∧ ∀ u ∈ us, ∀ k, u.ownBlock = some k → k < hi
theorem Rws.blk {lo : Nat} {w : World} {us : List Value} {S : List (List Int)} (h : Rws lo w us S) : ∀ u ∈ us, ∀ k, u.ownBlock = some k → lo ≤ k ∧ k < w.heap.size := by
  intro u hu k hk
  obtain ⟨i, hi, rfl⟩ := List.getElem_of_mem hu
  have hl := h.len
  exact (h.own i us[i] (S[i]'(by omega)) (by simp [hi]) (by simp [show i < S.length by omega])).lt k hk
theorem OwnSS.o {lo : Nat} {w : World} {v : Value} {S : List (List Int)} (h : OwnSS lo w v S) : SSO lo w.heap.size w v S := by
  obtain ⟨us, h1, h2, h3, -⟩ := h
  exact ⟨us, h1, h2, h3, fun k hk => (World.ownsRow.lt h1 k hk).2, fun u hu k hk => (h2.blk u hu k hk).2⟩
theorem SSO.kp {lo hi : Nat} {w w' : World} {v : Value} {S : List (List Int)} (h : SSO lo hi w v S) (k : Kp lo hi w w') : SSO lo hi w' v S := by
  obtain ⟨us, h1, h2, h3, h4, h5⟩ := h
  refine ⟨us, ⟨h1.1, ?_⟩, ⟨h2.len, fun i u xs hu hx => ?_⟩, h3, h4, h5⟩
  · rcases h1.2 with hn | ⟨g, cap, cur, hv, hb, hg, r⟩
    · exact .inl hn
    · exact .inr ⟨g, cap, cur, hv, hb, by rw [k.2 g hb (h4 g (by rw [hv]; rfl))]; exact hg, r⟩
  · have hown := h2.own i u xs hu hx
    exact (IntsO.kp (hi := hi) ⟨hown, h5 u (List.mem_of_getElem? hu)⟩ k).1
theorem SSO.ss {lo hi : Nat} {w : World} {v : Value} {S : List (List Int)} (h : SSO lo hi w v S) : SS 0 w.heap.size w v S := by
  obtain ⟨us, h1, h2, _⟩ := h
  exact ownsRow.ss h1 h2
theorem SSO.form {lo hi : Nat} {w : World} {v : Value} {S : List (List Int)} (h : SSO lo hi w v S) : ∃ a c, v = .slice a S.length c := by
  obtain ⟨us, h1, h2, _⟩ := h
  obtain ⟨a, c, e⟩ := ownsRow.form h1
  exact ⟨a, c, by rw [e, h2.len]⟩
/-- the number of cells in all rows -/
def tot : List (List Int) → Nat
  | [] => 0
  | x :: r => x.length + tot r
/-- the rows, marked from k on -/
def markS : Int → List (List Int) → List (List Int)
  | _, [] => []
  | k, x :: r => upFrom k x.length :: markS (k + x.length) r
theorem tot_append (a b : List (List Int)) : tot (a ++ b) = tot a + tot b := by
  induction a with
  | nil => simp [tot]
  | cons x r ih => simp [tot, ih]; omega
theorem markS_append (k : Int) (a b : List (List Int)) : markS k (a ++ b) = markS k a ++ markS (k + tot a) b := by
  induction a generalizing k with
  | nil => simp [markS, tot]
  | cons x r ih =>
    simp only [List.cons_append, markS, tot, ih]
    rw [show k + ((x.length + tot r : Nat) : Int) = k + x.length + tot r by omega]
theorem markS_length (k : Int) (a : List (List Int)) : (markS k a).length = a.length := by
  induction a generalizing k with
  | nil => rfl
  | cons x r ih => simp [markS, ih]
theorem tot_take_succ {S : List (List Int)} {j : Nat} (h : j < S.length) : tot (S.take (j + 1)) = tot (S.take j) + S[j].length := by
  rw [List.take_succ_eq_append_getElem h, tot_append]
  simp [tot]
theorem tot_take_le (S : List (List Int)) (j : Nat) : tot (S.take j) ≤ tot S := by
  have := tot_append (S.take j) (S.drop j)
  rw [List.take_append_drop] at this
  omega
theorem markS_take_succ {S : List (List Int)} {j : Nat} (k : Int) (h : j < S.length) : markS k (S.take (j + 1)) = markS k (S.take j) ++ [upFrom (k + tot (S.take j)) S[j].length] := by
  rw [List.take_succ_eq_append_getElem h, markS_append]
  rfl
theorem markS_step {S : List (List Int)} {j : Nat} (k : Int) (h : j < S.length) : (markS k (S.take j) ++ S.drop j).set j (upFrom (k + tot (S.take j)) S[j].length) = markS k (S.take (j + 1)) ++ S.drop (j + 1) := by
  have hl : (markS k (S.take j)).length = j := by rw [markS_length, List.length_take]; omega
  rw [List.set_append_right _ _ (by omega), hl, Nat.sub_self, List.drop_eq_getElem_cons h, List.set_cons_zero, markS_take_succ k h, List.append_assoc]
  rfl
theorem Apt.ne {us : List Value} (h : Apt us) {i j : Nat} {u v : Value} (hi : us[i]? = some u) (hj : us[j]? = some v) (ne : i ≠ j) : ∀ k, u.ownBlock = some k → v.ownBlock ≠ some k := by
  obtain ⟨hi1, hi2⟩ := List.getElem?_eq_some_iff.1 hi
  obtain ⟨hj1, hj2⟩ := List.getElem?_eq_some_iff.1 hj
  have hp := List.pairwise_iff_getElem.1 h
  subst hi2 hj2
  intro k hk e
  rcases Nat.lt_or_gt_of_ne ne with hlt | hlt
  · exact hp i j hi1 hj1 hlt k hk e
  · exact hp j i hj1 hi1 hlt k e hk
theorem Rws.marked {lo : Nat} {w w' : World} {us : List Value} {T : List (List Int)} (h : Rws lo w us T) (ha : Apt us) {j : Nat} {u : Value} {xs : List Int} (hj : us[j]? = some u) (hv : OwnInts lo w' u xs) (hg : w.grownBy w' u.ownBlock) : Rws lo w' us (T.set j xs) := by
  refine ⟨by rw [List.length_set]; exact h.len, fun i v ys h1 h2 => ?_⟩
  by_cases hij : i = j
  · subst hij
    rw [h1] at hj
    injection hj with hj
    subst hj
    rw [List.getElem?_set] at h2
    rw [if_pos rfl] at h2
    split at h2
    · injection h2 with h2
      exact h2 ▸ hv
    · cases h2
  · rw [List.getElem?_set_ne (by omega)] at h2
    refine (h.own i v ys h1 h2).grown hg fun k hk e => ?_
    exact ha.ne h1 hj hij k hk e.symm
end Go.Proofs.YtaegmenjgjdimaaGreat
end

section
/- This text proves the reference's derivatives of a row. -/
namespace Go.Proofs.YtaegmenjgjdimaaGreat
open Go.RowKit

theorem diff_at {n j i : Nat} (hi : i < n) : (j * n + i) % n = i ∧ (j * n + i) / n = j := by
  constructor
  · rw [Nat.mul_comm, Nat.mul_add_mod]; exact Nat.mod_eq_of_lt hi
  · rw [Nat.mul_comm, Nat.mul_add_div (by omega), Nat.div_eq_of_lt hi, Nat.add_zero]
/-- the derivative along a row, a step ahead or a step back -/
theorem dCol {xs : List Int} {n j i : Nat} (hi : i < n) (hn : n ≠ 1) : dVal xs n false (j * n + i) = if i + 1 < n then satI (xs.getD (j * n + (i + 1)) 0 - xs.getD (j * n + i) 0) else satI (xs.getD (j * n + i) 0 - xs.getD (j * n + (i - 1)) 0) := by
  obtain ⟨h1, h2⟩ := diff_at (j := j) hi
  unfold dVal dAt dStep
  rw [if_neg hn]
  simp only [Bool.false_eq_true, if_false, h1]
  by_cases h : i + 1 < n
  · rw [if_pos (by omega), if_pos h, Nat.add_assoc]
  · rw [if_neg (by omega), if_neg h, Nat.add_sub_assoc (by omega)]
theorem dRow {xs : List Int} {n j i : Nat} (hi : i < n) (hn : n ≠ 1) : dVal xs n true (j * n + i) = if j + 1 < n then satI (xs.getD (j * n + n + i) 0 - xs.getD (j * n + i) 0) else satI (xs.getD (j * n + i) 0 - xs.getD (j * n - n + i) 0) := by
  obtain ⟨h1, h2⟩ := diff_at (j := j) hi
  unfold dVal dAt dStep
  rw [if_neg hn]
  simp only [if_true, h2]
  by_cases h : j + 1 < n
  · rw [if_pos (by omega), if_pos h, show j * n + i + n = j * n + n + i by omega]
  · rw [if_neg (by omega), if_neg h]
    have hj : 1 ≤ j ∨ j = 0 := by omega
    rcases hj with hj | hj
    · have : 1 * n ≤ j * n := Nat.mul_le_mul_right _ hj
      rw [show j * n + i - n = j * n - n + i by omega]
    · subst hj
      exact absurd (by omega) hn
theorem OwnInts.take_snoc {lo : Nat} {w : World} {v : Value} {D : List Int} {k : Nat} {x : Int} (h : OwnInts lo w v (D.take k ++ [x])) (hk : k < D.length) (hx : D[k] = x) : OwnInts lo w v (D.take (k + 1)) := by
  rw [List.take_succ_eq_append_getElem hk, hx]
  exact h
end Go.Proofs.YtaegmenjgjdimaaGreat
end

section
/- This text proves the reference's rows of an instruction without operands. -/
namespace Go.Proofs.YtaegmenjgjdimaaGreat
open Go.RowKit

/-- a box of one grid -/
structure GBox (w : World) (B : Nat) (n : Int) (pu : Value) (tm lg : Int) (tu : Value) : Prop where
  lt : B < w.heap.size
  c0 : w.cell? ⟨B, 0, none⟩ = some (.int .i64 n)
  c1 : w.cell? ⟨B, 1, none⟩ = some pu
  c2 : w.cell? ⟨B, 2, none⟩ = some (.int .i64 tm)
  c3 : w.cell? ⟨B, 3, none⟩ = some (.int .i64 lg)
  c4 : w.cell? ⟨B, 4, none⟩ = some tu
theorem GBox.made (w : World) (n : Int) (pu : Value) (tm lg : Int) (tu : Value) (ty : TypeId) : GBox (w.alloc (.cells #[.int .i64 n, pu, .int .i64 tm, .int .i64 lg, tu] ty)) w.heap.size n pu tm lg tu := ⟨by simp, by simp [go_sem], by simp [go_sem], by simp [go_sem], by simp [go_sem], by simp [go_sem]⟩
theorem GBox.ext {w w' : World} {B : Nat} {n : Int} {pu : Value} {tm lg : Int} {tu : Value} (h : GBox w B n pu tm lg tu) (e : Ext w w') : GBox w' B n pu tm lg tu := by
  have := e.size
  have h0 := h.lt
  obtain ⟨a, b⟩ := e.cells
  exact ⟨by omega, (a B _ h0).trans h.c0, (a B _ h0).trans h.c1, (a B _ h0).trans h.c2, (a B _ h0).trans h.c3, (a B _ h0).trans h.c4⟩
end Go.Proofs.YtaegmenjgjdimaaGreat
end

section
/- This text proves the reference's rows of an instruction with operands. -/
namespace Go.Proofs.YtaegmenjgjdimaaGreat
open Go.RowKit

end Go.Proofs.YtaegmenjgjdimaaGreat
end

section
/- This text proves the reference's rows of all instructions with operands. -/
namespace Go.Proofs.YtaegmenjgjdimaaGreat
open Go.RowKit

/-- an operation at a column -/
def opV (num : Int) (x : List Int) : Int := opI num (x.getD 0 0) (x.getD (if num = 3 then 0 else 1) 0)
theorem op_row {m : Nat} {num : Int} {S : List (List Int)} {a b : List Int} (ha : S[0]? = some a) (hb : S[if num = 3 then 0 else 1]? = some b) (h1 : a.length = m) (h2 : b.length = m) : ((List.range m).map fun k => satI (opV num (colOf S k))) = List.zipWith (arithI num) a b := by
  apply List.ext_getElem?
  intro i
  by_cases hi : i < m
  · have e1 : (colOf S i).getD 0 0 = a[i]'(by omega) := by
      unfold colOf
      rw [List.getD, List.getElem?_map, ha]
      exact getD_at a i (by omega)
    have e2 : (colOf S i).getD (if num = 3 then 0 else 1) 0 = b[i]'(by omega) := by
      unfold colOf
      rw [List.getD, List.getElem?_map, hb]
      exact getD_at b i (by omega)
    rw [List.getElem?_map, List.getElem?_range hi, List.getElem?_eq_getElem (by simp; omega), List.getElem_zipWith]
    simp only [Option.map_some, Option.some.injEq]
    unfold opV arithI
    rw [e1, e2]
  · rw [List.getElem?_eq_none (by simp; omega), List.getElem?_eq_none (by simp; omega)]
end Go.Proofs.YtaegmenjgjdimaaGreat
end

section
/- This text proves the reference's RunGrid where it hands back no rows, and the rows of its instructions. -/
namespace Go.Proofs.YtaegmenjgjdimaaGreat
open Go.RowKit

end Go.Proofs.YtaegmenjgjdimaaGreat
end

section
/- This text proves the reference's RunGrid where it runs. -/
namespace Go.Proofs.YtaegmenjgjdimaaGreat
open Go.RowKit

/-- the reference's memory of the machine: the stack sv (headers vs) holds S, the locals lv (headers us) hold L -/
structure Mst (lo lo2 : Nat) (w : World) (sv lv : Value) (vs us : List Value) (S L : List (List Int)) : Prop where
  so : w.ownsRow lo2 29 1 sv vs.length vs
  lo' : w.ownsRow lo 29 1 lv us.length us
  sep : ∀ k, lv.ownBlock = some k → k < lo2
  hl : lo ≤ lo2
  hl2 : lo2 ≤ w.heap.size
  sr : Rws lo w vs S
  lr : Rws lo w us L
theorem Mst.ext {lo lo2 : Nat} {w w' : World} {sv lv : Value} {vs us : List Value} {S L : List (List Int)} (M : Mst lo lo2 w sv lv vs us S L) (e : Ext w w') : Mst lo lo2 w' sv lv vs us S L := by
  have hg : w.grownBy w' none := ⟨Below.os e, Below.tape e, Below.output e, e.size, fun k hk _ => e.block hk⟩
  exact ⟨M.so.kept hg (by cases sv.ownBlock <;> simp), M.lo'.kept hg (by cases lv.ownBlock <;> simp), M.sep, M.hl, Nat.le_trans M.hl2 e.size, M.sr.keepI e.keepI, M.lr.keepI e.keepI⟩

theorem Mst.push {lo lo2 : Nat} {w w' : World} {sv lv v' y : Value} {vs us : List Value} {S L : List (List Int)} {r : List Int} (M : Mst lo lo2 w sv lv vs us S L) (hv' : w'.ownsRow lo2 29 1 v' (vs.length + 1) (vs ++ [y])) (hg : w.grownBy w' sv.ownBlock) (hy : OwnInts lo w y r) :
    Mst lo lo2 w' v' lv (vs ++ [y]) us (S ++ [r]) L ∧ Below lo w w' := by
  have hsl := World.ownsRow.lt M.so
  have kk : KeepI w w' := KeepI.grown hg (fun k cur fr hk => ownsRow.int M.so (by decide) k cur fr hk)
  refine ⟨⟨by simpa using hv', M.lo'.kept hg ?_, M.sep, M.hl, Nat.le_trans M.hl2 hg.size, (M.sr.keepI kk).snoc (hy.keepI kk), M.lr.keepI kk⟩, Below.grown (Below.refl _ _) hg (Nat.le_trans M.hl M.hl2) (fun k hk => by have := (hsl k hk).1; have := M.hl; omega)⟩
  cases hk : lv.ownBlock with
  | none => exact .inl rfl
  | some k => exact .inr (fun e => by have h1 := M.sep k hk; have h2 := (hsl k e.symm).1; omega)
theorem Mst.shrink {lo lo2 g cap : Nat} {w : World} {lv : Value} {vs us : List Value} {S L : List (List Int)} (M : Mst lo lo2 w (.slice (some ⟨g, 0, none⟩) vs.length cap) lv vs us S L) (q : Nat) (hq : q ≤ vs.length) : Mst lo lo2 w (.slice (some ⟨g, 0, none⟩) q cap) lv (vs.take q) us (S.take q) L := by
  have e : (vs.take q).length = q := by simp; omega
  exact ⟨by rw [e]; exact ownsRow.shrink M.so hq, M.lo', M.sep, M.hl, M.hl2, M.sr.take q, M.lr⟩
theorem Mst.store {lo lo2 lb lc : Nat} {w : World} {sv y : Value} {vs us : List Value} {S L : List (List Int)} {r : List Int} (M : Mst lo lo2 w sv (.slice (some ⟨lb, 0, none⟩) us.length lc) vs us S L) (j : Nat) (hy : OwnInts lo w y r) :
    Mst lo lo2 (w.setCell ⟨lb, j, none⟩ y) sv (.slice (some ⟨lb, 0, none⟩) us.length lc) vs (us.set j y) S (L.set j r) ∧ Below lo w (w.setCell ⟨lb, j, none⟩ y) := by
  have hsto := World.ownsRow.stored M.lo' j y
  have kk : KeepI w (w.setCell ⟨lb, j, none⟩ y) := KeepI.setCell _ (fun cur fr => ownsRow.int M.lo' (by decide) lb cur fr rfl)
  have hsl := World.ownsRow.lt M.so
  have hll := World.ownsRow.lt M.lo' lb rfl
  have hl2 : (us.set j y).length = us.length := by simp
  refine ⟨⟨M.so.kept hsto.2 ?_, by rw [hl2]; exact hsto.1, M.sep, M.hl, by have := M.hl2; simpa using this, M.sr.keepI kk, (M.lr.keepI kk).set j (hy.keepI kk)⟩, Below.setCell (Below.refl _ _) hll.1 _⟩
  cases hk : sv.ownBlock with
  | none => exact .inl rfl
  | some k => exact .inr (fun e => by injection e with e; have h1 := M.sep lb rfl; have h2 := (hsl k hk).1; omega)
theorem ownsRow.size {w : World} {lo : Nat} {e : TypeId} {n : Nat} {v : Value} {xs : List Value} (h : w.ownsRow lo e 1 v n xs) : xs.length = n := by have := h.1; omega

end Go.Proofs.YtaegmenjgjdimaaGreat
end

section
/- This text proves the reference's RunGrid where it hands back no rows. -/
namespace Go.Proofs.YtaegmenjgjdimaaGreat
open Go.RowKit

end Go.Proofs.YtaegmenjgjdimaaGreat
end

section
/- This text holds RunGrid's contracts in one form, as the law wants them. -/
namespace Go.Proofs.YtaegmenjgjdimaaGreat
open Go.RowKit

theorem SS.kp {lo hi : Nat} {w w' : World} {v : Value} {S : List (List Int)} (h : SS lo hi w v S) (k : Kp lo hi w w') : SS lo hi w' v S := h.same k.same
/-- what RunGrid hands back -/
def Cod.res (c : Cod) (g : Grd) : List (List Int) := if (c.runB && g.okB) = true then c.out g else []
theorem OwnSS.nil (lo : Nat) (w : World) : OwnSS lo w (.slice none 0 0) [] := ⟨[], World.ownsRow_nil _ _ _ _, ⟨rfl, fun i v xs h => by simp at h⟩, List.Pairwise.nil, fun j u h => by simp at h⟩
theorem SS.nil (hi : Nat) (w : World) : SS 0 hi w (.slice none 0 0) [] := ⟨none, 0, rfl, Nat.le_refl _, by unfold maxLen; omega, fun i xs h => by simp at h⟩
theorem iRunGrid_one {b : Bool} {S : List (List Int)} (lo hi lo' hi' : Nat) (v u : Value) (c : Cod) (g : Grd) (w : World) (hb : (c.runB && g.okB) = b) (hS : c.res g = S) (hv : c.R lo hi w v) (hh : hi ≤ w.heap.size) (hu : g.R lo' hi' w u) (hh' : hi' ≤ w.heap.size) (hL : c.small) :
    Calls Tryz.prog 33 #[v, u] w fun e w' => ∃ r, e = .returned (.tuple #[r, .bool b]) ∧ OwnSS w.heap.size w' r S ∧ Ext w w' := by
  have hL' : c.ls.length ≤ 2000000 := by have := hL.2; omega
  subst hS
  unfold Cod.res
  cases b
  · rw [hb, if_neg (by decide)]
    exact (iRunGrid_no lo hi lo' hi' v u c g w hv hh hu hh' hL' hb).mono fun e w' ⟨h1, h2⟩ => ⟨_, h1, OwnSS.nil _ _, h2⟩
  · rw [hb, if_pos rfl]
    exact iRunGrid_yes lo hi lo' hi' v u c g w hv hh hu hh' hL' hb
theorem runG_small {L0 n m : Nat} {f : Nat → Int} {tm : Int} {t : Tex} (hm : n * n = m) (hf : ∀ i, i < m * 5 → S9 (f i)) (ht : S9 tm) :
    ∀ (xs : List Ins) (S L : List (List Int)), (∀ x ∈ xs, numB x = true) → Okst L0 m xs S L → (runG n m f tm t xs S L).length = L0 ∧ ∀ r ∈ runG n m f tm t xs S L, r.length ≤ m := by
  intro xs
  induction xs with
  | nil =>
    intro S L _ h
    refine ⟨h.len, fun r hr => ?_⟩
    obtain ⟨d, st, _, h2⟩ := h.run
    obtain ⟨j, hj⟩ := List.mem_iff_getElem?.1 hr
    rcases h2 j r hj with ⟨_, h3⟩ | ⟨_, h3⟩
    · have := h3.1; omega
    · rw [h3]; simp
  | cons x r ih =>
    intro S L hn h
    exact ih _ _ (fun y hy => hn y (List.mem_cons_of_mem _ hy)) (h.next hm (hn x List.mem_cons_self) hf ht)
theorem tot_le (S : List (List Int)) (m : Nat) (h : ∀ r ∈ S, r.length ≤ m) : tot S ≤ S.length * m := by
  induction S with
  | nil => simp [tot]
  | cons x r ih =>
    have h1 := h x List.mem_cons_self
    have h2 := ih fun y hy => h y (List.mem_cons_of_mem _ hy)
    simp only [tot, List.length_cons, Nat.add_mul, Nat.one_mul]
    omega
theorem Cod.res_tot {c : Cod} {g : Grd} (hc : c.small) : tot (c.res g) ≤ 4503599627370496 := by
  unfold Cod.res
  split
  · rename_i h
    simp only [Bool.and_eq_true] at h
    obtain ⟨h1, h2⟩ := h
    obtain ⟨n, hn, hm, hn1, hn8, ht, htm, hf⟩ := g.parts h2
    unfold Cod.runB at h1
    simp only [Bool.and_eq_true, List.all_eq_true] at h1
    have hnum := h1.2
    have hd := h1.1
    have key := runG_small (t := g.t) (f := g.f) (tm := g.tm) hm hf htm c.xs [] (List.replicate c.ls.length []) hnum (Okst.start hd)
    have e : c.out g = runG n g.m g.f g.tm g.t c.xs [] (List.replicate c.ls.length []) := by unfold Cod.out; rw [hn]; rfl
    rw [e]
    have h5 := tot_le _ _ key.2
    rw [key.1] at h5
    have h6 : n * n ≤ 8 * 8 := Nat.mul_le_mul hn8 hn8
    have h7 := Nat.mul_le_mul hc.2 (show g.m ≤ 64 by omega)
    omega
  · exact Nat.zero_le _
end Go.Proofs.YtaegmenjgjdimaaGreat
end

section
/- This text proves the search of a local by its name, of both sides. -/
namespace Go.Proofs.YtaegmenjgjdimaaGreat
open Go.RowKit

/-- the first place of the name s in ls, -1: none -/
def ixL (s : List UInt8) : List ByteArray → Int
  | [] => -1
  | x :: r => if x.toList = s then 0 else if ixL s r < 0 then -1 else ixL s r + 1
theorem ixL_bd (s : List UInt8) : ∀ ls, -1 ≤ ixL s ls ∧ ixL s ls < ls.length := by
  intro ls
  induction ls with
  | nil => simp [ixL]
  | cons x r ih =>
    simp only [ixL, List.length_cons]
    split
    · omega
    · split <;> omega
theorem ixL_at {s : List UInt8} : ∀ {ls : List ByteArray} {k : Nat} {y : ByteArray}, ls[k]? = some y → y.toList = s → (∀ j z, j < k → ls[j]? = some z → z.toList ≠ s) → ixL s ls = k := by
  intro ls
  induction ls with
  | nil => intro k y h; simp at h
  | cons x r ih =>
    intro k y h1 h2 h3
    cases k with
    | zero =>
      simp at h1
      subst h1
      simp [ixL, h2]
    | succ k =>
      have h0 := h3 0 x (by omega) rfl
      have := ih (k := k) (by simpa using h1) h2 (fun j z hj hz => h3 (j + 1) z (by omega) (by simpa using hz))
      simp only [ixL, if_neg h0, this]
      rw [if_neg (by omega)]
      simp
theorem ixL_no {s : List UInt8} : ∀ {ls : List ByteArray}, (∀ j z, j < ls.length → ls[j]? = some z → z.toList ≠ s) → ixL s ls = -1 := by
  intro ls
  induction ls with
  | nil => intro _; rfl
  | cons x r ih =>
    intro h
    have h0 := h 0 x (by simp) rfl
    have := ih (fun j z hj hz => h (j + 1) z (by simp; omega) (by simpa using hz))
    simp [ixL, if_neg h0, this]
set_option maxHeartbeats 1600000 in
theorem iIndex_any (lo hi : Nat) (u : Value) (ls : List ByteArray) (s : ByteArray) (w : World) (hu : Strs lo hi w u ls) (hl : ls.length ≤ 2000000) :
    Calls Tryz.prog 34 #[u, .string s] w fun e w' => e = .returned (.int .i64 (ixL s.toList ls)) ∧ w = w' := by
  obtain ⟨a, cap, rfl, HU⟩ := hu.open
  have l1 := HU.le
  have l2 := HU.cap
  clear hu
  go_enter Tryz.func34, Tryz.ntmps34
  go_wp2
  go_loopw [8] (fun i wr => ∃ k : Nat, k ≤ ls.length ∧ i = .int .i64 k ∧ wr = w ∧ ∀ j z, j < k → ls[j]? = some z → z.toList ≠ s.toList) (fun i _ => ls.length - (intOf i).toNat)
  case atStart => exact ⟨0, by omega, rfl, rfl, fun j x h => by omega⟩
  case round =>
    obtain ⟨k, hk, rfl, rfl, hno⟩ := hrel
    by_cases hlt : k < ls.length
    · obtain ⟨b, off, rfl, hb1, hb2, hc⟩ := HU.at hlt
      have hget : ls[k]? = some ls[k] := by simp [hlt]
      obtain ⟨y, hy⟩ : ∃ y, ls[k] = y := ⟨_, rfl⟩
      rw [hy] at hc hget
      clear hy
      by_cases he : (s.toList == y.toList) = true
      · have hv := hid (ixL_at hget (eq_of_beq he).symm hno)
        clear hno hget
        go_wp2
        go_ret
        exact ⟨by first | (rw [hv.out]; done) | (rw [hv.out]; rfl), rfl⟩
      · have HN : Hid (∀ j z, j < k + 1 → ls[j]? = some z → z.toList ≠ s.toList) := hid (fun j z hj hz => by
          by_cases hjk : j = k
          · subst hjk
            rw [hget] at hz
            injection hz with hz
            subst hz
            intro e
            exact he (by rw [e]; simp)
          · exact hno j z (by omega) hz)
        clear hno hget
        go_wp2
        go_roundw
        case rel => exact ⟨k + 1, by omega, by go_num, by trivial, HN.out⟩
        case measure => simp [intOf]; omega
    · obtain rfl : k = ls.length := by omega
      have hv := hid (ixL_no hno)
      clear hno
      go_wp2
      go_ret
      exact ⟨by first | (rw [hv.out]; done) | (rw [hv.out]; rfl), rfl⟩
end Go.Proofs.YtaegmenjgjdimaaGreat
end

section
/- This text says what ShadeGrid hands back, case by case, and opens the rows of RunGrid's result. -/
namespace Go.Proofs.YtaegmenjgjdimaaGreat
open Go.RowKit

theorem iIndex_val {i : Int} {s : ByteArray} {ls : List ByteArray} (h : ixL s.toList ls = i) (lo hi : Nat) (u : Value) (w : World) (hu : Strs lo hi w u ls) (hl : ls.length ≤ 2000000) :
    Calls Tryz.prog 34 #[u, .string s] w fun e w' => e = .returned (.int .i64 i) ∧ w = w' := h ▸ iIndex_any lo hi u ls s w hu hl
def colorIx (ls : List ByteArray) : Int := ixL (⟨#[99, 111, 108, 111, 114]⟩ : ByteArray).toList ls
def alphaIx (ls : List ByteArray) : Int := ixL (⟨#[97, 108, 112, 104, 97]⟩ : ByteArray).toList ls
/-- what ShadeGrid hands back -/
def Cod.shade (c : Cod) (g : Grd) : List Int × List Int × Bool :=
  if (c.runB && g.okB) = true ∧ 0 ≤ colorIx c.ls ∧ (c.res g).getD (colorIx c.ls).toNat [] ≠ [] ∧ (alphaIx c.ls < 0 ∨ (c.res g).getD (alphaIx c.ls).toNat [] ≠ []) then
    (((c.res g).getD (colorIx c.ls).toNat []).map col, if alphaIx c.ls < 0 then List.replicate g.m 256 else ((c.res g).getD (alphaIx c.ls).toNat []).map col, true)
  else ([], [], false)
theorem Cod.res_small {c : Cod} {g : Grd} (h : (c.runB && g.okB) = true) : (c.res g).length = c.ls.length ∧ ∀ r ∈ c.res g, r.length ≤ 64 := by
  unfold Cod.res
  rw [if_pos h]
  simp only [Bool.and_eq_true] at h
  obtain ⟨h1, h2⟩ := h
  obtain ⟨n, hn, hm, hn1, hn8, ht, htm, hf⟩ := g.parts h2
  unfold Cod.runB at h1
  simp only [Bool.and_eq_true, List.all_eq_true] at h1
  have key := runG_small (t := g.t) (f := g.f) (tm := g.tm) hm hf htm c.xs [] (List.replicate c.ls.length []) h1.2 (Okst.start h1.1)
  have e : c.out g = runG n g.m g.f g.tm g.t c.xs [] (List.replicate c.ls.length []) := by unfold Cod.out; rw [hn]; rfl
  rw [e]
  have h6 : n * n ≤ 8 * 8 := Nat.mul_le_mul hn8 hn8
  exact ⟨key.1, fun r hr => by have := key.2 r hr; omega⟩
theorem shade_neg {P : Prop} [Decidable P] {A : List Int × List Int × Bool} {X Y : List Int} {b : Bool} (h : (if P then A else ([], [], false)) = (X, Y, b)) (hP : ¬P) : X = [] ∧ Y = [] ∧ b = false := by
  rw [if_neg hP] at h
  simp only [Prod.mk.injEq] at h
  exact ⟨h.1.symm, h.2.1.symm, h.2.2.symm⟩
/-- the cases of ShadeGrid -/
structure ShCases (m : Nat) (R : Bool) (S : List (List Int)) (i j : Int) (X Y : List Int) (b : Bool) : Prop where
  all : (R = false ∧ X = [] ∧ Y = [] ∧ b = false) ∨
    (R = true ∧ i = -1 ∧ X = [] ∧ Y = [] ∧ b = false) ∨
    (R = true ∧ ∃ k : Nat, i = k ∧ k ≤ 2000000 ∧ S[k]? = some [] ∧ X = [] ∧ Y = [] ∧ b = false) ∨
    (R = true ∧ ∃ (k : Nat) (r : List Int), i = k ∧ k ≤ 2000000 ∧ S[k]? = some r ∧ r ≠ [] ∧ r.length ≤ 64 ∧
      ((∃ l : Nat, j = l ∧ l ≤ 2000000 ∧ S[l]? = some [] ∧ X = [] ∧ Y = [] ∧ b = false) ∨ (j = -1 ∧ X = r.map col ∧ Y = List.replicate m 256 ∧ b = true) ∨
        ∃ (l : Nat) (q : List Int), j = l ∧ l ≤ 2000000 ∧ S[l]? = some q ∧ q ≠ [] ∧ q.length ≤ 64 ∧ X = r.map col ∧ Y = q.map col ∧ b = true))
theorem shade_cases {c : Cod} {g : Grd} {R : Bool} {S : List (List Int)} {i j : Int} {X Y : List Int} {b : Bool} (hL : c.small) (hs : c.shade g = (X, Y, b)) (eR : (c.runB && g.okB) = R) (eS : c.res g = S) (ei : colorIx c.ls = i) (ej : alphaIx c.ls = j) : ShCases g.m R S i j X Y b := by
  have bi := ixL_bd (⟨#[99, 111, 108, 111, 114]⟩ : ByteArray).toList c.ls
  have bj := ixL_bd (⟨#[97, 108, 112, 104, 97]⟩ : ByteArray).toList c.ls
  have hl := hL.2
  rw [show ixL (⟨#[99, 111, 108, 111, 114]⟩ : ByteArray).toList c.ls = i from ei] at bi
  rw [show ixL (⟨#[97, 108, 112, 104, 97]⟩ : ByteArray).toList c.ls = j from ej] at bj
  unfold Cod.shade at hs
  rw [eR, eS, ei, ej] at hs
  refine ⟨?_⟩
  cases R with
  | false => exact .inl ⟨rfl, shade_neg hs (fun h => by cases h.1)⟩
  | true =>
    right
    have hz := Cod.res_small eR
    rw [eS] at hz
    by_cases h1 : i < 0
    · exact .inl ⟨rfl, by omega, shade_neg hs (fun h => by have := h.2.1; omega)⟩
    · right
      obtain ⟨k, rfl⟩ : ∃ k : Nat, i = k := ⟨i.toNat, by omega⟩
      simp only [Int.toNat_natCast] at hs
      have hk : k < S.length := by omega
      have gk : S.getD k [] = S[k] := by simp [List.getD, hk]
      have sk : S[k]? = some S[k] := by simp [hk]
      rw [gk] at hs
      by_cases h2 : S[k] = []
      · exact .inl ⟨rfl, k, rfl, by omega, h2 ▸ sk, shade_neg hs (fun h => h.2.2.1 h2)⟩
      · refine .inr ⟨rfl, k, S[k], rfl, by omega, sk, h2, hz.2 _ (List.getElem_mem hk), ?_⟩
        by_cases h3 : j < 0
        · rw [if_pos ⟨by trivial, by omega, h2, .inl h3⟩, if_pos h3] at hs
          simp only [Prod.mk.injEq] at hs
          exact .inr (.inl ⟨by omega, hs.1.symm, hs.2.1.symm, hs.2.2.symm⟩)
        · obtain ⟨l, rfl⟩ : ∃ l : Nat, j = l := ⟨j.toNat, by omega⟩
          simp only [Int.toNat_natCast] at hs
          have hl' : l < S.length := by omega
          have gl : S.getD l [] = S[l] := by simp [List.getD, hl']
          have sl : S[l]? = some S[l] := by simp [hl']
          rw [gl] at hs
          by_cases h4 : S[l] = []
          · exact .inl ⟨l, rfl, by omega, h4 ▸ sl, shade_neg hs (fun h => by rcases h.2.2.2 with h | h; exact h3 h; exact h h4)⟩
          · rw [if_pos ⟨by trivial, by omega, h2, .inr h4⟩, if_neg h3] at hs
            simp only [Prod.mk.injEq] at hs
            exact .inr (.inr ⟨l, S[l], rfl, by omega, sl, h4, hz.2 _ (List.getElem_mem hl'), hs.1.symm, hs.2.1.symm, hs.2.2.symm⟩)
/-- the rows of a result of the program's RunGrid -/
theorem OwnSS.open1 {lo : Nat} {w : World} {v : Value} {S : List (List Int)} (h : OwnSS lo w v S) (hn : 1 ≤ S.length) : ∃ b cap, v = .slice (some ⟨b, 0, none⟩) S.length cap ∧ b < w.heap.size ∧ S.length ≤ cap ∧ cap ≤ 9223372036854775807 ∧ ∀ k r, S[k]? = some r → ∃ ru, w.cell? ⟨b, k, none⟩ = some ru ∧ OwnInts lo w ru r ∧ (r = [] → ru = .slice none 0 0) := by
  obtain ⟨us, h1, h2, h3, h4⟩ := h
  have hl := h2.len
  obtain ⟨b, cap, rfl, hb1, hb2⟩ := ownsRow.form1 h1 (by omega)
  obtain ⟨k1, k2⟩ := ownsRow.caps h1
  refine ⟨b, cap, by rw [hl], hb2, by omega, k2, fun k r hr => ?_⟩
  have hk : k < us.length := by have := (List.getElem?_eq_some_iff.1 hr).1; omega
  have hu : us[k]? = some us[k] := by simp [hk]
  refine ⟨us[k], ?_, h2.own k us[k] r hu hr, fun e => h4 k us[k] hu (e ▸ hr)⟩
  have := World.ownsRow.cellAt h1 k (by omega)
  rw [hu] at this
  exact this
theorem OwnInts.someAt {lo : Nat} {w : World} {v : Value} {xs : List Int} (h : OwnInts lo w v xs) (hx : xs ≠ []) : ∃ g c, v = .slice (some ⟨g, 0, none⟩) xs.length c ∧ g < w.heap.size := by
  rcases h.1.2 with ⟨rfl, h4⟩ | ⟨g, cap, cur, rfl, hb, hg, hc, hm, hs, ht⟩
  · exact absurd (List.length_eq_zero_iff.1 h4) hx
  · exact ⟨g, cap, rfl, (Array.getElem?_eq_some_iff.1 hg).1⟩
theorem IntsO.nil (lo hi : Nat) (w : World) : IntsO lo hi w (.slice none 0 0) [] := ⟨⟨World.ownsRow_nil _ _ _ _, fun x h => by cases h⟩, fun k h => by cases h⟩
theorem IntsO.high {lo hi hi' : Nat} {w : World} {v : Value} {xs : List Int} (h : IntsO lo hi w v xs) (hh : hi ≤ hi') : IntsO lo hi' w v xs := ⟨h.1, fun k hk => by have := h.2 k hk; omega⟩
end Go.Proofs.YtaegmenjgjdimaaGreat
end
