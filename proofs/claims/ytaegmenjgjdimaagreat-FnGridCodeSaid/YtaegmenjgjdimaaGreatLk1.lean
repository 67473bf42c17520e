/- This text proves what the laws' helper functions over grids compute. -/
import Derived.Test.YtaegmenjgjdimaaGreatGr1
import Derived.Test.YtaegmenjgjdimaaGreatCl1
import Derived.Test.YtaegmenjgjdimaaGreatLawKit
namespace Go.Proofs.YtaegmenjgjdimaaGreat
open Go.RowKit

/-- the blocks from a up to b stand in w' as in w, and the world has not shrunk -/
def Kp (a b : Nat) (w w' : World) : Prop := w.heap.size ≤ w'.heap.size ∧ ∀ k, a ≤ k → k < b → w'.heap[k]? = w.heap[k]?
theorem Ext.kp {w w' : World} (h : Ext w w') {a b : Nat} (hb : b ≤ w.heap.size) : Kp a b w w' := ⟨h.size, fun _ _ h2 => h.block (by omega)⟩
theorem Part.kp {lo M : Nat} {w w' : World} (h : Part lo M w w') {a b : Nat} (hb : b ≤ w.heap.size) (hs : b ≤ lo ∨ M ≤ a) : Kp a b w w' := ⟨h.size, fun k h1 h2 => h.block (by omega) (by omega)⟩
theorem Kp.same {a b : Nat} {w w' : World} (h : Kp a b w w') : Same a b w w' := fun k h1 h2 => h.2 k h1 h2
/-- the block B holds the cells cs -/
def Bx (w : World) (B : Nat) (cs : Array Value) (t : TypeId) : Prop := w.heap[B]? = some (.cells cs t)
theorem Bx.made (w : World) (cs : Array Value) (t : TypeId) : Bx (w.alloc (.cells cs t)) w.heap.size cs t := by show (w.heap.push _)[w.heap.size]? = _; simp
theorem Bx.madeAt {B : Nat} (w : World) (cs : Array Value) (t : TypeId) (h : w.heap.size = B) : Bx (w.alloc (.cells cs t)) B cs t := h ▸ Bx.made w cs t
theorem Bx.lt {w : World} {B : Nat} {cs : Array Value} {t : TypeId} (h : Bx w B cs t) : B < w.heap.size := (Array.getElem?_eq_some_iff.1 h).1
theorem Bx.kp {w w' : World} {B : Nat} {cs : Array Value} {t : TypeId} (h : Bx w B cs t) (k : Kp B (B + 1) w w') : Bx w' B cs t := (k.2 B (Nat.le_refl _) (by omega)).trans h
theorem Bx.cell {w : World} {B : Nat} {cs : Array Value} {t : TypeId} (h : Bx w B cs t) (i : Nat) : w.cell? ⟨B, i, none⟩ = cs[i]? := by
  unfold Bx at h
  simp [World.cell?, h]
theorem Ints.kp {lo hi : Nat} {w w' : World} {v : Value} {xs : List Int} (h : Ints lo hi w v xs) (k : Kp lo hi w w') : Ints lo hi w' v xs := h.same k.same
/-- v owns, in the blocks from lo up to hi, the integers xs -/
def IntsO (lo hi : Nat) (w : World) (v : Value) (xs : List Int) : Prop := OwnInts lo w v xs ∧ ∀ k, v.ownBlock = some k → k < hi
theorem OwnInts.o {lo : Nat} {w : World} {v : Value} {xs : List Int} (h : OwnInts lo w v xs) : IntsO lo w.heap.size w v xs := ⟨h, fun k hk => (h.lt k hk).2⟩
theorem IntsO.kp {lo hi : Nat} {w w' : World} {v : Value} {xs : List Int} (h : IntsO lo hi w v xs) (k : Kp lo hi w w') : IntsO lo hi w' v xs := by
  obtain ⟨⟨⟨h1, h2⟩, h3⟩, h4⟩ := h
  refine ⟨⟨⟨h1, ?_⟩, h3⟩, h4⟩
  rcases h2 with hn | ⟨g, cap, cur, hv, hb, hg, r⟩
  · exact .inl hn
  · exact .inr ⟨g, cap, cur, hv, hb, by rw [k.2 g hb (h4 g (by rw [hv]; rfl))]; exact hg, r⟩
theorem IntsO.ints {lo hi : Nat} {w : World} {v : Value} {xs : List Int} (h : IntsO lo hi w v xs) : Ints lo hi w v xs := by
  obtain ⟨a, cap, rfl, h2, h3, h4⟩ := h.1.ints
  refine ⟨a, cap, rfl, h2, h3, fun i x hx => ?_⟩
  obtain ⟨h5, b, off, rfl, h7, h8, h9⟩ := h4 i x hx
  exact ⟨h5, b, off, rfl, h7, h.2 b rfl, h9⟩

/-- v owns the grid g in the blocks from lo up to hi -/
def Grd.O (g : Grd) (lo hi : Nat) (w : World) (v : Value) : Prop := ∃ b tu, v = .agg #[.int .i64 g.n, .slice (some ⟨b, 0, none⟩) g.m g.m, .int .i64 g.tm, .int .i64 g.t.log, tu] ∧ lo ≤ b ∧ b < hi ∧ RowI w b 157 (g.m * 5) g.f ∧ IntsO lo hi w tu g.t.px ∧ I64 g.n ∧ I64 g.tm ∧ I64 g.t.log ∧ (∀ i, i < g.m * 5 → I64 (g.f i)) ∧ g.m ≤ 1048576
theorem Grd.O.kp {g : Grd} {lo hi : Nat} {w w' : World} {v : Value} (h : g.O lo hi w v) (k : Kp lo hi w w') : g.O lo hi w' v := by
  obtain ⟨b, tu, h1, h2, h3, h4, h5, h6⟩ := h
  exact ⟨b, tu, h1, h2, h3, h4.of (k.2 b h2 h3), h5.kp k, h6⟩
theorem Grd.O.R {g : Grd} {lo hi : Nat} {w : World} {v : Value} (h : g.O lo hi w v) : g.R lo hi w v := by
  obtain ⟨b, tu, rfl, h2, h3, h4, h5, h6, h7, h8, h9, h10⟩ := h
  exact ⟨_, tu, rfl, h6, h7, h8, ⟨_, g.m, rfl, Nat.le_refl _, by unfold maxLen; omega, fun i hx => ⟨h9 i hx, b, 0, rfl, h2, h3, by rw [Nat.zero_add]; exact h4.cell hx⟩⟩, h5.ints⟩
theorem Grd.O.form {g : Grd} {lo hi : Nat} {w : World} {v : Value} (h : g.O lo hi w v) : ∃ b a c, v = .agg #[.int .i64 g.n, .slice (some ⟨b, 0, none⟩) g.m g.m, .int .i64 g.tm, .int .i64 g.t.log, .slice a g.t.px.length c] := by
  obtain ⟨b, tu, rfl, h2, h3, h4, h5, h6⟩ := h
  obtain ⟨a, c, rfl, _⟩ := h5.1.form
  exact ⟨b, a, c, rfl⟩
theorem Grd.O.low {g : Grd} {lo hi lo' : Nat} {w : World} {v : Value} (h : g.O lo hi w v) (hl : lo' ≤ lo) : g.O lo' hi w v := by
  obtain ⟨b, tu, h1, h2, h3, h4, ⟨h5, h5'⟩, h6⟩ := h
  exact ⟨b, tu, h1, by omega, h3, h4, ⟨h5.low hl, h5'⟩, h6⟩

theorem info_Point : (Tryz.prog.info? 157).map (fun i => (i.zero, i.size, i.bytes)) = some (some (.agg #[.int .i64 0, .int .i64 0, .int .i64 0, .int .i64 0, .int .i64 0]), 5, 40) := by kernel_rfl
/-- a store into a whole block of integers -/
theorem RowI.put {w : World} {b : Nat} {t : TypeId} {n : Nat} {f : Nat → Int} (h : RowI w b t n f) (i : Nat) (x : Int) : ∃ f', RowI (w.setCell ⟨b, i, none⟩ (.int .i64 x)) b t n f' :=
  ⟨fun j => if j = i then x else f j, World.rowIs.congr (World.rowIs.set h i (.int .i64 x)) fun j _ => by by_cases e : j = i <;> simp [e]⟩
end Go.Proofs.YtaegmenjgjdimaaGreat
