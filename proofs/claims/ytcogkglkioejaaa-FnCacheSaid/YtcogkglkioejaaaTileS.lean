/- This text holds the reading of slices of tiles that a function owns, and what the laws' and the library's functions over them compute. -/
import Derived.Test.YtcogkglkioejaaaFlat
import Derived.Test.YtcogkglkioejaaaL16a
import Derived.Laws.StructEq
namespace Go.Proofs.Ytcogkglkioejaaa
open Go.RowKit

/-- a tile: level and place -/
structure T3 where
  (l x y : Int)
def T3.I (t : T3) : Prop := I64 t.l ∧ I64 t.x ∧ I64 t.y
/-- a list of tiles: how many, and the integers of all one behind the other -/
structure TL where
  (n : Nat) (f : Nat → Int)
def eqT (t : T3) (a b c : Int) : Bool := decide (t.l = a) && (decide (t.x = b) && decide (t.y = c))
def TL.has (s : TL) (t : T3) : Bool := (List.range s.n).any fun i => eqT t (s.f (i * 3)) (s.f (i * 3 + 1)) (s.f (i * 3 + 2))
def TL.snoc (s : TL) (t : T3) : TL := ⟨s.n + 1, fun i => if i < s.n * 3 then s.f i else if i = s.n * 3 then t.l else if i = s.n * 3 + 1 then t.x else t.y⟩
/-- the tile, if it is not there yet -/
def TL.add (s : TL) (t : T3) : TL := if s.has t then s else s.snoc t
def TL.R (s : TL) (lo hi : Nat) (w : World) (v : Value) : Prop := Flats 3 lo hi w v s.n s.f
/-- the slice value v owns a row that holds the tiles -/
def TL.Own (s : TL) (lo : Nat) (w : World) (v : Value) : Prop := w.ownsRow lo 60 3 v s.n ((List.range (s.n * 3)).map fun i => .int .i64 (s.f i)) ∧ ∀ i, i < s.n * 3 → I64 (s.f i)
def TL.nil : TL := ⟨0, fun _ => 0⟩

theorem TL.Own.R {s : TL} {lo : Nat} {w : World} {v : Value} (h : s.Own lo w v) : s.R lo w.heap.size w v := by
  obtain ⟨⟨h1, h2⟩, h3⟩ := h
  rcases h2 with ⟨rfl, h4⟩ | ⟨g, cap, cur, rfl, hb, hg, hc, hm, hs, ht⟩
  · exact ⟨none, 0, by rw [h4], by omega, by unfold maxLen; omega, fun i hx => by rw [h4] at hx; omega⟩
  · refine ⟨some ⟨g, 0, none⟩, cap, rfl, hc, hm, fun i hx => ⟨h3 i hx, g, 0, rfl, hb, (Array.getElem?_eq_some_iff.1 hg).1, ?_⟩⟩
    have e : ((List.range (s.n * 3)).map fun i => Value.int .i64 (s.f i))[i]? = some (.int .i64 (s.f i)) := by simp [hx]
    rw [← ht, List.getElem?_take, if_pos hx] at e
    simp only [World.cell?, hg, Nat.zero_add]
    simpa using e
theorem TL.Own.kept {s : TL} {lo : Nat} {w w' : World} {v : Value} (h : s.Own lo w v) (k : Same lo w.heap.size w w') : s.Own lo w' v := by
  obtain ⟨⟨h1, h2⟩, h3⟩ := h
  refine ⟨⟨h1, ?_⟩, h3⟩
  rcases h2 with hn | ⟨g, cap, cur, hv, hb, hg, r⟩
  · exact .inl hn
  · exact .inr ⟨g, cap, cur, hv, hb, by rw [k g hb (Array.getElem?_eq_some_iff.1 hg).1]; exact hg, r⟩
theorem TL.Own.ext {s : TL} {lo : Nat} {w w' : World} {v : Value} (h : s.Own lo w v) (e : Ext w w') : s.Own lo w' v := h.kept (e.same (Nat.le_refl _))
theorem TL.Own.setLow {s : TL} {lo : Nat} {w : World} {v : Value} (h : s.Own lo w v) {p : Addr} (hp : p.block < lo) (u : Value) : s.Own lo (w.setCell p u) v := h.kept (Same.setLow w hp u)
theorem TL.Own.low {s : TL} {lo lo' : Nat} {w : World} {v : Value} (h : s.Own lo w v) (hl : lo' ≤ lo) : s.Own lo' w v := by
  obtain ⟨⟨h1, h2⟩, h3⟩ := h
  refine ⟨⟨h1, ?_⟩, h3⟩
  rcases h2 with hn | ⟨g, cap, cur, hv, hb, r⟩
  · exact .inl hn
  · exact .inr ⟨g, cap, cur, hv, by omega, r⟩
theorem TL.nil_own (lo : Nat) (w : World) : TL.nil.Own lo w (.slice none 0 0) := ⟨World.ownsRow_nil _ _ _ _, fun i h => by simp [TL.nil] at h⟩
theorem TL.Own.lt {s : TL} {lo : Nat} {w : World} {v : Value} (h : s.Own lo w v) : ∀ k, v.ownBlock = some k → lo ≤ k ∧ k < w.heap.size := h.1.lt
theorem TL.Own.form {s : TL} {lo : Nat} {w : World} {v : Value} (h : s.Own lo w v) : ∃ a cap, v = .slice a s.n cap ∧ s.n ≤ 9223372036854775807 := by
  obtain ⟨⟨h1, h2⟩, h3⟩ := h
  rcases h2 with ⟨rfl, h4⟩ | ⟨g, cap, cur, rfl, hb, hg, hc, hm, hs, ht⟩
  · exact ⟨none, 0, by rw [h4], by omega⟩
  · exact ⟨some ⟨g, 0, none⟩, cap, rfl, by unfold maxLen at hm; omega⟩

theorem info_Tile : (Try.prog.info? 60).map (fun i => (i.zero, i.size, i.bytes)) = some (some (.agg #[.int .i64 0, .int .i64 0, .int .i64 0]), 3, 24) := by kernel_rfl

theorem snoc_cells (s : TL) (t : T3) : ((List.range ((s.snoc t).n * 3)).map fun i => Value.int .i64 ((s.snoc t).f i)) = ((List.range (s.n * 3)).map fun i => Value.int .i64 (s.f i)) ++ [.int .i64 t.l, .int .i64 t.x, .int .i64 t.y] := by
  have e : (s.snoc t).n * 3 = s.n * 3 + 1 + 1 + 1 := by simp only [TL.snoc]; omega
  rw [e, List.range_succ, List.range_succ, List.range_succ]
  simp only [List.map_append, List.map_cons, List.map_nil, List.append_assoc, List.cons_append, List.nil_append]
  congr 1
  · apply List.map_congr_left
    intro i hi
    simp only [List.mem_range] at hi
    simp [TL.snoc, hi]
  · simp [TL.snoc]
    exact ⟨fun h => by omega, fun h => by omega⟩

/-- append of one tile to an owned row -/
theorem wpList_append_tile (w : World) {ops : Array Oper} {rest : List Oper} {o : Oper} {a : Act} {Q : Exit → Act → World → Prop} (hg : o.guard = none) (c x : Operand)
    (hop : o.op = Op.call { callee := Callee.builtin Builtin.append, args := #[c, x], argTypes := #[27, 27] }) (lo : Nat) (v : Value) (s : TL) (hs : a.eval c = v) (hown : s.Own lo w v)
    (t : T3) (ht : t.I) (b : Nat) (hx : a.eval x = .slice (some ⟨b, 0, none⟩) 1 1) (h0 : w.cell? ⟨b, 0, none⟩ = some (.int .i64 t.l)) (h1 : w.cell? ⟨b, 1, none⟩ = some (.int .i64 t.x)) (h2 : w.cell? ⟨b, 2, none⟩ = some (.int .i64 t.y))
    (hlen : s.n < 1000000000) (hlo : lo ≤ w.heap.size)
    (hK : ∀ v' w', (s.snoc t).Own lo w' v' → w.grownBy w' v.ownBlock → wpList Try.prog ops Q rest (a.put o.dst v') w') : wpList Try.prog ops Q (o :: rest) a w := by
  obtain ⟨i0, hi0, hz0, hz1, hz2⟩ := info_parts info_Tile
  refine wpList_append_own w hg c x 27 hop lo 60 i0 (.agg #[.int .i64 0, .int .i64 0, .int .i64 0]) 3 24 Try.underlying27 hi0 hz0 hz1 hz2 rfl (by decide) v s.n _ hs hown.1 ⟨b, 0, none⟩ 1 1 [.int .i64 t.l, .int .i64 t.x, .int .i64 t.y] hx rfl ?_ ?_ ?_ ?_ hlo ?_
  · intro j u hj
    match j, hj with
    | 0, hj => simp at hj; subst hj; exact h0
    | 1, hj => simp at hj; subst hj; exact h1
    | 2, hj => simp at hj; subst hj; exact h2
  · intro u hu
    simp only [List.mem_cons, List.not_mem_nil, or_false] at hu
    rcases hu with rfl | rfl | rfl <;> rfl
  · unfold maxLen; omega
  · omega
  · intro v' w1 hown' hgrow _
    refine hK v' w1 ⟨by rw [snoc_cells]; exact hown', fun i hi => ?_⟩ hgrow
    have hi' : i < s.n * 3 + 3 := by simp only [TL.snoc] at hi; omega
    by_cases e : i < s.n * 3
    · simp only [TL.snoc, if_pos e]; exact hown.2 i e
    · simp only [TL.snoc, if_neg e]
      split
      · exact ht.1
      · split
        · exact ht.2.1
        · exact ht.2.2

theorem run_eqTile (x y z a b c : Int) (w : World) : (binOp .eql 60 (.agg #[.int .i64 x, .int .i64 y, .int .i64 z]) (.agg #[.int .i64 a, .int .i64 b, .int .i64 c])).run Try.prog w = .ok (.bool (eqT ⟨x, y, z⟩ a b c)) w := by
  unfold eqT
  by_cases h1 : x = a
  · by_cases h2 : y = b
    · by_cases h3 : z = c <;> simp [go_sem, Try.underlying60, Try.stoodInHeld60, Try.underlying3, h1, h2, h3]
    · simp [go_sem, Try.underlying60, Try.stoodInHeld60, Try.underlying3, h1, h2]
  · simp [go_sem, Try.underlying60, Try.stoodInHeld60, Try.underlying3, h1]
theorem eqT_comm (x y z a b c : Int) : eqT ⟨x, y, z⟩ a b c = eqT ⟨a, b, c⟩ x y z := by
  unfold eqT
  simp only [eq_comm]

/-- none of the first k tiles is t -/
def TL.lacks (s : TL) (t : T3) (k : Nat) : Prop := ∀ i, i < k → eqT t (s.f (i * 3)) (s.f (i * 3 + 1)) (s.f (i * 3 + 2)) = false
theorem TL.lacks_has {s : TL} {t : T3} (h : s.lacks t s.n) : s.has t = false := by
  unfold TL.has
  rw [List.any_eq_false]
  intro i hi
  rw [h i (List.mem_range.1 hi)]
  simp
theorem TL.has_at {s : TL} {t : T3} {k : Nat} (hk : k < s.n) (h : eqT t (s.f (k * 3)) (s.f (k * 3 + 1)) (s.f (k * 3 + 2)) = true) : s.has t = true :=
  List.any_eq_true.2 ⟨k, List.mem_range.2 hk, h⟩
theorem TL.lacks_succ {s : TL} {t : T3} {k : Nat} (h : s.lacks t k) (hk : eqT t (s.f (k * 3)) (s.f (k * 3 + 1)) (s.f (k * 3 + 2)) = false) : s.lacks t (k + 1) := fun i hi => by
  by_cases e : i = k
  · subst e; exact hk
  · exact h i (by omega)

set_option maxHeartbeats 1600000 in
theorem tileIndex_any (lo hi : Nat) (u : Value) (s : TL) (x y z : Int) (w : World) (hu : s.R lo hi w u) (hh : hi ≤ w.heap.size) :
    Calls Try.prog 34 #[u, .agg #[.int .i64 x, .int .i64 y, .int .i64 z]] w fun e w' => ∃ r : Int, e = .returned (.int .i64 r) ∧ (s.has ⟨x, y, z⟩ = true ↔ 0 ≤ r) ∧ Ext w w' := by
  obtain ⟨a, cap, rfl, HU⟩ := Flats.open hu
  have hle := HU.le
  have hcap := HU.cap
  clear hu
  have hq := run_eqTile x y z
  go_enter Try.func34, Try.ntmps34
  go_wp2
  go_loopw [8] (fun i wr => ∃ k : Nat, k ≤ s.n ∧ i = .int .i64 k ∧ s.lacks ⟨x, y, z⟩ k ∧ Ext (w.alloc (.cells #[.int .i64 x, .int .i64 y, .int .i64 z] 60)) wr) (fun i _ => s.n - (intOf i).toNat)
  case atStart => exact ⟨0, by omega, rfl, fun i h => by omega, Ext.refl _⟩
  case round =>
    obtain ⟨k, hk, rfl, hl, hx⟩ := hrel
    have HX := hid hx
    by_cases hlt : k < s.n
    · obtain ⟨b, off, rfl, hb1, hb2, hc⟩ := HU.at hlt (by decide)
      have hsz := hx.size
      simp at hsz
      have v0 := hx.cells.1 w.heap.size 0 (by simp)
      have v1 := hx.cells.1 w.heap.size 1 (by simp)
      have v2 := hx.cells.1 w.heap.size 2 (by simp)
      simp [go_sem] at v0 v1 v2
      have c0 := ((((Ext.refl w).alloc _).trans hx).cells.1 b _ (by omega)).trans (hc 0 (by decide))
      have c1 := ((((Ext.refl w).alloc _).trans hx).cells.1 b _ (by omega)).trans (hc 1 (by decide))
      have c2 := ((((Ext.refl w).alloc _).trans hx).cells.1 b _ (by omega)).trans (hc 2 (by decide))
      simp only [Nat.add_zero] at c0
      have s1 : b < wr.heap.size := by omega
      have s2 : w.heap.size < wr.heap.size := by omega
      cases he : eqT ⟨x, y, z⟩ (s.f (k * 3)) (s.f (k * 3 + 1)) (s.f (k * 3 + 2))
      · have HE := hid (TL.lacks_succ hl he)
        clear hl hx hc
        go_wp2
        go_quiet (fail)
        go_wp2
        go_roundw
        case rel => exact ⟨k + 1, by omega, by go_num, HE.out, HX.out.drewN _⟩
        case measure => simp [intOf]; omega
      · have HE := hid (TL.has_at hlt he)
        clear hl hx hc
        go_wp2
        go_quiet (fail)
        go_wp2
        go_ret
        exact ⟨k, rfl, ⟨fun _ => by omega, fun _ => HE.out⟩, (Ext.trans (by repeat (with_reducible (first | assumption | exact Ext.refl _ | apply Ext.alloc | apply Ext.drew | apply Ext.drewN))) HX.out).drewN _⟩
    · obtain rfl : k = s.n := by omega
      have HE := hid (TL.lacks_has hl)
      clear hl hx
      go_wp2
      go_ret
      exact ⟨-1, rfl, ⟨fun h => (by rw [HE.out] at h; cases h), fun h => by omega⟩, Ext.trans (by repeat (with_reducible (first | assumption | exact Ext.refl _ | apply Ext.alloc | apply Ext.drew | apply Ext.drewN))) HX.out⟩
end Go.Proofs.Ytcogkglkioejaaa
