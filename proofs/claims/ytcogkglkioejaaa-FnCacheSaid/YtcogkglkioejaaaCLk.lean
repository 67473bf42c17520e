/- This text holds what a cached lookup computes, and the boxes of its walks. -/
import Derived.Test.YtcogkglkioejaaaUBox
import Derived.Test.YtcogkglkioejaaaUseV
import Derived.Test.YtcogkglkioejaaaL15k
import Derived.Test.YtcogkglkioejaaaLawLook
import Derived.Test.YtcogkglkioejaaaLawTiles
namespace Go.Proofs.Ytcogkglkioejaaa
open Go.RowKit

/-- the value and the cache after a lookup through the cache -/
def CV.uses (C : CV) (l : List T3) : CV := l.foldl CV.use C
theorem CV.uses_nil (C : CV) : C.uses [] = C := rfl
theorem CV.uses_take (C : CV) {l : List T3} {k : Nat} (h : k < l.length) : C.uses (l.take (k + 1)) = (C.uses (l.take k)).use l[k] := by
  unfold CV.uses
  rw [List.take_succ_eq_append_getElem h, List.foldl_append]
  rfl
theorem CV.use_len {C : CV} {t : T3} (h : C.L.length ≤ 12) : (C.use t).L.length ≤ 12 := by
  unfold CV.use
  split
  · rename_i hk
    have hb := CV.ok_bd hk
    have hl := List.length_erase_le (l := C.L) (a := t)
    dsimp only
    split
    · simp; omega
    · rename_i h2
      simp at h2 ⊢
      omega
  · exact h
theorem CV.use_room (C : CV) (t : T3) : (C.use t).room = C.room := by unfold CV.use; split <;> rfl
theorem CV.ok_len {C : CV} (h : C.ok = true) : C.L.length ≤ 12 := by
  have := CV.ok_bd h
  omega
def Tex.tiles (t : Tex) (u v l : Int) : List T3 := (t.tilesR u v l).list
theorem Tex.tiles_len (t : Tex) (u v l : Int) : (t.tiles u v l).length ≤ 4 := by
  unfold Tex.tiles
  rw [TL.list_length]
  exact tilesR_n t u v l
theorem tiles_own {t : Tex} {u v l : Int} {lo : Nat} {w : World} {r : Value} (h : (t.tilesR u v l).Own lo w r) : (TLof (t.tiles u v l)).Own lo w r :=
  h.congr (by rw [TLof_n]; exact (TL.list_length _).symm) (fun i hi => TL.list_f _ i hi)
def Tex.cachedN (t : Tex) (C : CV) (u v l : Int) : Int := if t.okB && C.ok then t.lookR u v l else 0
def Tex.cachedC (t : Tex) (C : CV) (u v l : Int) : CV := if t.okB && C.ok then C.uses (t.tiles u v l) else C

/-- the boxes of a walk of CachedLookup: the texture, the cache, the result -/
structure LB (w W : World) (lg : Int) (u : Value) (C : CV) (ta : Option Addr) (tc : Nat) : Prop where
  ext : Ext w W
  lt : w.heap.size + 2 < W.heap.size
  t0 : W.cell? ⟨w.heap.size, 0, none⟩ = some (.int .i64 lg)
  t1 : W.cell? ⟨w.heap.size, 1, none⟩ = some u
  c0 : W.cell? ⟨w.heap.size + 1, 0, none⟩ = some (.int .i64 C.room)
  c1 : W.cell? ⟨w.heap.size + 1, 1, none⟩ = some (.slice ta C.L.length tc)
  c2 : W.cell? ⟨w.heap.size + 1, 2, none⟩ = some (.int .i64 C.loads)
  p0 : W.cell? ⟨w.heap.size + 1 + 1, 0, none⟩ = some (.int .i64 0)
  p1 : W.cell? ⟨w.heap.size + 1 + 1, 1, none⟩ = some (.slice none 0 0)
  p2 : W.cell? ⟨w.heap.size + 1 + 1, 2, none⟩ = some (.int .i64 0)
  f0 : W.frozen? ⟨w.heap.size + 1 + 1, 0, none⟩ = false
  f1 : W.frozen? ⟨w.heap.size + 1 + 1, 1, none⟩ = false
  f2 : W.frozen? ⟨w.heap.size + 1 + 1, 2, none⟩ = false
variable {w W W' : World} {lg : Int} {u : Value} {C : CV} {ta : Option Addr} {tc : Nat}
theorem LB.by (h : LB w W lg u C ta tc) (e : Ext w W') (hz : W.heap.size ≤ W'.heap.size) (hb : ∀ b, b < w.heap.size + 3 → W'.heap[b]? = W.heap[b]?) : LB w W' lg u C ta tc := by
  have hl := h.lt
  have hc : ∀ b o, b < w.heap.size + 3 → W'.cell? ⟨b, o, none⟩ = W.cell? ⟨b, o, none⟩ := fun b o h => World.cell?_of_block (hb b h)
  have hf : ∀ b o, b < w.heap.size + 3 → W'.frozen? ⟨b, o, none⟩ = W.frozen? ⟨b, o, none⟩ := fun b o h => World.frozen?_of_block (hb b h)
  exact ⟨e, by omega, (hc _ _ (by omega)).trans h.t0, (hc _ _ (by omega)).trans h.t1, (hc _ _ (by omega)).trans h.c0, (hc _ _ (by omega)).trans h.c1, (hc _ _ (by omega)).trans h.c2,
    (hc _ _ (by omega)).trans h.p0, (hc _ _ (by omega)).trans h.p1, (hc _ _ (by omega)).trans h.p2, (hf _ _ (by omega)).trans h.f0, (hf _ _ (by omega)).trans h.f1, (hf _ _ (by omega)).trans h.f2⟩
theorem LB.grown {row : Option Nat} (h : LB w W lg u C ta tc) (g : W.grownBy W' row) (hr : ∀ k, row = some k → w.heap.size + 3 ≤ k) : LB w W' lg u C ta tc :=
  h.by (h.ext.grown g (fun k e => by have := hr k e; omega)) g.size (fun b hb => g.block b (by have := h.lt; omega) (fun e => by have := hr b e.symm; omega))
theorem LB.to (h : LB w W lg u C ta tc) (e : Ext W W') : LB w W' lg u C ta tc := h.by (h.ext.trans e) e.size (fun b hb => e.block (by have := h.lt; omega))
theorem LB.set (h : LB w W lg u C ta tc) {b : Nat} (hb : w.heap.size + 3 ≤ b) (o : Nat) (x : Value) : LB w (W.setCell ⟨b, o, none⟩ x) lg u C ta tc :=
  h.by (h.ext.setCell (by show w.heap.size ≤ b; omega) x) (by simp [World.setCell]) (fun k hk => Below.heap_setCell _ _ _ _ (by show k ≠ b; omega))
/-- a third box with the cache that goes out -/
def LP (w W : World) (lg : Int) (u : Value) (C : CV) (ta : Option Addr) (tc : Nat) (B : Nat) (D : CV) (tv : Value) : Prop :=
  w.heap.size + 3 ≤ B ∧ LB w W lg u C ta tc ∧ CBx W B D.room tv D.loads ∧ (TLof D.L).Own (w.heap.size + 3) W tv
variable {B : Nat} {D : CV} {tv : Value}
theorem LP.made {v0 : Value} {r0 l0 : Int} (hB : w.heap.size + 3 ≤ B) (hu : LB w W lg u C ta tc) (hc : CBx W B r0 v0 l0) (ho : (TLof D.L).Own (w.heap.size + 3) W tv) :
    LP w (((W.setCell ⟨B, 0, none⟩ (.int .i64 D.room)).setCell ⟨B, 1, none⟩ tv).setCell ⟨B, 2, none⟩ (.int .i64 D.loads)) lg u C ta tc B D tv := by
  have hn := hc.ne ho
  exact ⟨hB, ((hu.set hB 0 _).set hB 1 _).set hB 2 _, ((hc.set0 _).set1 _).set2 _, ((ho.setOther hn 0 _).setOther hn 1 _).setOther hn 2 _⟩
theorem LP.ext (h : LP w W lg u C ta tc B D tv) (e : Ext W W') : LP w W' lg u C ta tc B D tv :=
  ⟨h.1, h.2.1.to e, h.2.2.1.ext e, h.2.2.2.ext e⟩
theorem LP.out {K : TL} {x : Value} (h : LP w W lg u C ta tc B D tv) (ho : K.Own (w.heap.size + 3) W x) (g : W.grownBy W' x.ownBlock) : LB w W' lg u C ta tc ∧ CBx W' B D.room tv D.loads :=
  ⟨h.2.1.grown g (fun k e => (ho.lt k e).1), h.2.2.1.grown g (h.2.2.1.ne ho)⟩
theorem LP.done (h : LP w W lg u C ta tc B D tv) :
    (TLof D.L).Own w.heap.size (((W.setCell ⟨w.heap.size + 1 + 1, 0, none⟩ (.int .i64 D.room)).setCell ⟨w.heap.size + 1 + 1, 1, none⟩ tv).setCell ⟨w.heap.size + 1 + 1, 2, none⟩ (.int .i64 D.loads)) tv ∧
      Ext w (((W.setCell ⟨w.heap.size + 1 + 1, 0, none⟩ (.int .i64 D.room)).setCell ⟨w.heap.size + 1 + 1, 1, none⟩ tv).setCell ⟨w.heap.size + 1 + 1, 2, none⟩ (.int .i64 D.loads)) := by
  obtain ⟨hB, hu, hc, ho⟩ := h
  refine ⟨(((ho.setLow (by show w.heap.size + 1 + 1 < _; omega) _).setLow (by show w.heap.size + 1 + 1 < _; omega) _).setLow (by show w.heap.size + 1 + 1 < _; omega) _).low (by omega), ?_⟩
  exact ((hu.ext.setCell (by show w.heap.size ≤ w.heap.size + 1 + 1; omega) _).setCell (by show w.heap.size ≤ w.heap.size + 1 + 1; omega) _).setCell (by show w.heap.size ≤ w.heap.size + 1 + 1; omega) _
/-- in the loop over the tiles: so many of them used -/
structure LR (w W : World) (lg : Int) (u : Value) (C : CV) (ta : Option Addr) (tc B : Nat) (ts : List T3) (ra : Option Addr) (rc k : Nat) : Prop where
  out : ∃ da dn, LP w W lg u C ta tc B (C.uses (ts.take k)) (.slice da (C.uses (ts.take k)).L.length dn)
  tl : (TLof ts).Own (w.heap.size + 3) W (.slice ra ts.length rc)
  len : (C.uses (ts.take k)).L.length ≤ 12
  room : I64 (C.uses (ts.take k)).room
  loads : I64 (C.uses (ts.take k)).loads
theorem LR.co {ts : List T3} {ra : Option Addr} {rc k : Nat} {da : Option Addr} {dn : Nat} (h : LR w W lg u C ta tc B ts ra rc k) (hp : LP w W lg u C ta tc B (C.uses (ts.take k)) (.slice da (C.uses (ts.take k)).L.length dn)) :
    CO (w.heap.size + 3) W (.agg #[.int .i64 (C.uses (ts.take k)).room, .slice da (C.uses (ts.take k)).L.length dn, .int .i64 (C.uses (ts.take k)).loads]) (C.uses (ts.take k)) :=
  ⟨_, rfl, hp.2.2.2, h.room, h.loads⟩
/-- one more tile is used -/
theorem LR.next {ts : List T3} {ra : Option Addr} {rc k : Nat} {W1 : World} {r : Value} {da : Option Addr} {dn : Nat} (h : LR w W lg u C ta tc B ts ra rc k) (hk : k < ts.length) (e : Ext W W1) (hl : W.heap.size ≤ W1.heap.size)
    (hr : CO W.heap.size W1 (.agg #[.int .i64 ((C.uses (ts.take k)).use ts[k]).room, .slice da ((C.uses (ts.take k)).use ts[k]).L.length dn, .int .i64 ((C.uses (ts.take k)).use ts[k]).loads]) ((C.uses (ts.take k)).use ts[k])) :
    LR w (((W1.setCell ⟨B, 0, none⟩ (.int .i64 ((C.uses (ts.take k)).use ts[k]).room)).setCell ⟨B, 1, none⟩ (.slice da ((C.uses (ts.take k)).use ts[k]).L.length dn)).setCell ⟨B, 2, none⟩ (.int .i64 ((C.uses (ts.take k)).use ts[k]).loads)) lg u C ta tc B ts ra rc (k + 1) := by
  obtain ⟨⟨da0, dn0, hB, hu, hc, ho⟩, ht, hlen, hroom, hloads⟩ := h
  obtain ⟨tv, htv, h1, h2, h3⟩ := hr
  simp only [Value.agg.injEq, Array.mk.injEq, List.cons.injEq, true_and, and_true] at htv
  obtain rfl := htv
  have hul := hu.lt
  have h1' := h1.low (show w.heap.size + 3 ≤ W.heap.size by omega)
  have hn := (hc.ext e).ne (ht.ext e)
  refine ⟨⟨da, dn, ?_⟩, (((ht.ext e).setOther hn 0 _).setOther hn 1 _).setOther hn 2 _, ?_, ?_, ?_⟩
  · rw [CV.uses_take C hk]
    exact LP.made hB (hu.to e) (hc.ext e) h1'
  · rw [CV.uses_take C hk]; exact CV.use_len hlen
  · rw [CV.uses_take C hk]; exact h2
  · rw [CV.uses_take C hk]; exact h3
theorem LR.ext {ts : List T3} {ra : Option Addr} {rc k : Nat} (h : LR w W lg u C ta tc B ts ra rc k) (e : Ext W W') : LR w W' lg u C ta tc B ts ra rc k := by
  obtain ⟨⟨da, dn, h1⟩, h2, h3, h4, h5⟩ := h
  exact ⟨⟨da, dn, h1.ext e⟩, h2.ext e, h3, h4, h5⟩
end Go.Proofs.Ytcogkglkioejaaa
