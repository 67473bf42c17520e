/- This text holds the boxes of the walks that use a tile: the cache, the tile, the result, and a cache that is being made. -/
import Derived.Test.YtcogkglkioejaaaUse1
import Derived.Test.YtcogkglkioejaaaTFst
namespace Go.Proofs.Ytcogkglkioejaaa
open Go.RowKit

/-- the boxes of a walk of UseTile: the cache, the tile, the result -/
structure UB (w W : World) (C : CV) (t : T3) (ta : Option Addr) (tc : Nat) : Prop where
  ext : Ext w W
  lt : w.heap.size + 2 < W.heap.size
  c0 : W.cell? ⟨w.heap.size, 0, none⟩ = some (.int .i64 C.room)
  c1 : W.cell? ⟨w.heap.size, 1, none⟩ = some (.slice ta C.L.length tc)
  c2 : W.cell? ⟨w.heap.size, 2, none⟩ = some (.int .i64 C.loads)
  d0 : W.cell? ⟨w.heap.size + 1, 0, none⟩ = some (.int .i64 t.l)
  d1 : W.cell? ⟨w.heap.size + 1, 1, none⟩ = some (.int .i64 t.x)
  d2 : W.cell? ⟨w.heap.size + 1, 2, none⟩ = some (.int .i64 t.y)
  p0 : W.cell? ⟨w.heap.size + 1 + 1, 0, none⟩ = some (.int .i64 0)
  p1 : W.cell? ⟨w.heap.size + 1 + 1, 1, none⟩ = some (.slice none 0 0)
  p2 : W.cell? ⟨w.heap.size + 1 + 1, 2, none⟩ = some (.int .i64 0)
  f0 : W.frozen? ⟨w.heap.size + 1 + 1, 0, none⟩ = false
  f1 : W.frozen? ⟨w.heap.size + 1 + 1, 1, none⟩ = false
  f2 : W.frozen? ⟨w.heap.size + 1 + 1, 2, none⟩ = false
theorem UB.grown {w W W' : World} {C : CV} {t : T3} {ta : Option Addr} {tc : Nat} {row : Option Nat} (h : UB w W C t ta tc) (g : W.grownBy W' row) (hr : ∀ k, row = some k → w.heap.size + 3 ≤ k) : UB w W' C t ta tc := by
  have hl := h.lt
  have hs := g.size
  have hb : ∀ b, b < w.heap.size + 3 → W'.heap[b]? = W.heap[b]? := fun b hb => g.block b (by omega) (fun e => by have := hr b e.symm; omega)
  have hc : ∀ b o, b < w.heap.size + 3 → W'.cell? ⟨b, o, none⟩ = W.cell? ⟨b, o, none⟩ := fun b o h => World.cell?_of_block (hb b h)
  have hf : ∀ b o, b < w.heap.size + 3 → W'.frozen? ⟨b, o, none⟩ = W.frozen? ⟨b, o, none⟩ := fun b o h => World.frozen?_of_block (hb b h)
  exact ⟨h.ext.grown g (fun k e => by have := hr k e; omega), by omega, (hc _ _ (by omega)).trans h.c0, (hc _ _ (by omega)).trans h.c1, (hc _ _ (by omega)).trans h.c2,
    (hc _ _ (by omega)).trans h.d0, (hc _ _ (by omega)).trans h.d1, (hc _ _ (by omega)).trans h.d2, (hc _ _ (by omega)).trans h.p0, (hc _ _ (by omega)).trans h.p1, (hc _ _ (by omega)).trans h.p2,
    (hf _ _ (by omega)).trans h.f0, (hf _ _ (by omega)).trans h.f1, (hf _ _ (by omega)).trans h.f2⟩
theorem UB.to {w W W' : World} {C : CV} {t : T3} {ta : Option Addr} {tc : Nat} (h : UB w W C t ta tc) (e : Ext W W') : UB w W' C t ta tc :=
  h.grown (row := none) ⟨e.os, e.tape, e.output, e.size, fun k hk _ => e.block hk⟩ (fun k hk => by simp at hk)

/-- block b holds a cache -/
def CBx (W : World) (b : Nat) (r : Int) (v : Value) (l : Int) : Prop := W.heap[b]? = some (.cells #[.int .i64 r, v, .int .i64 l] 29 (0, 0))
theorem CBx.lt {W : World} {b : Nat} {r l : Int} {v : Value} (h : CBx W b r v l) : b < W.heap.size := (Array.getElem?_eq_some_iff.1 h).1
theorem CBx.c0 {W : World} {b : Nat} {r l : Int} {v : Value} (h : CBx W b r v l) : W.cell? ⟨b, 0, none⟩ = some (.int .i64 r) := by unfold CBx at h; simp [World.cell?, h]
theorem CBx.c1 {W : World} {b : Nat} {r l : Int} {v : Value} (h : CBx W b r v l) : W.cell? ⟨b, 1, none⟩ = some v := by unfold CBx at h; simp [World.cell?, h]
theorem CBx.c2 {W : World} {b : Nat} {r l : Int} {v : Value} (h : CBx W b r v l) : W.cell? ⟨b, 2, none⟩ = some (.int .i64 l) := by unfold CBx at h; simp [World.cell?, h]
theorem CBx.fz {W : World} {b : Nat} {r l : Int} {v : Value} (h : CBx W b r v l) (o : Nat) : W.frozen? ⟨b, o, none⟩ = false := by unfold CBx at h; simp [World.frozen?, h]
theorem CBx.ext {W W' : World} {b : Nat} {r l : Int} {v : Value} (h : CBx W b r v l) (e : Ext W W') : CBx W' b r v l := (e.block h.lt).trans h
theorem CBx.grown {W W' : World} {b : Nat} {r l : Int} {v : Value} {row : Option Nat} (h : CBx W b r v l) (g : W.grownBy W' row) (hr : some b ≠ row) : CBx W' b r v l := (g.block b h.lt hr).trans h
theorem CBx.made (W : World) (r l : Int) (v : Value) : CBx (W.alloc (.cells #[.int .i64 r, v, .int .i64 l] 29)) W.heap.size r v l := Go.Deep.blk_alloc_new _ _
theorem CBx.set0 {W : World} {b : Nat} {r l : Int} {v : Value} (h : CBx W b r v l) (r' : Int) : CBx (W.setCell ⟨b, 0, none⟩ (.int .i64 r')) b r' v l := by
  unfold CBx at h ⊢
  simp [World.setCell, Array.getElem?_modify, h]
theorem CBx.set1 {W : World} {b : Nat} {r l : Int} {v : Value} (h : CBx W b r v l) (v' : Value) : CBx (W.setCell ⟨b, 1, none⟩ v') b r v' l := by
  unfold CBx at h ⊢
  simp [World.setCell, Array.getElem?_modify, h]
theorem CBx.set2 {W : World} {b : Nat} {r l : Int} {v : Value} (h : CBx W b r v l) (l' : Int) : CBx (W.setCell ⟨b, 2, none⟩ (.int .i64 l')) b r v l' := by
  unfold CBx at h ⊢
  simp [World.setCell, Array.getElem?_modify, h]
theorem CBx.ne {W : World} {b : Nat} {r l : Int} {v u : Value} {s : TL} {lo : Nat} (h : CBx W b r v l) (ho : s.Own lo W u) : some b ≠ u.ownBlock := cells_not_row h (by decide) ho.1
theorem TL.Own.setOther {s : TL} {lo : Nat} {W : World} {u : Value} (h : s.Own lo W u) {b : Nat} (hb : some b ≠ u.ownBlock) (o : Nat) (x : Value) : s.Own lo (W.setCell ⟨b, o, none⟩ x) u :=
  ⟨ownsRow_setCell_other h.1 (fun e => hb e.symm) x, h.2⟩
theorem UB.by {w W W' : World} {C : CV} {t : T3} {ta : Option Addr} {tc : Nat} (h : UB w W C t ta tc) (e : Ext w W') (hz : W.heap.size ≤ W'.heap.size) (hb : ∀ b, b < w.heap.size + 3 → W'.heap[b]? = W.heap[b]?) : UB w W' C t ta tc := by
  have hl := h.lt
  have hc : ∀ b o, b < w.heap.size + 3 → W'.cell? ⟨b, o, none⟩ = W.cell? ⟨b, o, none⟩ := fun b o h => World.cell?_of_block (hb b h)
  have hf : ∀ b o, b < w.heap.size + 3 → W'.frozen? ⟨b, o, none⟩ = W.frozen? ⟨b, o, none⟩ := fun b o h => World.frozen?_of_block (hb b h)
  exact ⟨e, by omega, (hc _ _ (by omega)).trans h.c0, (hc _ _ (by omega)).trans h.c1, (hc _ _ (by omega)).trans h.c2,
    (hc _ _ (by omega)).trans h.d0, (hc _ _ (by omega)).trans h.d1, (hc _ _ (by omega)).trans h.d2, (hc _ _ (by omega)).trans h.p0, (hc _ _ (by omega)).trans h.p1, (hc _ _ (by omega)).trans h.p2,
    (hf _ _ (by omega)).trans h.f0, (hf _ _ (by omega)).trans h.f1, (hf _ _ (by omega)).trans h.f2⟩
theorem UB.set {w W : World} {C : CV} {t : T3} {ta : Option Addr} {tc : Nat} (h : UB w W C t ta tc) {b : Nat} (hb : w.heap.size + 3 ≤ b) (o : Nat) (x : Value) : UB w (W.setCell ⟨b, o, none⟩ x) C t ta tc :=
  h.by (h.ext.setCell (by show w.heap.size ≤ b; omega) x) (by simp [World.setCell]) (fun k hk => Below.heap_setCell _ _ _ _ (by show k ≠ b; omega))
/-- the copy of a cache that the reference makes first -/
def CpS (w wx : World) (C : CV) (t : T3) (ta : Option Addr) (tc : Nat) (B : Nat) (L : List T3) (tv : Value) (l : Int) : Prop :=
  w.heap.size + 3 ≤ B ∧ UB w wx C t ta tc ∧ CBx wx B C.room tv l ∧ (TLof L).Own (w.heap.size + 3) wx tv
theorem CpS.made {w W : World} {C : CV} {t : T3} {ta : Option Addr} {tc B : Nat} {L : List T3} {tv v0 : Value} {r0 l l0 : Int} (hB : w.heap.size + 3 ≤ B) (hu : UB w W C t ta tc) (hc : CBx W B r0 v0 l0) (ho : (TLof L).Own (w.heap.size + 3) W tv) :
    CpS w (((W.setCell ⟨B, 0, none⟩ (.int .i64 C.room)).setCell ⟨B, 1, none⟩ tv).setCell ⟨B, 2, none⟩ (.int .i64 l)) C t ta tc B L tv l := by
  have hn := hc.ne ho
  exact ⟨hB, ((hu.set hB 0 _).set hB 1 _).set hB 2 _, ((hc.set0 _).set1 _).set2 _, ((ho.setOther hn 0 _).setOther hn 1 _).setOther hn 2 _⟩
/-- its list is written anew -/
theorem CpS.put {w W : World} {C : CV} {t : T3} {ta : Option Addr} {tc B : Nat} {L : List T3} {tv v0 : Value} {l : Int} (hB : w.heap.size + 3 ≤ B) (hu : UB w W C t ta tc) (hc : CBx W B C.room v0 l) (ho : (TLof L).Own (w.heap.size + 3) W tv) :
    CpS w (W.setCell ⟨B, 1, none⟩ tv) C t ta tc B L tv l := by
  have hn := hc.ne ho
  exact ⟨hB, hu.set hB 1 _, hc.set1 _, ho.setOther hn 1 _⟩
theorem CpS.load {w W : World} {C : CV} {t : T3} {ta : Option Addr} {tc B : Nat} {L : List T3} {tv : Value} {l : Int} (h : CpS w W C t ta tc B L tv l) (l' : Int) :
    CpS w (W.setCell ⟨B, 2, none⟩ (.int .i64 l')) C t ta tc B L tv l' := by
  obtain ⟨hB, hu, hc, ho⟩ := h
  exact ⟨hB, hu.set hB 2 _, hc.set2 _, ho.setOther (hc.ne ho) 2 _⟩
theorem CpS.ext {w W W' : World} {C : CV} {t : T3} {ta : Option Addr} {tc B : Nat} {L : List T3} {tv : Value} {l : Int} (h : CpS w W C t ta tc B L tv l) (e : Ext W W') : CpS w W' C t ta tc B L tv l :=
  ⟨h.1, h.2.1.to e, h.2.2.1.ext e, h.2.2.2.ext e⟩
theorem CpS.grown {w W W' : World} {C : CV} {t : T3} {ta : Option Addr} {tc B : Nat} {L : List T3} {tv u : Value} {l : Int} {K : TL} (h : CpS w W C t ta tc B L tv l) (ho : K.Own (w.heap.size + 3) W u) (g : W.grownBy W' u.ownBlock) :
    UB w W' C t ta tc ∧ CBx W' B C.room tv l :=
  ⟨h.2.1.grown g (fun k e => (ho.lt k e).1), h.2.2.1.grown g (h.2.2.1.ne ho)⟩
/-- the cache in the third box is what is handed back -/
theorem CpS.done {w W : World} {C : CV} {t : T3} {ta : Option Addr} {tc B : Nat} {L : List T3} {tv : Value} {l : Int} (h : CpS w W C t ta tc B L tv l) :
    (TLof L).Own w.heap.size (((W.setCell ⟨w.heap.size + 1 + 1, 0, none⟩ (.int .i64 C.room)).setCell ⟨w.heap.size + 1 + 1, 1, none⟩ tv).setCell ⟨w.heap.size + 1 + 1, 2, none⟩ (.int .i64 l)) tv ∧
      Ext w (((W.setCell ⟨w.heap.size + 1 + 1, 0, none⟩ (.int .i64 C.room)).setCell ⟨w.heap.size + 1 + 1, 1, none⟩ tv).setCell ⟨w.heap.size + 1 + 1, 2, none⟩ (.int .i64 l)) := by
  obtain ⟨hB, hu, hc, ho⟩ := h
  refine ⟨(((ho.setLow (by show w.heap.size + 1 + 1 < _; omega) _).setLow (by show w.heap.size + 1 + 1 < _; omega) _).setLow (by show w.heap.size + 1 + 1 < _; omega) _).low (by omega), ?_⟩
  exact ((hu.ext.setCell (by show w.heap.size ≤ w.heap.size + 1 + 1; omega) _).setCell (by show w.heap.size ≤ w.heap.size + 1 + 1; omega) _).setCell (by show w.heap.size ≤ w.heap.size + 1 + 1; omega) _
/-- a part of a list of tiles as that which is appended -/
theorem TLof_take {L : List T3} {k i : Nat} (hi : i < k * 3) : (TLof (L.take k)).f i = (TLof L).f i := by
  have h3 : i / 3 < k := by omega
  simp [TLof, List.getD_eq_getElem?_getD, List.getElem?_take, h3]
theorem TLof_drop (L : List T3) (k i : Nat) : (TLof (L.drop k)).f i = (TLof L).f (k * 3 + i) := by
  have e1 : (k * 3 + i) / 3 = k + i / 3 := by omega
  have e2 : (k * 3 + i) % 3 = i % 3 := by omega
  simp [TLof, List.getD_eq_getElem?_getD, e1, e2]
end Go.Proofs.Ytcogkglkioejaaa
