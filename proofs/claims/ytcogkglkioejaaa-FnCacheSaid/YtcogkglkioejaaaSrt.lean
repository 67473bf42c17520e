/- This text holds what the sort's world says of the slice of tiles that was sorted. -/
import Derived.Test.YtcogkglkioejaaaTls
import Derived.Shelf.SlSortCmp.WholeK
namespace Go.Proofs.Ytcogkglkioejaaa
open Go.RowKit Go.Sort

/-- a tile of 64-bit integers -/
abbrev TI := {t : T3 // t.I}
instance : Inhabited TI := ⟨⟨⟨0, 0, 0⟩, by unfold T3.I I64; simp⟩⟩
def encT (x : TI) : List Value := [.int .i64 x.1.l, .int .i64 x.1.x, .int .i64 x.1.y]
theorem encT_at (x : TI) {j : Nat} (hj : j < 3) : (encT x)[j]! = .int .i64 (x.1.c j) := by
  have : j = 0 ∨ j = 1 ∨ j = 2 := by omega
  rcases this with rfl | rfl | rfl <;> simp [encT, T3.c]
theorem flat_at (d : Array TI) {i : Nat} (hi : i < d.size * 3) : (flatK encT 3 d)[i]! = .int .i64 ((TLof (d.toList.map (·.1))).f i) := by
  rw [get_flatK encT 3 d i hi, encT_at _ (by omega)]
  have h3 : i / 3 < d.size := by omega
  congr 1
  simp only [TLof]
  congr 1
  simp [List.getD_eq_getElem?_getD, h3]
theorem holds_own {d : Array TI} {lo g cap : Nat} {w : World} (h : (TLof (d.toList.map (·.1))).Own lo w (.slice (some ⟨g, 0, none⟩) d.size cap)) : HoldsK encT 3 w g 0 d := by
  intro i hi
  rw [size_flatK] at hi
  obtain ⟨⟨h1, h2⟩, h3⟩ := h
  have hn : (TLof (d.toList.map (·.1))).n = d.size := by simp [TLof]
  rcases h2 with ⟨hh, _⟩ | ⟨g', cap', cur, hv, hb, hg, hc, hm, hs, ht⟩
  · simp at hh
  · simp only [Value.slice.injEq, Option.some.injEq, Addr.mk.injEq] at hv
    obtain ⟨⟨rfl, -⟩, -, rfl⟩ := hv
    have e : ((List.range ((TLof (d.toList.map (·.1))).n * 3)).map fun i => Value.int .i64 ((TLof (d.toList.map (·.1))).f i))[i]? = some (.int .i64 ((TLof (d.toList.map (·.1))).f i)) := by rw [List.getElem?_map, List.getElem?_range (by rw [hn]; exact hi)]; rfl
    rw [← ht, List.getElem?_take, if_pos (by rw [hn]; exact hi)] at e
    rw [flat_at d hi]
    refine ⟨?_, ?_⟩
    · simp only [World.cell?, hg, Nat.zero_add]
      simpa using e
    · simp [World.frozen?, hg]
theorem sorted_own {d d' : Array TI} {lo g cap m : Nat} {w : World} {os : Array Obj} (h : (TLof (d.toList.map (·.1))).Own lo w (.slice (some ⟨g, 0, none⟩) d.size cap)) (hs : d'.size = d.size) :
    (TLof (d'.toList.map (·.1))).Own lo (sortWorldK encT 3 w g 0 m d' os) (.slice (some ⟨g, 0, none⟩) d.size cap) := by
  obtain ⟨⟨h1, h2⟩, h3⟩ := h
  have hn : (TLof (d.toList.map (·.1))).n = d.size := by simp [TLof]
  have hn' : (TLof (d'.toList.map (·.1))).n = d.size := by simp [TLof, hs]
  rcases h2 with ⟨hh, _⟩ | ⟨g', cap', cur, hv, hb, hg, hc, hm, hsz, ht⟩
  · simp at hh
  · simp only [Value.slice.injEq, Option.some.injEq, Addr.mk.injEq] at hv
    obtain ⟨⟨rfl, -⟩, -, rfl⟩ := hv
    have hlt : g < w.heap.size := (Array.getElem?_eq_some_iff.1 hg).1
    have hI : ∀ i, i < d.size * 3 → I64 ((TLof (d'.toList.map (·.1))).f i) := fun i hi => by
      have h3 : i / 3 < d'.size := by omega
      simp only [TLof]
      refine T3.c_I ?_ _
      simp [List.getD_eq_getElem?_getD, h3]
      exact (d'[i / 3]).2
    refine ⟨⟨by simp, .inr ⟨g, cap, putCells id 0 (flatK encT 3 d') cur, by rw [hn'], hb, ?_, by rw [hn']; rw [hn] at hc; exact hc, hm, by simp [putCells, hsz], ?_⟩⟩, by rw [hn']; exact hI⟩
    · simp only [sortWorldK, putRowK, putRow, mapBlock, Sort.grow, Sort.ahead]
      rw [Array.getElem?_append_left (by simpa using hlt)]
      simp [Array.getElem?_modify, hg, onCells]
    · apply List.ext_getElem?
      intro i
      rw [List.getElem?_take, hn']
      rw [hn] at hc
      by_cases hi : i < d.size * 3
      · have hi' : i < d'.size * 3 := by rw [hs]; exact hi
        have hc3 : i < cur.size := by rw [hsz]; omega
        rw [if_pos hi]
        simp only [putCells, Array.getElem?_toList, Array.getElem?_mapIdx, Array.getElem?_eq_getElem hc3, Option.map_some, Nat.zero_le, true_and, Nat.zero_add, size_flatK, hi', if_true, Nat.sub_zero, id_eq, flat_at d' hi']
        simp [hi]
      · rw [if_neg hi]
        simp [hi]
theorem sorted_size {d' : Array TI} {g m : Nat} {w : World} {os : Array Obj} : w.heap.size ≤ (sortWorldK encT 3 w g 0 m d' os).heap.size := by
  simp [sortWorldK, Sort.grow, putRowK, putRow, mapBlock, Sort.ahead]
theorem sorted_other {d' : Array TI} {g m b : Nat} {w : World} {os : Array Obj} (hb : b < w.heap.size) (hne : b ≠ g) : (sortWorldK encT 3 w g 0 m d' os).heap[b]? = w.heap[b]? := by
  simp only [sortWorldK, putRowK, putRow, mapBlock, Sort.grow, Sort.ahead]
  rw [Array.getElem?_append_left (by simpa using hb)]
  simp [Array.getElem?_modify, Ne.symm hne]
end Go.Proofs.Ytcogkglkioejaaa
