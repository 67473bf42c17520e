/- This text holds copies of caches: the library's Clone at tiles and the program's copyCache. -/
import Derived.Test.YtcogkglkioejaaaApd
import Derived.Test.YtcogkglkioejaaaCch
import Derived.Test.YtcogkglkioejaaaL16b
namespace Go.Proofs.Ytcogkglkioejaaa
open Go.RowKit

/-- a cache whose tiles lie in memory of its own -/
def CO (lo : Nat) (w : World) (v : Value) (C : CV) : Prop := ∃ tv, v = .agg #[.int .i64 C.room, tv, .int .i64 C.loads] ∧ (TLof C.L).Own lo w tv ∧ I64 C.room ∧ I64 C.loads
theorem CO.R {lo : Nat} {w : World} {v : Value} {C : CV} (h : CO lo w v C) : CR lo w.heap.size w v C := by
  obtain ⟨tv, h1, h2, h3⟩ := h
  exact ⟨tv, h1, h2.R, h3⟩
theorem CO.ext {lo : Nat} {w w' : World} {v : Value} {C : CV} (h : CO lo w v C) (e : Ext w w') : CO lo w' v C := by
  obtain ⟨tv, h1, h2, h3⟩ := h
  exact ⟨tv, h1, h2.ext e, h3⟩

theorem run_eqNil (a : Option Addr) (n c : Nat) (w : World) : (binOp .eql 27 (.slice a n c) (.slice none 0 0)).run Try.prog w = .ok (.bool a.isNone) w := by
  cases a <;> kernel_rfl

set_option maxRecDepth 10000 in
set_option maxHeartbeats 1600000 in
theorem tileClone_any (lo : Nat) (u : Value) (L : List T3) (w : World) (hu : (TLof L).Own lo w u) (hL : L.length < 100000000) :
    Calls Try.prog 54 #[u] w fun e w' => ∃ v, e = .returned v ∧ (TLof L).Own w.heap.size w' v ∧ Ext w w' := by
  have hI := (ownT_iff.1 hu).2
  have hE : Ext w (w.alloc (.cells #[] 60)) := (Ext.refl w).alloc _
  rcases (hu.ext hE).appd with ⟨rfl, rfl⟩ | ⟨ad, cap, rfl, hc⟩
  · have q := run_eqNil none 0 0
    simp only [Option.isNone_none] at q
    go_enter Try.func54, Try.ntmps54
    go_wp2
    go_ret
    exact ⟨_, rfl, by rw [TLof_nil]; exact TL.nil_own _ _, Ext.refl _⟩
  · have ho := TL.nil_new w w.heap.size (Nat.le_refl _)
    rw [← TLof_nil] at ho
    have q := run_eqNil (some ad) L.length cap
    simp only [Option.isNone_some] at q
    go_enter Try.func54, Try.ntmps54
    go_wp2_with (at_builtin; refine wpList_append_tiles _ rfl _ _ rfl w.heap.size _ [] rfl ho L hI _ rfl (.inr ⟨ad, cap, rfl, hc⟩) (by simp; omega) (by simp) ?_; intro v' w1 hown hg)
    go_ret
    exact ⟨_, rfl, by simpa using hown, hE.grown hg (fun k e => (ho.lt k e).1)⟩

set_option maxRecDepth 10000 in
set_option maxHeartbeats 1600000 in
theorem copyCache_any (lo : Nat) (v : Value) (C : CV) (w : World) (hv : CO lo w v C) (hL : C.L.length < 100000000) :
    Calls Try.prog 27 #[v] w fun e w' => ∃ r, e = .returned r ∧ CO w.heap.size w' r C ∧ Ext w w' := by
  obtain ⟨tv, rfl, hu, hr, hl⟩ := hv
  have HU := hid hu
  obtain ⟨a, cap, rfl, hn⟩ := hu.form
  rw [TLof_n] at *
  clear hu
  go_enter Try.func27, Try.ntmps27
  go_wp2
  refine wp_region_stages [([0, 1, 2, 3, 5, 6], 4), ([7], 8)] 8 (w.heap.size + 2) (by kernel_rfl) (by kernel_rfl) ?_
  refine wpStages_cons ?_
  simp only [List.filterMap_cons, List.filterMap_nil, List.getElem?_toArray, List.getElem?_cons_zero, List.getElem?_cons_succ]
  show wpQuiet _ _ _ _ [_, _, _, _, _, _] _
  repeat (go_big_quiet_step (fail))
  refine wpQuiet_nil ⟨_, rfl, fun K hK => ?_⟩
  go_wp2_with (go_at_call 54; refine (tileClone_any lo _ C.L _ (HU.out.ext (by exact (by repeat (with_reducible (first | assumption | exact Ext.refl _ | apply Ext.alloc | apply Ext.drew | apply Ext.drewN))))) hL).mono ?_; rintro e w3 ⟨tv', rfl, ho, hx⟩)
  have hlt := hx.size
  simp at hlt
  have hs : Same 0 (w.heap.size + 2) _ w3 := fun b _ hb => hx.block (by simp; omega)
  refine hK _ _ (.inr hs) ?_
  clear hK K hs
  obtain ⟨a', cap', rfl, hn'⟩ := ho.form
  rw [TLof_n] at *
  have c0 := hx.cells.1 (w.heap.size + 1) 0 (by simp)
  have c1 := hx.cells.1 (w.heap.size + 1) 1 (by simp)
  have c2 := hx.cells.1 (w.heap.size + 1) 2 (by simp)
  have f0 := hx.cells.2 (w.heap.size + 1) 0 (by simp)
  have f1 := hx.cells.2 (w.heap.size + 1) 1 (by simp)
  have f2 := hx.cells.2 (w.heap.size + 1) 2 (by simp)
  simp [go_sem] at c0 c1 c2 f0 f1 f2

  have HX := hid (show Ext w w3 from Ext.trans (by repeat (with_reducible (first | assumption | exact Ext.refl _ | apply Ext.alloc | apply Ext.drew | apply Ext.drewN))) hx)
  have HW := hid (ho.low (show w.heap.size + 1 + 1 ≤ _ by simp))
  have hlt2 : w.heap.size + 1 < w3.heap.size := by omega
  clear ho hx
  refine wpStages_cons ?_
  simp only [List.filterMap_cons, List.filterMap_nil, List.getElem?_toArray, List.getElem?_cons_zero, List.getElem?_cons_succ]
  show wpQuiet _ _ _ _ [_] _
  repeat (go_big_quiet_step (fail))
  refine wpQuiet_nil ⟨_, rfl, fun K hK => ?_⟩
  go_wp2
  refine hK _ _ (.inl trivial) ?_
  clear hK K
  refine wpStages_nil ?_
  go_wp2_with fail
  refine bodyPost_ret (v := .agg #[.int .i64 C.room, .slice a' C.L.length cap', .int .i64 C.loads]) (by simp [results, Try.results27, go_sem, *]) rfl ⟨_, rfl, ⟨_, rfl, ?_, hr, hl⟩, ?_⟩
  · exact (((HW.out.setLow (by simp) _).setLow (by simp) _).setLow (by simp) _).low (by omega)
  · exact ((HX.out.setCell (by simp) _).setCell (by simp) _).setCell (by simp) _
end Go.Proofs.Ytcogkglkioejaaa
