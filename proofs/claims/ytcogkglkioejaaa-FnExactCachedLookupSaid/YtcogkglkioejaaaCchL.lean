/- This text proves what the law's helper functions over caches compute. -/
import Derived.Test.YtcogkglkioejaaaUBox
import Derived.Test.YtcogkglkioejaaaTileS3
import Derived.Test.YtcogkglkioejaaaLawKit
import Derived.Test.YtcogkglkioejaaaLawTiles
namespace Go.Proofs.Ytcogkglkioejaaa
open Go.RowKit

theorem RowI.ownTL {w : World} {b n : Nat} {f : Nat → Int} {lo : Nat} (h : RowI w b 60 (n * 3) f) (hb : lo ≤ b) (hm : n ≤ maxLen) (hi : ∀ i, i < n * 3 → I64 (f i)) : (⟨n, f⟩ : TL).Own lo w (.slice (some ⟨b, 0, none⟩) n n) := by
  obtain ⟨c, h1, h2, h3⟩ := h
  refine ⟨⟨by simp, .inr ⟨b, n, c, rfl, hb, h1, Nat.le_refl _, hm, h2, ?_⟩⟩, hi⟩
  apply List.ext_getElem?
  intro i
  rw [List.getElem?_take, List.getElem?_map]
  by_cases hlt : i < n * 3
  · rw [if_pos hlt, List.getElem?_range hlt]
    simpa using h3 i hlt
  · rw [if_neg hlt, List.getElem?_eq_none (by simp; omega)]
    rfl

set_option maxHeartbeats 400000 in
theorem toTile_val (x y z : Int) (w : World) : Calls Try.prog 72 #[.agg #[.int .i64 x, .int .i64 y, .int .i64 z]] w fun e w' => e = .returned (.agg #[.int .i64 x, .int .i64 y, .int .i64 z]) ∧ Ext w w' := by
  go_enter Try.func72, Try.ntmps72
  go_wp2
  refine bodyPost_ret (v := .agg #[.int .i64 x, .int .i64 y, .int .i64 z]) (by simp [results, Try.results72, go_sem]) rfl ⟨rfl, ?_⟩
  exact (by repeat (first | with_reducible assumption | with_reducible exact Ext.refl _ | with_reducible apply Ext.alloc | with_reducible apply Ext.drew | with_reducible apply Ext.drewN | (with_reducible refine Ext.setCell ?_ (by simp; omega) _) | (with_reducible refine Ext.setCell ?_ (by simp) _)))

set_option maxHeartbeats 400000 in
theorem szTileS_any (lo hi : Nat) (u : Value) (n : Nat) (f : Nat → Int) (left : Int) (w : World) (hu : Flats 3 lo hi w u n f) (h1 : 0 ≤ left) (h2 : left ≤ 1048576) :
    Calls Try.prog 36 #[u, .int .i64 left] w fun e w' => e = .returned (.int .i64 (szRes left n)) ∧ w = w' := by
  obtain ⟨a, cap, rfl, HU⟩ := hu.open
  have h3 := HU.le
  have h4 := HU.cap
  unfold szRes
  go_enter Try.func36, Try.ntmps36
  go_wp2
  all_goals go_ret
  all_goals exact ⟨rfl, rfl⟩

set_option maxHeartbeats 400000 in
theorem szCache_any (lo hi : Nat) (v : Value) (C : CV) (left : Int) (w : World) (hv : CR lo hi w v C) (hh : hi ≤ w.heap.size) (h1 : 0 ≤ left) (h2 : left ≤ 1048576) :
    Calls Try.prog 12 #[v, .int .i64 left] w fun e w' => e = .returned (.int .i64 (szRes left C.L.length)) ∧ Ext w w' := by
  obtain ⟨u, rfl, hu, _, _⟩ := hv
  go_enter Try.func12, Try.ntmps12
  go_wp2_with (go_at_call 36; refine (szTileS_any lo hi u C.L.length (TLof C.L).f left _ (hu.ext hh ((Ext.refl _).alloc _)) h1 h2).mono ?_; rintro e w' ⟨rfl, rfl⟩)
  all_goals go_ret
  all_goals first
    | exact ⟨ret_int (szRes_neg _ _ (by assumption)).symm, (Ext.refl _).alloc _⟩
    | exact ⟨rfl, (Ext.refl _).alloc _⟩
theorem szCache_val {left r : Int} {C : CV} (h : szRes left C.L.length = r) (lo hi : Nat) (v : Value) (w : World) (hv : CR lo hi w v C) (hh : hi ≤ w.heap.size) (h1 : 0 ≤ left) (h2 : left ≤ 1048576) :
    Calls Try.prog 12 #[v, .int .i64 left] w fun e w' => e = .returned (.int .i64 r) ∧ Ext w w' := h ▸ szCache_any lo hi v C left w hv hh h1 h2

set_option maxRecDepth 20000 in
set_option maxHeartbeats 3200000 in
theorem toTileS_any (lo hi : Nat) (u : Value) (n : Nat) (f : Nat → Int) (w : World) (hu : Flats 3 lo hi w u n f) (hh : hi ≤ w.heap.size) (hsz : n ≤ 1048576) :
    Calls Try.prog 43 #[u] w fun e w' => ∃ v, e = .returned v ∧ (⟨n, f⟩ : TL).Own w.heap.size w' v ∧ Ext w w' := by
  obtain ⟨i0, hi0, hz0, hz1, hz2⟩ := info_parts info_Tile
  obtain ⟨a, cap, rfl, HU⟩ := hu.open
  clear hu
  have hcap := HU.cap
  have hle := HU.le
  go_enter Try.func43, Try.ntmps43
  go_wp2_with (at_make; refine wpList_make_full _ rfl _ _ 27 rfl w.heap.size 60 i0 _ 3 Try.underlying27 hi0 hz0 hz1 _ _ _ _ n rfl rfl rfl rfl (by rw [hz2]; omega) (by unfold maxLen; omega) (Nat.le_refl _) ?_)
  intro w1 hown hgrow
  have hx : Ext w w1 := (Ext.refl w).grown hgrow (fun k h => by cases h)
  have hrow := hid (RowI.zero (f := f) (ownsRow_rowI (made_zero (k := 3) rfl (by decide) _) hown))
  clear hown hgrow hi0 hz0 hz1 hz2
  go_wp2
  go_loopw [4] (fun i wr => ∃ k : Nat, k ≤ n ∧ i = .int .i64 k ∧ Ext w wr ∧ RowI wr w.heap.size 60 (n * 3) (fillI f (k * 3))) (fun i _ => n - (intOf i).toNat)
  case atStart => exact ⟨0, by omega, rfl, hx, by simpa using hrow.out⟩
  case round =>
    clear hx hrow
    obtain ⟨k, hk, rfl, hx, hrow⟩ := hrel
    by_cases hlt : k < n
    · obtain ⟨b, off, rfl, hb1, hb2, hc⟩ := HU.at hlt (by decide)
      have hlen := flat_lt (k := 3) (j := 2) hlt (by decide)
      have c0 := (hx.cells.1 b _ (by omega)).trans (hc 0 (by decide))
      have c1 := (hx.cells.1 b _ (by omega)).trans (hc 1 (by decide))
      have c2 := (hx.cells.1 b _ (by omega)).trans (hc 2 (by decide))
      simp only [Nat.add_zero] at c0
      have HX := hid hx
      have HR := hid hrow
      clear hc hx hrow
      go_wp2_with fail
      refine (toTile_val (f (k * 3)) (f (k * 3 + 1)) (f (k * 3 + 2)) _).mono ?_
      rintro e w2 ⟨rfl, h2⟩
      have hR := HR.out.ext h2
      have hX := HX.out.trans h2
      have d0 := hR.cell (i := k * 3) (by omega)
      have g0 := hR.frozen (k * 3)
      have d1 := hR.cell (i := k * 3 + 1) (by omega)
      have g1 := hR.frozen (k * 3 + 1)
      have d2 := hR.cell (i := k * 3 + 2) (by omega)
      have g2 := hR.frozen (k * 3 + 2)
      have HX2 := hid hX
      have HR2 := hid hR
      clear HX HR h2 hX hR
      go_wp2
      go_roundw
      case rel =>
        refine ⟨k + 1, by omega, by go_num, ?_, ?_⟩
        · have hX := HX2.out
          exact (by repeat (first | with_reducible assumption | with_reducible exact Ext.refl _ | with_reducible apply Ext.alloc | with_reducible apply Ext.drew | with_reducible apply Ext.drewN | (with_reducible refine Ext.setCell ?_ (by simp; omega) _) | (with_reducible refine Ext.setCell ?_ (by simp) _)))
        · rw [Nat.add_mul, Nat.one_mul]
          exact RowI.step (RowI.step (RowI.step (HR2.out) rfl rfl) rfl rfl) rfl rfl
      case measure => simp [intOf]; omega
    · go_wp2
      go_ret
      obtain rfl : k = n := by omega
      exact ⟨_, rfl, hrow.full.ownTL (Nat.le_refl _) (by unfold maxLen; omega) (fun i hi => (HU.cell i hi).1), hx⟩

set_option maxRecDepth 10000 in
set_option maxHeartbeats 400000 in
theorem toCache_any (lo hi : Nat) (v : Value) (C : CV) (w : World) (hv : CR lo hi w v C) (hh : hi ≤ w.heap.size) (hsz : C.L.length ≤ 1048576) :
    Calls Try.prog 15 #[v] w fun e w' => ∃ v', e = .returned v' ∧ CO w.heap.size w' v' C ∧ Ext w w' := by
  obtain ⟨u, rfl, hu, hr, hl⟩ := hv
  go_enter Try.func15, Try.ntmps15
  go_wp2_with fail
  refine (toTileS_any lo hi u C.L.length (TLof C.L).f _ (hu.ext hh (by repeat (first | with_reducible assumption | with_reducible exact Ext.refl _ | with_reducible apply Ext.alloc | with_reducible apply Ext.drew | with_reducible apply Ext.drewN | (with_reducible refine Ext.setCell ?_ (by simp; omega) _) | (with_reducible refine Ext.setCell ?_ (by simp) _)))) (by simp; omega) hsz).mono ?_
  rintro e w1 ⟨v1, rfl, hv1, hx⟩
  have hv1 : (TLof C.L).Own _ _ _ := hv1
  obtain ⟨a, cap, rfl, _⟩ := hv1.form
  rw [TLof_n] at *
  have hz := hx.size
  simp at hz
  have p0 := hx.cells.1 (w.heap.size + 1) 0 (by simp)
  have p1 := hx.cells.1 (w.heap.size + 1) 1 (by simp)
  have p2 := hx.cells.1 (w.heap.size + 1) 2 (by simp)
  have f0 := hx.cells.2 (w.heap.size + 1) 0 (by simp)
  have f1 := hx.cells.2 (w.heap.size + 1) 1 (by simp)
  have f2 := hx.cells.2 (w.heap.size + 1) 2 (by simp)
  have c2 := hx.cells.1 w.heap.size 2 (by simp; omega)
  have q0 := hx.cells.1 (w.heap.size + 1 + 1) 0 (by simp)
  have q1 := hx.cells.1 (w.heap.size + 1 + 1) 1 (by simp)
  have q2 := hx.cells.1 (w.heap.size + 1 + 1) 2 (by simp)
  have e0 := hx.cells.2 (w.heap.size + 1 + 1) 0 (by simp)
  have e1 := hx.cells.2 (w.heap.size + 1 + 1) 1 (by simp)
  have e2 := hx.cells.2 (w.heap.size + 1 + 1) 2 (by simp)
  simp [go_sem] at p0 p1 p2 f0 f1 f2 c2 q0 q1 q2 e0 e1 e2
  have s0 : w.heap.size < w1.heap.size := by omega
  have s1 : w.heap.size + 1 < w1.heap.size := by omega
  have s2 : w.heap.size + 1 + 1 < w1.heap.size := by omega
  have HX := hid (show Ext w w1 from Ext.trans (by exact (by repeat (first | with_reducible assumption | with_reducible exact Ext.refl _ | with_reducible apply Ext.alloc | with_reducible apply Ext.drew | with_reducible apply Ext.drewN | (with_reducible refine Ext.setCell ?_ (by simp; omega) _) | (with_reducible refine Ext.setCell ?_ (by simp) _)))) hx)
  have HV := hid (hv1.low (show w.heap.size + 1 + 1 + 1 ≤ _ by simp))
  clear hx hv1
  go_wp2
  refine bodyPost_ret (v := .agg #[.int .i64 C.room, .slice a C.L.length cap, .int .i64 C.loads]) (by simp [results, Try.results15, go_sem, *]) rfl ⟨_, rfl, ⟨_, rfl, ?_, hr, hl⟩, ?_⟩
  · exact ((((((HV.out.setLow (by simp) _).setLow (by simp) _).setLow (by simp) _).setLow (by simp) _).setLow (by simp) _)).low (by omega)
  · have hX := HX.out
    exact (by repeat (first | with_reducible assumption | with_reducible exact Ext.refl _ | with_reducible apply Ext.alloc | with_reducible apply Ext.drew | with_reducible apply Ext.drewN | (with_reducible refine Ext.setCell ?_ (by simp; omega) _) | (with_reducible refine Ext.setCell ?_ (by simp) _)))

set_option maxHeartbeats 400000 in
theorem eqCache_same (lo hi lo' hi' : Nat) (v v' : Value) (C : CV) (w : World) (hv : CR lo hi w v C) (hh : hi ≤ w.heap.size) (hv' : CR lo' hi' w v' C) (hh' : hi' ≤ w.heap.size) :
    Calls Try.prog 16 #[v, v'] w fun e w' => e = .returned (.bool true) ∧ Ext w w' := by
  obtain ⟨u, rfl, hu, _, _⟩ := hv
  obtain ⟨u', rfl, hu', _, _⟩ := hv'
  go_enter Try.func16, Try.ntmps16
  go_wp2_with fail
  refine (eqTileS_same lo hi lo' hi' u u' (TLof C.L) _ (hu.ext hh (by repeat (with_reducible (first | assumption | exact Ext.refl _ | apply Ext.alloc | apply Ext.drew | apply Ext.drewN)))) (hu'.ext hh' (by repeat (with_reducible (first | assumption | exact Ext.refl _ | apply Ext.alloc | apply Ext.drew | apply Ext.drewN)))) (by simp; omega) (by simp; omega)).mono ?_
  rintro e w1 ⟨rfl, hx⟩
  have hz := hx.size
  simp at hz
  have c2 := hx.cells.1 w.heap.size 2 (by simp; omega)
  have d2 := hx.cells.1 (w.heap.size + 1) 2 (by simp)
  simp [go_sem] at c2 d2
  have s0 : w.heap.size < w1.heap.size := by omega
  have s1 : w.heap.size + 1 < w1.heap.size := by omega
  have HX := hid (show Ext w w1 from Ext.trans (by repeat (with_reducible (first | assumption | exact Ext.refl _ | apply Ext.alloc | apply Ext.drew | apply Ext.drewN))) hx)
  clear hx
  go_wp2
  go_ret
  exact ⟨rfl, HX.out⟩

/-- a cache whose tiles are marked from k0 on -/
def CM (k0 : Int) (lo : Nat) (w : World) (v : Value) (C : CV) : Prop := ∃ tv, v = .agg #[.int .i64 C.room, tv, .int .i64 C.loads] ∧ ((TLof C.L).mark k0 (C.L.length * 3)).Own lo w tv
theorem CM.ext {k0 : Int} {lo : Nat} {w w' : World} {v : Value} {C : CV} (h : CM k0 lo w v C) (e : Ext w w') : CM k0 lo w' v C := by
  obtain ⟨tv, h1, h2⟩ := h
  exact ⟨tv, h1, h2.ext e⟩
/-- the block of a cache's tiles lies below M -/
def CBelow (v : Value) (M : Nat) : Prop := ∀ r u l k, v = .agg #[r, u, l] → u.ownBlock = some k → k < M
theorem CO.under {lo : Nat} {w : World} {v : Value} {C : CV} (h : CO lo w v C) : CBelow v w.heap.size := by
  obtain ⟨x, rfl, h3, _, _⟩ := h
  intro r u l k e hk
  simp only [Value.agg.injEq] at e
  obtain ⟨-, rfl, -⟩ : Value.int .i64 C.room = r ∧ x = u ∧ _ := by simpa using e
  exact (h3.lt k hk).2
theorem CO.kept {lo : Nat} {w w' : World} {v : Value} {C : CV} (h : CO lo w v C) (s : Same lo w.heap.size w w') : CO lo w' v C := by
  obtain ⟨tv, h1, h2, h3⟩ := h
  exact ⟨tv, h1, h2.kept s, h3⟩
theorem CR.same {lo hi : Nat} {w w' : World} {v : Value} {C : CV} (h : CR lo hi w v C) (s : Same lo hi w w') : CR lo hi w' v C := by
  obtain ⟨tv, h1, h2, h3⟩ := h
  exact ⟨tv, h1, h2.same s, h3⟩
theorem CR.ext {lo hi : Nat} {w w' : World} {v : Value} {C : CV} (h : CR lo hi w v C) (hh : hi ≤ w.heap.size) (e : Ext w w') : CR lo hi w' v C := by
  obtain ⟨tv, h1, h2, h3⟩ := h
  exact ⟨tv, h1, h2.ext hh e, h3⟩

set_option maxHeartbeats 400000 in
theorem markCache_in {r : Int} (lo M : Nat) (k0 : Int) (v : Value) (C : CV) (w : World) (hr : k0 + ((C.L.length * 3 : Nat) : Int) = r) (hv : CO lo w v C) (hM : CBelow v M) (hMw : M ≤ w.heap.size) (hlo : lo ≤ w.heap.size) (hk : 0 ≤ k0 ∧ k0 ≤ 100000000) (hsz : C.L.length ≤ 1048576) :
    Calls Try.prog 19 #[v, .int .i64 k0] w fun e w' => e = .returned (.int .i64 r) ∧ CM k0 lo w' v C ∧ Part lo M w w' := by
  obtain ⟨u, rfl, hu, _, _⟩ := hv
  have hul := hu.lt
  go_enter Try.func19, Try.ntmps19
  go_wp2_with fail
  refine (markTileS_any lo u (TLof C.L) k0 _ (hu.ext (by repeat (with_reducible (first | assumption | exact Ext.refl _ | apply Ext.alloc | apply Ext.drew | apply Ext.drewN)))) (by rw [TLof_n]; omega)).mono ?_
  rintro e w1 ⟨rfl, h1, hg⟩
  rw [TLof_n, hr] at *
  go_wp2
  go_ret
  have hz := hg.size
  simp at hz
  refine ⟨rfl, ⟨u, rfl, h1⟩, by omega, ⟨hg.os, hg.tape, hg.output, by omega, fun k hk => ?_⟩, fun b hb hlt => ?_⟩
  · exact (hg.block k (by simp; omega) (fun e => by have := (hul k e.symm).1; omega)).trans (Ext.block (w := w) (by repeat (with_reducible (first | assumption | exact Ext.refl _ | apply Ext.alloc | apply Ext.drew | apply Ext.drewN))) (by omega))
  · exact (hg.block b (by simp; omega) (fun e => by have := hM _ _ _ _ rfl e.symm; omega)).trans (Ext.block (w := w) (by repeat (with_reducible (first | assumption | exact Ext.refl _ | apply Ext.alloc | apply Ext.drew | apply Ext.drewN))) (by omega))
set_option maxHeartbeats 400000 in
theorem heldCache_val {r : Int} (lo : Nat) (v : Value) (C : CV) (w : World) (hr : 1 + ((C.L.length * 3 : Nat) : Int) = r) (hu : CM 1 lo w v C) (hsz : C.L.length ≤ 1048576) :
    Calls Try.prog 20 #[v, .int .i64 1] w fun e w' => e = .returned (.int .i64 r) ∧ Ext w w' := by
  obtain ⟨u, rfl, hu⟩ := hu
  go_enter Try.func20, Try.ntmps20
  go_wp2_with fail
  refine (heldTileS_mark lo _ u (TLof C.L) 1 _ (hu.ext (by repeat (with_reducible (first | assumption | exact Ext.refl _ | apply Ext.alloc | apply Ext.drew | apply Ext.drewN)))).R (by rw [TLof_n]; omega)).mono ?_
  rintro e w1 ⟨rfl, hx⟩
  have hr0 : ¬ r < 0 := by omega
  rw [TLof_n, hr] at *
  have HX := hid (show Ext w w1 from Ext.trans (by repeat (with_reducible (first | assumption | exact Ext.refl _ | apply Ext.alloc | apply Ext.drew | apply Ext.drewN))) hx)
  clear hx
  go_wp2
  go_ret
  exact ⟨rfl, HX.out⟩
end Go.Proofs.Ytcogkglkioejaaa
