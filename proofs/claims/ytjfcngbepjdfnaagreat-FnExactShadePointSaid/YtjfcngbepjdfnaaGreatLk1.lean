/- This text proves what the laws' helper functions over grids compute. -/
import Derived.Test.YtjfcngbepjdfnaaGreatGr1
import Derived.Test.YtjfcngbepjdfnaaGreatCl1
import Derived.Test.YtjfcngbepjdfnaaGreatLawKit
namespace Go.Proofs.YtjfcngbepjdfnaaGreat
open Go.RowKit

/-- the blocks from a up to b stand in w' as in w, and the world has not shrunk -/
def Kp (a b : Nat) (w w' : World) : Prop := w.heap.size ≤ w'.heap.size ∧ ∀ k, a ≤ k → k < b → w'.heap[k]? = w.heap[k]?
theorem Ext.kp {w w' : World} (h : Ext w w') {a b : Nat} (hb : b ≤ w.heap.size) : Kp a b w w' := ⟨h.size, fun _ _ h2 => h.block (by omega)⟩
theorem Part.kp {lo M : Nat} {w w' : World} (h : Part lo M w w') {a b : Nat} (hb : b ≤ w.heap.size) (hs : b ≤ lo ∨ M ≤ a) : Kp a b w w' := ⟨h.size, fun k h1 h2 => h.block (by omega) (by omega)⟩
theorem Kp.same {a b : Nat} {w w' : World} (h : Kp a b w w') : Same a b w w' := fun k h1 h2 => h.2 k h1 h2
/-- the block B holds the cells cs -/
def Bx (w : World) (B : Nat) (cs : Array Value) (t : TypeId) : Prop := w.heap[B]? = some (.cells cs t)
theorem Bx.made (w : World) (cs : Array Value) (t : TypeId) : Bx (w.alloc (.cells cs t)) w.heap.size cs t := by show (w.heap.push _)[w.heap.size]? = _; simp
theorem Bx.madeAt {B : Nat} (w : World) (cs : Array Value) (t : TypeId) (h : w.heap.size = B) : Bx (w.alloc (.cells cs t)) B cs t := h ▸ Bx.made w cs t
theorem Bx.lt {w : World} {B : Nat} {cs : Array Value} {t : TypeId} (h : Bx w B cs t) : B < w.heap.size := (Array.getElem?_eq_some_iff.1 h).1
theorem Bx.kp {w w' : World} {B : Nat} {cs : Array Value} {t : TypeId} (h : Bx w B cs t) (k : Kp B (B + 1) w w') : Bx w' B cs t := (k.2 B (Nat.le_refl _) (by omega)).trans h
theorem Bx.cell {w : World} {B : Nat} {cs : Array Value} {t : TypeId} (h : Bx w B cs t) (i : Nat) : w.cell? ⟨B, i, none⟩ = cs[i]? := by
  unfold Bx at h
  simp [World.cell?, h]
theorem Ints.kp {lo hi : Nat} {w w' : World} {v : Value} {xs : List Int} (h : Ints lo hi w v xs) (k : Kp lo hi w w') : Ints lo hi w' v xs := h.same k.same
/-- v owns, in the blocks from lo up to hi, the integers xs -/
def IntsO (lo hi : Nat) (w : World) (v : Value) (xs : List Int) : Prop := OwnInts lo w v xs ∧ ∀ k, v.ownBlock = some k → k < hi
theorem OwnInts.o {lo : Nat} {w : World} {v : Value} {xs : List Int} (h : OwnInts lo w v xs) : IntsO lo w.heap.size w v xs := ⟨h, fun k hk => (h.lt k hk).2⟩
theorem IntsO.kp {lo hi : Nat} {w w' : World} {v : Value} {xs : List Int} (h : IntsO lo hi w v xs) (k : Kp lo hi w w') : IntsO lo hi w' v xs := by
  obtain ⟨⟨⟨h1, h2⟩, h3⟩, h4⟩ := h
  refine ⟨⟨⟨h1, ?_⟩, h3⟩, h4⟩
  rcases h2 with hn | ⟨g, cap, cur, hv, hb, hg, r⟩
  · exact .inl hn
  · exact .inr ⟨g, cap, cur, hv, hb, by rw [k.2 g hb (h4 g (by rw [hv]; rfl))]; exact hg, r⟩
theorem IntsO.ints {lo hi : Nat} {w : World} {v : Value} {xs : List Int} (h : IntsO lo hi w v xs) : Ints lo hi w v xs := by
  obtain ⟨a, cap, rfl, h2, h3, h4⟩ := h.1.ints
  refine ⟨a, cap, rfl, h2, h3, fun i x hx => ?_⟩
  obtain ⟨h5, b, off, rfl, h7, h8, h9⟩ := h4 i x hx
  exact ⟨h5, b, off, rfl, h7, h.2 b rfl, h9⟩

/-- v owns the grid g in the blocks from lo up to hi -/
def Grd.O (g : Grd) (lo hi : Nat) (w : World) (v : Value) : Prop := ∃ b tu, v = .agg #[.int .i64 g.n, .slice (some ⟨b, 0, none⟩) g.m g.m, .int .i64 g.tm, .int .i64 g.t.log, tu] ∧ lo ≤ b ∧ b < hi ∧ RowI w b 98 (g.m * 5) g.f ∧ IntsO lo hi w tu g.t.px ∧ I64 g.n ∧ I64 g.tm ∧ I64 g.t.log ∧ (∀ i, i < g.m * 5 → I64 (g.f i)) ∧ g.m ≤ 1048576
theorem Grd.O.kp {g : Grd} {lo hi : Nat} {w w' : World} {v : Value} (h : g.O lo hi w v) (k : Kp lo hi w w') : g.O lo hi w' v := by
  obtain ⟨b, tu, h1, h2, h3, h4, h5, h6⟩ := h
  exact ⟨b, tu, h1, h2, h3, h4.of (k.2 b h2 h3), h5.kp k, h6⟩
theorem Grd.O.R {g : Grd} {lo hi : Nat} {w : World} {v : Value} (h : g.O lo hi w v) : g.R lo hi w v := by
  obtain ⟨b, tu, rfl, h2, h3, h4, h5, h6, h7, h8, h9, h10⟩ := h
  exact ⟨_, tu, rfl, h6, h7, h8, ⟨_, g.m, rfl, Nat.le_refl _, by unfold maxLen; omega, fun i hx => ⟨h9 i hx, b, 0, rfl, h2, h3, by rw [Nat.zero_add]; exact h4.cell hx⟩⟩, h5.ints⟩
theorem Grd.O.form {g : Grd} {lo hi : Nat} {w : World} {v : Value} (h : g.O lo hi w v) : ∃ b a c, v = .agg #[.int .i64 g.n, .slice (some ⟨b, 0, none⟩) g.m g.m, .int .i64 g.tm, .int .i64 g.t.log, .slice a g.t.px.length c] := by
  obtain ⟨b, tu, rfl, h2, h3, h4, h5, h6⟩ := h
  obtain ⟨a, c, rfl, _⟩ := h5.1.form
  exact ⟨b, a, c, rfl⟩
theorem Grd.O.low {g : Grd} {lo hi lo' : Nat} {w : World} {v : Value} (h : g.O lo hi w v) (hl : lo' ≤ lo) : g.O lo' hi w v := by
  obtain ⟨b, tu, h1, h2, h3, h4, ⟨h5, h5'⟩, h6⟩ := h
  exact ⟨b, tu, h1, by omega, h3, h4, ⟨h5.low hl, h5'⟩, h6⟩

set_option maxRecDepth 10000 in
set_option maxHeartbeats 3200000 in
theorem toPoint_val (x y z p q : Int) (w : World) : Calls Tryz.prog 44 #[.agg #[.int .i64 x, .int .i64 y, .int .i64 z, .int .i64 p, .int .i64 q]] w fun e w' => e = .returned (.agg #[.int .i64 x, .int .i64 y, .int .i64 z, .int .i64 p, .int .i64 q]) ∧ Ext w w' := by
  go_enter Tryz.func44, Tryz.ntmps44
  go_wp2
  refine bodyPost_ret (v := .agg #[.int .i64 x, .int .i64 y, .int .i64 z, .int .i64 p, .int .i64 q]) (by simp [results, Tryz.results44, go_sem]) rfl ⟨rfl, ?_⟩
  exact (by repeat (first | with_reducible assumption | with_reducible exact Ext.refl _ | with_reducible apply Ext.alloc | with_reducible apply Ext.drew | with_reducible apply Ext.drewN | (with_reducible refine Ext.setCell ?_ (by simp; omega) _) | (with_reducible refine Ext.setCell ?_ (by simp) _)))
set_option maxRecDepth 10000 in
set_option maxHeartbeats 3200000 in
theorem eqPoint_same (x y z p q : Int) (w : World) : Calls Tryz.prog 56 #[.agg #[.int .i64 x, .int .i64 y, .int .i64 z, .int .i64 p, .int .i64 q], .agg #[.int .i64 x, .int .i64 y, .int .i64 z, .int .i64 p, .int .i64 q]] w fun e w' => e = .returned (.bool true) ∧ Ext w w' := by
  go_enter Tryz.func56, Tryz.ntmps56
  go_wp2
  go_ret
  exact ⟨rfl, (by repeat (first | with_reducible assumption | with_reducible exact Ext.refl _ | with_reducible apply Ext.alloc | with_reducible apply Ext.drew | with_reducible apply Ext.drewN | (with_reducible refine Ext.setCell ?_ (by simp; omega) _) | (with_reducible refine Ext.setCell ?_ (by simp) _)))⟩
set_option maxHeartbeats 400000 in
theorem szPointS_any (lo hi : Nat) (u : Value) (n : Nat) (f : Nat → Int) (left : Int) (w : World) (hu : Flats 5 lo hi w u n f) (h1 : 0 ≤ left) (h2 : left ≤ 1048576) :
    Calls Tryz.prog 17 #[u, .int .i64 left] w fun e w' => e = .returned (.int .i64 (szRes left n)) ∧ w = w' := by
  obtain ⟨a, cap, rfl, HU⟩ := hu.open
  have h3 := HU.le
  have h4 := HU.cap
  unfold szRes
  go_enter Tryz.func17, Tryz.ntmps17
  go_wp2
  all_goals go_ret
  all_goals exact ⟨rfl, rfl⟩
theorem info_Point : (Tryz.prog.info? 98).map (fun i => (i.zero, i.size, i.bytes)) = some (some (.agg #[.int .i64 0, .int .i64 0, .int .i64 0, .int .i64 0, .int .i64 0]), 5, 40) := by kernel_rfl
set_option maxRecDepth 20000 in
set_option maxHeartbeats 6400000 in
theorem toPointS_any (lo hi : Nat) (u : Value) (n : Nat) (f : Nat → Int) (w : World) (hu : Flats 5 lo hi w u n f) (hh : hi ≤ w.heap.size) (hsz : n ≤ 1048576) :
    Calls Tryz.prog 25 #[u] w fun e w' => e = .returned (.slice (some ⟨w.heap.size, 0, none⟩) n n) ∧ RowI w' w.heap.size 98 (n * 5) f ∧ Ext w w' := by
  obtain ⟨i0, hi0, hz0, hz1, hz2⟩ := info_parts info_Point
  obtain ⟨a, cap, rfl, HU⟩ := hu.open
  clear hu
  have hcap := HU.cap
  have hle := HU.le
  go_enter Tryz.func25, Tryz.ntmps25
  go_wp2_with (at_make; refine wpList_make_full _ rfl _ _ 40 rfl w.heap.size 98 i0 _ 5 Tryz.underlying40 hi0 hz0 hz1 _ _ _ _ n rfl rfl rfl rfl (by rw [hz2]; omega) (by unfold maxLen; omega) (Nat.le_refl _) ?_)
  intro w1 hown hgrow
  have hx : Ext w w1 := (Ext.refl w).grown hgrow (fun k h => by cases h)
  have hrow := hid (RowI.zero (f := f) (ownsRow_rowI (made_zero (k := 5) rfl (by decide) _) hown))
  clear hown hgrow hi0 hz0 hz1 hz2
  go_wp2
  go_loopw [4] (fun i wr => ∃ k : Nat, k ≤ n ∧ i = .int .i64 k ∧ Ext w wr ∧ RowI wr w.heap.size 98 (n * 5) (fillI f (k * 5))) (fun i _ => n - (intOf i).toNat)
  case atStart => exact ⟨0, by omega, rfl, hx, by simpa using hrow.out⟩
  case round =>
    clear hx hrow
    obtain ⟨k, hk, rfl, hx, hrow⟩ := hrel
    by_cases hlt : k < n
    · obtain ⟨b, off, rfl, hb1, hb2, hc⟩ := HU.at hlt (by decide)
      have hlen := flat_lt (k := 5) (j := 4) hlt (by decide)
      have c0 := (hx.cells.1 b _ (by omega)).trans (hc 0 (by decide))
      have c1 := (hx.cells.1 b _ (by omega)).trans (hc 1 (by decide))
      have c2 := (hx.cells.1 b _ (by omega)).trans (hc 2 (by decide))
      have c3 := (hx.cells.1 b _ (by omega)).trans (hc 3 (by decide))
      have c4 := (hx.cells.1 b _ (by omega)).trans (hc 4 (by decide))
      simp only [Nat.add_zero] at c0
      have HX := hid hx
      have HR := hid hrow
      clear hc hx hrow
      go_wp2_with fail
      refine (toPoint_val (f (k * 5)) (f (k * 5 + 1)) (f (k * 5 + 2)) (f (k * 5 + 3)) (f (k * 5 + 4)) _).mono ?_
      rintro e w2 ⟨rfl, h2⟩
      have hR := HR.out.ext h2
      have hX := HX.out.trans h2
      have d0 := hR.cell (i := k * 5) (by omega)
      have g0 := hR.frozen (k * 5)
      have d1 := hR.cell (i := k * 5 + 1) (by omega)
      have g1 := hR.frozen (k * 5 + 1)
      have d2 := hR.cell (i := k * 5 + 2) (by omega)
      have g2 := hR.frozen (k * 5 + 2)
      have d3 := hR.cell (i := k * 5 + 3) (by omega)
      have g3 := hR.frozen (k * 5 + 3)
      have d4 := hR.cell (i := k * 5 + 4) (by omega)
      have g4 := hR.frozen (k * 5 + 4)
      have HX2 := hid hX
      have HR2 := hid hR
      clear HX HR h2 hX hR
      go_wp2
      go_roundw
      case rel =>
        refine ⟨k + 1, by omega, by go_num, ?_, ?_⟩
        · have hX := HX2.out
          exact (by repeat (first | with_reducible assumption | with_reducible exact Ext.refl _ | with_reducible apply Ext.alloc | with_reducible apply Ext.drew | with_reducible apply Ext.drewN | (with_reducible refine Ext.setCell ?_ (by simp; omega) _) | (with_reducible refine Ext.setCell ?_ (by simp) _)))
        · rw [Nat.add_mul, Nat.one_mul]
          exact RowI.step (RowI.step (RowI.step (RowI.step (RowI.step (HR2.out) rfl rfl) rfl rfl) rfl rfl) rfl rfl) rfl rfl
      case measure => simp [intOf]; omega
    · go_wp2
      go_ret
      obtain rfl : k = n := by omega
      exact ⟨rfl, hrow.full, hx⟩
set_option maxRecDepth 20000 in
set_option maxHeartbeats 3200000 in
theorem eqPointS_same (lo hi lo' hi' : Nat) (u v : Value) (n : Nat) (f : Nat → Int) (w : World) (hu : Flats 5 lo hi w u n f) (hv : Flats 5 lo' hi' w v n f) (hh : hi ≤ w.heap.size) (hh' : hi' ≤ w.heap.size) :
    Calls Tryz.prog 32 #[u, v] w fun e w' => e = .returned (.bool true) ∧ Ext w w' := by
  obtain ⟨a, cap, rfl, HU⟩ := Flats.open hu
  obtain ⟨a', cap', rfl, HV⟩ := Flats.open hv
  clear hu hv
  have h1 := HU.le
  have h2 := HU.cap
  have h1' := HV.le
  have h2' := HV.cap
  go_enter Tryz.func32, Tryz.ntmps32
  go_wp2
  go_loopw [5] (fun i wr => ∃ k : Nat, k ≤ n ∧ i = .int .i64 k ∧ Ext w wr) (fun i _ => n - (intOf i).toNat)
  case atStart => exact ⟨0, by omega, rfl, (by repeat (with_reducible (first | assumption | exact Ext.refl _ | apply Ext.alloc | apply Ext.drew | apply Ext.drewN)))⟩
  case round =>
    obtain ⟨k, hk, rfl, hx⟩ := hrel
    by_cases hlt : k < n
    · obtain ⟨b, off, rfl, hb1, hb2, hc⟩ := HU.at hlt (by decide)
      obtain ⟨b', off', rfl, hb1', hb2', hc'⟩ := HV.at hlt (by decide)
      have c0 := (hx.cells.1 b _ (by omega)).trans (hc 0 (by decide))
      have d0 := (hx.cells.1 b' _ (by omega)).trans (hc' 0 (by decide))
      have c1 := (hx.cells.1 b _ (by omega)).trans (hc 1 (by decide))
      have d1 := (hx.cells.1 b' _ (by omega)).trans (hc' 1 (by decide))
      have c2 := (hx.cells.1 b _ (by omega)).trans (hc 2 (by decide))
      have d2 := (hx.cells.1 b' _ (by omega)).trans (hc' 2 (by decide))
      have c3 := (hx.cells.1 b _ (by omega)).trans (hc 3 (by decide))
      have d3 := (hx.cells.1 b' _ (by omega)).trans (hc' 3 (by decide))
      have c4 := (hx.cells.1 b _ (by omega)).trans (hc 4 (by decide))
      have d4 := (hx.cells.1 b' _ (by omega)).trans (hc' 4 (by decide))
      simp only [Nat.add_zero] at c0 d0
      have s1 : b < wr.heap.size := by have := hx.size; omega
      have s2 : b' < wr.heap.size := by have := hx.size; omega
      have HX := hid hx
      clear hc hc' hx
      go_wp2
      refine wp_region_ext (by kernel_rfl) (by kernel_rfl) ?_
      repeat (go_big_quiet_step ((go_at_call 56; exact grow_call (eqPoint_same _ _ _ _ _ _))))
      refine wpQuiet_nil ?_
      intro w1 h1
      have hX := HX.out.trans h1
      clear h1 HX
      go_wp2
      go_roundw
      case rel => exact ⟨k + 1, by omega, by go_num, hX⟩
      case measure => simp [intOf]; omega
    · go_wp2
      go_ret
      exact ⟨rfl, hx⟩
/-- a store into a whole block of integers -/
theorem RowI.put {w : World} {b : Nat} {t : TypeId} {n : Nat} {f : Nat → Int} (h : RowI w b t n f) (i : Nat) (x : Int) : ∃ f', RowI (w.setCell ⟨b, i, none⟩ (.int .i64 x)) b t n f' :=
  ⟨fun j => if j = i then x else f j, World.rowIs.congr (World.rowIs.set h i (.int .i64 x)) fun j _ => by by_cases e : j = i <;> simp [e]⟩
end Go.Proofs.YtjfcngbepjdfnaaGreat
