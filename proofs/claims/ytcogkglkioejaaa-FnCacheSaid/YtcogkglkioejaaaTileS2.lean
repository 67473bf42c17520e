/- This text proves what the search functions of both sides and the laws' functions over slices of tiles compute. -/
import Derived.Test.YtcogkglkioejaaaTileS
namespace Go.Proofs.Ytcogkglkioejaaa
open Go.RowKit

theorem sgn (r : Int) (b : Bool) (h : b = true ↔ 0 ≤ r) : decide (r ≥ 0) = b := by
  cases b
  · exact decide_eq_false (fun k => by have := h.2 k; cases this)
  · exact decide_eq_true (h.1 rfl)

set_option maxHeartbeats 800000 in
theorem tileContains_val {s : TL} {x y z : Int} {b : Bool} (hb : s.has ⟨x, y, z⟩ = b) (lo hi : Nat) (u : Value) (w : World) (hu : s.R lo hi w u) (hh : hi ≤ w.heap.size) :
    Calls Try.prog 59 #[u, .agg #[.int .i64 x, .int .i64 y, .int .i64 z]] w fun e w' => e = .returned (.bool b) ∧ Ext w w' := by
  subst hb
  have HU := hid hu
  obtain ⟨a, cap, rfl, _⟩ := Flats.open hu
  clear hu
  go_enter Try.func59, Try.ntmps59
  go_wp2_with fail
  refine (tileIndex_any lo hi _ s x y z _ (Flats.ext HU.out hh (by repeat (with_reducible (first | assumption | exact Ext.refl _ | apply Ext.alloc | apply Ext.drew | apply Ext.drewN)))) (by simp; omega)).mono ?_
  rintro e w1 ⟨r, rfl, hr, h1⟩
  have HR := hid hr
  clear hr
  go_wp2
  go_ret
  refine ⟨ret_bool ?_, Ext.trans (by repeat (with_reducible (first | assumption | exact Ext.refl _ | apply Ext.alloc | apply Ext.drew | apply Ext.drewN))) h1⟩
  have := sgn r _ HR.out
  simpa using this

set_option maxHeartbeats 1600000 in
theorem l16Find_any (lo hi : Nat) (u : Value) (s : TL) (x y z : Int) (w : World) (hu : s.R lo hi w u) (hh : hi ≤ w.heap.size) :
    Calls Try.prog 65 #[u, .agg #[.int .i64 x, .int .i64 y, .int .i64 z]] w fun e w' => ∃ r : Int, e = .returned (.int .i64 r) ∧ (s.has ⟨x, y, z⟩ = true ↔ 0 ≤ r) ∧ Ext w w' := by
  obtain ⟨a, cap, rfl, HU⟩ := Flats.open hu
  have hle := HU.le
  have hcap := HU.cap
  clear hu
  go_enter Try.func65, Try.ntmps65
  go_wp2
  go_loopw [9] (fun i wr => ∃ k : Nat, k ≤ s.n ∧ i = .int .i64 k ∧ s.lacks ⟨x, y, z⟩ k ∧ Ext (w.alloc (.cells #[.int .i64 x, .int .i64 y, .int .i64 z] 60)) wr) (fun i _ => s.n - (intOf i).toNat)
  case atStart => exact ⟨0, by omega, rfl, fun i h => by omega, Ext.refl _⟩
  case round =>
    obtain ⟨k, hk, rfl, hl, hx⟩ := hrel
    have HX := hid hx
    by_cases hlt : k < s.n
    · obtain ⟨b, off, rfl, hb1, hb2, hc⟩ := HU.at hlt (by decide)
      have hsz := hx.size
      simp at hsz
      have v0 := hx.cells.1 w.heap.size 0 (by simp)
      have v1 := hx.cells.1 w.heap.size 1 (by simp)
      have v2 := hx.cells.1 w.heap.size 2 (by simp)
      simp [go_sem] at v0 v1 v2
      have c0 := ((((Ext.refl w).alloc _).trans hx).cells.1 b _ (by omega)).trans (hc 0 (by decide))
      have c1 := ((((Ext.refl w).alloc _).trans hx).cells.1 b _ (by omega)).trans (hc 1 (by decide))
      have c2 := ((((Ext.refl w).alloc _).trans hx).cells.1 b _ (by omega)).trans (hc 2 (by decide))
      simp only [Nat.add_zero] at c0
      have s1 : b < wr.heap.size := by omega
      have s2 : w.heap.size < wr.heap.size := by omega
      have hq := run_eqTile (s.f (k * 3)) (s.f (k * 3 + 1)) (s.f (k * 3 + 2)) x y z
      rw [eqT_comm] at hq
      cases he : eqT ⟨x, y, z⟩ (s.f (k * 3)) (s.f (k * 3 + 1)) (s.f (k * 3 + 2))
      · have HE := hid (TL.lacks_succ hl he)
        clear hl hx hc
        go_wp2
        go_roundw
        case rel => exact ⟨k + 1, by omega, by go_num, HE.out, by have hX := HX.out; exact (by repeat (first | with_reducible assumption | with_reducible exact Ext.refl _ | with_reducible apply Ext.alloc | with_reducible apply Ext.drew | with_reducible apply Ext.drewN | (with_reducible refine Ext.setCell ?_ (by simp; omega) _) | (with_reducible refine Ext.setCell ?_ (by simp) _)))⟩
        case measure => simp [intOf]; omega
      · have HE := hid (TL.has_at hlt he)
        clear hl hx hc
        go_wp2
        go_ret
        refine ⟨k, rfl, ⟨fun _ => by omega, fun _ => HE.out⟩, ?_⟩
        have hX : Ext w wr := Ext.trans (by repeat (with_reducible (first | assumption | exact Ext.refl _ | apply Ext.alloc | apply Ext.drew | apply Ext.drewN))) HX.out
        exact (by repeat (first | with_reducible assumption | with_reducible exact Ext.refl _ | with_reducible apply Ext.alloc | with_reducible apply Ext.drew | with_reducible apply Ext.drewN | (with_reducible refine Ext.setCell ?_ (by simp; omega) _) | (with_reducible refine Ext.setCell ?_ (by simp) _)))
    · obtain rfl : k = s.n := by omega
      have HE := hid (TL.lacks_has hl)
      clear hl hx
      go_wp2
      go_ret
      exact ⟨-1, rfl, ⟨fun h => (by rw [HE.out] at h; cases h), fun h => by omega⟩, Ext.trans (by repeat (with_reducible (first | assumption | exact Ext.refl _ | apply Ext.alloc | apply Ext.drew | apply Ext.drewN))) HX.out⟩

set_option maxHeartbeats 1600000 in
theorem eqTileS_same (lo hi lo' hi' : Nat) (u v : Value) (s : TL) (w : World) (hu : s.R lo hi w u) (hv : s.R lo' hi' w v) (hh : hi ≤ w.heap.size) (hh' : hi' ≤ w.heap.size) :
    Calls Try.prog 44 #[u, v] w fun e w' => e = .returned (.bool true) ∧ Ext w w' := by
  obtain ⟨a, cap, rfl, HU⟩ := Flats.open hu
  obtain ⟨a', cap', rfl, HV⟩ := Flats.open hv
  clear hu hv
  have h1 := HU.le
  have h2 := HU.cap
  have h1' := HV.le
  have h2' := HV.cap
  go_enter Try.func44, Try.ntmps44
  go_wp2
  go_loopw [5] (fun i wr => ∃ k : Nat, k ≤ s.n ∧ i = .int .i64 k ∧ Ext w wr) (fun i _ => s.n - (intOf i).toNat)
  case atStart => exact ⟨0, by omega, rfl, (by repeat (with_reducible (first | assumption | exact Ext.refl _ | apply Ext.alloc | apply Ext.drew | apply Ext.drewN)))⟩
  case round =>
    obtain ⟨k, hk, rfl, hx⟩ := hrel
    by_cases hlt : k < s.n
    · obtain ⟨b, off, rfl, hb1, hb2, hc⟩ := HU.at hlt (by decide)
      obtain ⟨b', off', rfl, hb1', hb2', hc'⟩ := HV.at hlt (by decide)
      have c0 := (hx.cells.1 b _ (by omega)).trans (hc 0 (by decide))
      have d0 := (hx.cells.1 b' _ (by omega)).trans (hc' 0 (by decide))
      have c1 := (hx.cells.1 b _ (by omega)).trans (hc 1 (by decide))
      have d1 := (hx.cells.1 b' _ (by omega)).trans (hc' 1 (by decide))
      have c2 := (hx.cells.1 b _ (by omega)).trans (hc 2 (by decide))
      have d2 := (hx.cells.1 b' _ (by omega)).trans (hc' 2 (by decide))
      simp only [Nat.add_zero] at c0 d0
      have s1 : b < wr.heap.size := by have := hx.size; omega
      have s2 : b' < wr.heap.size := by have := hx.size; omega
      have HX := hid hx
      clear hc hc' hx
      go_wp2
      refine wp_region_ext (by kernel_rfl) (by kernel_rfl) ?_
      repeat (go_big_quiet_step ((go_at_call 73; exact grow_call (eqTile_same _ _ _ _))))
      refine wpQuiet_nil ?_
      intro w1 h1
      have hX := HX.out.trans h1
      clear h1 HX
      go_wp2
      go_roundw
      case rel => exact ⟨k + 1, by omega, by go_num, hX⟩
      case measure => simp [intOf]; omega
    · go_wp2
      go_ret
      exact ⟨rfl, hx⟩
end Go.Proofs.Ytcogkglkioejaaa
