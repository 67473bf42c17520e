/- This text holds the two searches of a tile in a list: the place that they find. -/
import Derived.Test.YtcogkglkioejaaaTileS2
import Derived.Test.YtcogkglkioejaaaTls
namespace Go.Proofs.Ytcogkglkioejaaa
open Go.RowKit

/-- r is the first place of t, or -1 -/
def Found (s : TL) (t : T3) (r : Int) : Prop := (∃ k : Nat, r = k ∧ k < s.n ∧ s.lacks t k ∧ eqT t (s.f (k * 3)) (s.f (k * 3 + 1)) (s.f (k * 3 + 2)) = true) ∨ (r = -1 ∧ s.lacks t s.n)
def ix (L : List T3) (t : T3) : Int := if t ∈ L then (L.idxOf t : Int) else -1
theorem found_ix {L : List T3} {t : T3} {r : Int} (h : Found (TLof L) t r) : r = ix L t := by
  have hat : ∀ k (hk : k < L.length), eqT t ((TLof L).f (k * 3)) ((TLof L).f (k * 3 + 1)) ((TLof L).f (k * 3 + 2)) = true ↔ t = L[k] := fun k hk => by
    obtain ⟨e0, e1, e2⟩ := TLof_at hk
    rw [eqT_iff, e0, e1, e2]
  rcases h with ⟨k, rfl, hk, hl, he⟩ | ⟨rfl, hl⟩
  · have hk' : k < L.length := hk
    have e := (hat k hk').1 he
    have hm : t ∈ L := e ▸ List.getElem_mem hk'
    unfold ix
    rw [if_pos hm]
    have hi := List.idxOf_lt_length_of_mem hm
    have hx : L[L.idxOf t] = t := List.getElem_idxOf hi
    have h1 : ¬ L.idxOf t < k := fun hlt => by
      have := hl _ hlt
      rw [(hat _ hi).2 hx.symm] at this
      cases this
    have h2 : ¬ k < L.idxOf t := fun hlt => by
      have := List.not_of_lt_findIdx hlt
      simp [e] at this
    omega
  · unfold ix
    rw [if_neg]
    intro hm
    have hi := List.idxOf_lt_length_of_mem hm
    have hx : L[L.idxOf t] = t := List.getElem_idxOf hi
    have := hl _ hi
    rw [(hat _ hi).2 hx.symm] at this
    cases this

set_option maxHeartbeats 1600000 in
theorem tileFound_any (lo hi : Nat) (u : Value) (s : TL) (x y z : Int) (w : World) (hu : s.R lo hi w u) (hh : hi ≤ w.heap.size) :
    Calls Try.prog 34 #[u, .agg #[.int .i64 x, .int .i64 y, .int .i64 z]] w fun e w' => ∃ r : Int, e = .returned (.int .i64 r) ∧ Found s ⟨x, y, z⟩ r ∧ Ext w w' := by
  obtain ⟨a, cap, rfl, HU⟩ := Flats.open hu
  have hle := HU.le
  have hcap := HU.cap
  clear hu
  have hq := run_eqTile x y z
  go_enter Try.func34, Try.ntmps34
  go_wp2
  go_loopw [8] (fun i wr => ∃ k : Nat, k ≤ s.n ∧ i = .int .i64 k ∧ s.lacks ⟨x, y, z⟩ k ∧ Ext (w.alloc (.cells #[.int .i64 x, .int .i64 y, .int .i64 z] 60)) wr) (fun i _ => s.n - (intOf i).toNat)
  case atStart => exact ⟨0, by omega, rfl, fun i h => by omega, Ext.refl _⟩
  case round =>
    obtain ⟨k, hk, rfl, hl, hx⟩ := hrel
    have HX := hid hx
    by_cases hlt : k < s.n
    · obtain ⟨b, off, rfl, hb1, hb2, hc⟩ := HU.at hlt (by decide)
      have hsz := hx.size
      simp at hsz
      have v0 := hx.cells.1 w.heap.size 0 (by simp)
      have v1 := hx.cells.1 w.heap.size 1 (by simp)
      have v2 := hx.cells.1 w.heap.size 2 (by simp)
      simp [go_sem] at v0 v1 v2
      have c0 := ((((Ext.refl w).alloc _).trans hx).cells.1 b _ (by omega)).trans (hc 0 (by decide))
      have c1 := ((((Ext.refl w).alloc _).trans hx).cells.1 b _ (by omega)).trans (hc 1 (by decide))
      have c2 := ((((Ext.refl w).alloc _).trans hx).cells.1 b _ (by omega)).trans (hc 2 (by decide))
      simp only [Nat.add_zero] at c0
      have s1 : b < wr.heap.size := by omega
      have s2 : w.heap.size < wr.heap.size := by omega
      cases he : eqT ⟨x, y, z⟩ (s.f (k * 3)) (s.f (k * 3 + 1)) (s.f (k * 3 + 2))
      · have HE := hid (TL.lacks_succ hl he)
        clear hl hx hc
        go_wp2
        go_quiet (fail)
        go_wp2
        go_roundw
        case rel => exact ⟨k + 1, by omega, by go_num, HE.out, HX.out.drewN _⟩
        case measure => simp [intOf]; omega
      · have HE := hid (show Found s ⟨x, y, z⟩ k from .inl ⟨k, rfl, hlt, hl, he⟩)
        clear hl hx hc
        go_wp2
        go_quiet (fail)
        go_wp2
        go_ret
        exact ⟨k, rfl, HE.out, (Ext.trans (by repeat (with_reducible (first | assumption | exact Ext.refl _ | apply Ext.alloc | apply Ext.drew | apply Ext.drewN))) HX.out).drewN _⟩
    · obtain rfl : k = s.n := by omega
      have HE := hid (show Found s ⟨x, y, z⟩ (-1) from .inr ⟨rfl, hl⟩)
      clear hl hx
      go_wp2
      go_ret
      exact ⟨-1, rfl, HE.out, Ext.trans (by repeat (with_reducible (first | assumption | exact Ext.refl _ | apply Ext.alloc | apply Ext.drew | apply Ext.drewN))) HX.out⟩

set_option maxHeartbeats 1600000 in
theorem l16Found_any (lo hi : Nat) (u : Value) (s : TL) (x y z : Int) (w : World) (hu : s.R lo hi w u) (hh : hi ≤ w.heap.size) :
    Calls Try.prog 65 #[u, .agg #[.int .i64 x, .int .i64 y, .int .i64 z]] w fun e w' => ∃ r : Int, e = .returned (.int .i64 r) ∧ Found s ⟨x, y, z⟩ r ∧ Ext w w' := by
  obtain ⟨a, cap, rfl, HU⟩ := Flats.open hu
  have hle := HU.le
  have hcap := HU.cap
  clear hu
  go_enter Try.func65, Try.ntmps65
  go_wp2
  go_loopw [9] (fun i wr => ∃ k : Nat, k ≤ s.n ∧ i = .int .i64 k ∧ s.lacks ⟨x, y, z⟩ k ∧ Ext (w.alloc (.cells #[.int .i64 x, .int .i64 y, .int .i64 z] 60)) wr) (fun i _ => s.n - (intOf i).toNat)
  case atStart => exact ⟨0, by omega, rfl, fun i h => by omega, Ext.refl _⟩
  case round =>
    obtain ⟨k, hk, rfl, hl, hx⟩ := hrel
    have HX := hid hx
    by_cases hlt : k < s.n
    · obtain ⟨b, off, rfl, hb1, hb2, hc⟩ := HU.at hlt (by decide)
      have hsz := hx.size
      simp at hsz
      have v0 := hx.cells.1 w.heap.size 0 (by simp)
      have v1 := hx.cells.1 w.heap.size 1 (by simp)
      have v2 := hx.cells.1 w.heap.size 2 (by simp)
      simp [go_sem] at v0 v1 v2
      have c0 := ((((Ext.refl w).alloc _).trans hx).cells.1 b _ (by omega)).trans (hc 0 (by decide))
      have c1 := ((((Ext.refl w).alloc _).trans hx).cells.1 b _ (by omega)).trans (hc 1 (by decide))
      have c2 := ((((Ext.refl w).alloc _).trans hx).cells.1 b _ (by omega)).trans (hc 2 (by decide))
      simp only [Nat.add_zero] at c0
      have s1 : b < wr.heap.size := by omega
      have s2 : w.heap.size < wr.heap.size := by omega
      have hq := run_eqTile (s.f (k * 3)) (s.f (k * 3 + 1)) (s.f (k * 3 + 2)) x y z
      rw [eqT_comm] at hq
      cases he : eqT ⟨x, y, z⟩ (s.f (k * 3)) (s.f (k * 3 + 1)) (s.f (k * 3 + 2))
      · have HE := hid (TL.lacks_succ hl he)
        clear hl hx hc
        go_wp2
        go_roundw
        case rel => exact ⟨k + 1, by omega, by go_num, HE.out, by have hX := HX.out; exact (by repeat (first | with_reducible assumption | with_reducible exact Ext.refl _ | with_reducible apply Ext.alloc | with_reducible apply Ext.drew | with_reducible apply Ext.drewN | (with_reducible refine Ext.setCell ?_ (by simp; omega) _) | (with_reducible refine Ext.setCell ?_ (by simp) _)))⟩
        case measure => simp [intOf]; omega
      · have HE := hid (show Found s ⟨x, y, z⟩ k from .inl ⟨k, rfl, hlt, hl, he⟩)
        clear hl hx hc
        go_wp2
        go_ret
        refine ⟨k, rfl, HE.out, ?_⟩
        have hX : Ext w wr := Ext.trans (by repeat (with_reducible (first | assumption | exact Ext.refl _ | apply Ext.alloc | apply Ext.drew | apply Ext.drewN))) HX.out
        exact (by repeat (first | with_reducible assumption | with_reducible exact Ext.refl _ | with_reducible apply Ext.alloc | with_reducible apply Ext.drew | with_reducible apply Ext.drewN | (with_reducible refine Ext.setCell ?_ (by simp; omega) _) | (with_reducible refine Ext.setCell ?_ (by simp) _)))
    · obtain rfl : k = s.n := by omega
      have HE := hid (show Found s ⟨x, y, z⟩ (-1) from .inr ⟨rfl, hl⟩)
      clear hl hx
      go_wp2
      go_ret
      exact ⟨-1, rfl, HE.out, Ext.trans (by repeat (with_reducible (first | assumption | exact Ext.refl _ | apply Ext.alloc | apply Ext.drew | apply Ext.drewN))) HX.out⟩

theorem tileIx_any {r : Int} (lo hi : Nat) (u : Value) (L : List T3) (x y z : Int) (w : World) (hr : ix L ⟨x, y, z⟩ = r) (hu : (TLof L).R lo hi w u) (hh : hi ≤ w.heap.size) :
    Calls Try.prog 34 #[u, .agg #[.int .i64 x, .int .i64 y, .int .i64 z]] w fun e w' => e = .returned (.int .i64 r) ∧ Ext w w' :=
  (tileFound_any lo hi u (TLof L) x y z w hu hh).mono fun _ _ ⟨_, he, hf, hx⟩ => ⟨by rw [he, found_ix hf, hr], hx⟩
theorem l16Ix_any {r : Int} (lo hi : Nat) (u : Value) (L : List T3) (x y z : Int) (w : World) (hr : ix L ⟨x, y, z⟩ = r) (hu : (TLof L).R lo hi w u) (hh : hi ≤ w.heap.size) :
    Calls Try.prog 65 #[u, .agg #[.int .i64 x, .int .i64 y, .int .i64 z]] w fun e w' => e = .returned (.int .i64 r) ∧ Ext w w' :=
  (l16Found_any lo hi u (TLof L) x y z w hu hh).mono fun _ _ ⟨_, he, hf, hx⟩ => ⟨by rw [he, found_ix hf, hr], hx⟩
end Go.Proofs.Ytcogkglkioejaaa
