/- This text proves what the laws' helper functions over films and images compute. -/
import Derived.Test.YteeclghkfcanlaaFilm3
namespace Go.Proofs.Yteeclghkfcanlaa
open Go.RowKit

/-- the slice value v owns, from block lo on, a row that holds n booleans -/
def OwnBools (lo : Nat) (w : World) (v : Value) (n : Nat) (f : Nat → Bool) : Prop := w.ownsRow lo 4 1 v n ((List.range n).map fun i => .bool (f i))
theorem OwnBools.bools {lo : Nat} {w : World} {v : Value} {n : Nat} {f : Nat → Bool} (h : OwnBools lo w v n f) : Bools lo w.heap.size w v n f := by
  obtain ⟨h1, h2⟩ := h
  rcases h2 with ⟨rfl, h4⟩ | ⟨g, cap, cur, rfl, hb, hg, hc, hm, hs, ht⟩
  · exact ⟨none, 0, by rw [h4], by omega, by unfold maxLen; omega, fun i hx => by omega⟩
  · refine ⟨some ⟨g, 0, none⟩, cap, rfl, hc, hm, fun i hx => ⟨g, 0, rfl, hb, (Array.getElem?_eq_some_iff.1 hg).1, ?_⟩⟩
    have e : ((List.range n).map fun i => Value.bool (f i))[i]? = some (.bool (f i)) := by simp [hx]
    rw [← ht, List.getElem?_take, if_pos (by omega)] at e
    simp only [World.cell?, hg, Nat.zero_add]
    simpa using e
theorem OwnBools.kept {lo : Nat} {w w' : World} {v : Value} {n : Nat} {f : Nat → Bool} (h : OwnBools lo w v n f) (s : Same lo w.heap.size w w') : OwnBools lo w' v n f := by
  obtain ⟨h1, h2⟩ := h
  refine ⟨h1, ?_⟩
  rcases h2 with hn | ⟨g, cap, cur, hv, hb, hg, r⟩
  · exact .inl hn
  · exact .inr ⟨g, cap, cur, hv, hb, by rw [s g hb (Array.getElem?_eq_some_iff.1 hg).1]; exact hg, r⟩
theorem OwnBools.ext {lo : Nat} {w w' : World} {v : Value} {n : Nat} {f : Nat → Bool} (h : OwnBools lo w v n f) (e : Ext w w') : OwnBools lo w' v n f := h.kept (e.same (Nat.le_refl _))
theorem OwnBools.setLow {lo : Nat} {w : World} {v : Value} {n : Nat} {f : Nat → Bool} (h : OwnBools lo w v n f) {p : Addr} (hp : p.block < lo) (u : Value) : OwnBools lo (w.setCell p u) v n f := h.kept (Same.setLow w hp u)
theorem map_set (g : Nat → Value) (n i : Nat) (x : Value) : ((List.range n).map g).set i x = (List.range n).map (fun j => if j = i then x else g j) := by
  apply List.ext_getElem?
  intro j
  rw [List.getElem?_set]
  by_cases e : i = j
  · subst e
    by_cases h : i < n <;> simp [h]
  · rw [if_neg e]
    by_cases h : j < n
    · simp [h]
      intro e'
      exact absurd e'.symm e
    · simp [h]
theorem info_bool : (Try.prog.info? 4).map (fun i => (i.zero, i.size, i.bytes)) = some (some (.bool false), 1, 1) := by kernel_rfl

set_option maxHeartbeats 400000 in
theorem szBoolS_any (lo hi : Nat) (u : Value) (n : Nat) (f : Nat → Bool) (left : Int) (w : World) (hu : Bools lo hi w u n f) (h1 : 0 ≤ left) (h2 : left ≤ 1048576) :
    Calls Try.prog 48 #[u, .int .i64 left] w fun e w' => e = .returned (.int .i64 (szRes left n)) ∧ w = w' := by
  obtain ⟨a, cap, rfl, HU⟩ := hu.open
  have h3 := HU.le
  have h4 := HU.cap
  unfold szRes
  go_enter Try.func48, Try.ntmps48
  go_wp2
  all_goals go_ret
  all_goals exact ⟨rfl, rfl⟩

set_option maxHeartbeats 800000 in
theorem toBoolS_any (lo hi : Nat) (u : Value) (n : Nat) (f : Nat → Bool) (w : World) (hu : Bools lo hi w u n f) (hh : hi ≤ w.heap.size) (hsz : n ≤ 1048576) :
    Calls Try.prog 51 #[u] w fun e w' => ∃ v, e = .returned v ∧ OwnBools w.heap.size w' v n f ∧ Ext w w' := by
  obtain ⟨i0, hi0, hz0, hz1, hz2⟩ := info_parts info_bool
  obtain ⟨a, cap, rfl, HU⟩ := hu.open
  have l1 := HU.le
  have l2 := HU.cap
  clear hu
  go_enter Try.func51, Try.ntmps51
  go_wp2_with (at_make; refine wpList_make_full _ rfl _ _ 35 rfl w.heap.size 4 i0 (.bool false) 1 Try.underlying35 hi0 hz0 hz1 _ _ _ _ n rfl rfl rfl rfl (by rw [hz2]; omega) (by unfold maxLen; omega) (Nat.le_refl _) ?_)
  intro w1 hown hgrow
  have hm : (madeCells #[Value.bool false] n).toList = (List.range n).map fun i => Value.bool (if i < 0 then f i else false) := by
    apply List.ext_getElem?
    intro i
    by_cases h : i < n
    · simp [madeCells, h, Nat.mod_one]
    · simp [madeCells, h]
  rw [hm] at hown
  have hx : Ext w w1 := (Ext.refl w).grown hgrow (fun k h => by cases h)
  have HO := hid hown
  have HX := hid hx
  clear hgrow hi0 hz0 hz1 hz2 hm hown hx
  go_wp2
  go_loopw [4] (fun i wr => ∃ k : Nat, k ≤ n ∧ i = .int .i64 k ∧ Ext w wr ∧ wr.ownsRow w.heap.size 4 1 (.slice (some ⟨w.heap.size, 0, none⟩) n n) n ((List.range n).map fun i => Value.bool (if i < k then f i else false)))
    (fun i _ => n - (intOf i).toNat)
  case atStart => exact ⟨0, by omega, rfl, HX.out, HO.out⟩
  case round =>
    clear HO HX
    obtain ⟨k, hk, rfl, hx, hown⟩ := hrel
    by_cases hlt : k < n
    · obtain ⟨b, off, rfl, hb1, hb2, hc⟩ := HU.cell k hlt
      rw [← hx.cells.1 b _ (by omega)] at hc
      have hs := hown.cellAt k (by omega)
      simp [hlt] at hs
      have hf := hown.frozenAt k
      have hst := (hown.stored k (.bool (f k))).1
      rw [map_set] at hst
      have e : (fun j => if j = k then Value.bool (f k) else Value.bool (if j < k then f j else false)) = fun j => Value.bool (if j < k + 1 then f j else false) := by
        funext j
        by_cases e : j = k
        · subst e; simp
        · rw [if_neg e]
          by_cases h : j < k
          · rw [if_pos h, if_pos (by omega)]
          · rw [if_neg h, if_neg (by omega)]
      rw [e] at hst
      have hx' := hx.setCell (p := ⟨w.heap.size, k, none⟩) (Nat.le_refl _) (.bool (f k))
      have H1 := hid hst
      have H2 := hid hx'
      clear hst hx' hown hx e
      go_wp2
      go_roundw
      case rel => exact ⟨k + 1, by omega, by go_num, H2.out, H1.out⟩
      case measure => simp [intOf]; omega
    · obtain rfl : k = n := by omega
      go_wp2
      go_ret
      refine ⟨_, rfl, ?_, hx⟩
      unfold OwnBools
      have e : ((List.range k).map fun i => Value.bool (f i)) = (List.range k).map fun i => Value.bool (if i < k then f i else false) := by
        apply List.map_congr_left
        intro i hi
        rw [if_pos (List.mem_range.1 hi)]
      rw [e]
      exact hown

set_option maxHeartbeats 800000 in
theorem eqBoolS_same (lo hi lo' hi' : Nat) (u v : Value) (n : Nat) (f : Nat → Bool) (w : World) (hu : Bools lo hi w u n f) (hv : Bools lo' hi' w v n f) :
    Calls Try.prog 56 #[u, v] w fun e w' => e = .returned (.bool true) ∧ Ext w w' := by
  obtain ⟨a, cap, rfl, HU⟩ := hu.open
  obtain ⟨a', cap', rfl, HV⟩ := hv.open
  have h1 := HU.le
  have h2 := HU.cap
  have h1' := HV.le
  have h2' := HV.cap
  go_enter Try.func56, Try.ntmps56
  go_wp2
  go_loopw [5] (fun i wr => ∃ k : Nat, k ≤ n ∧ i = .int .i64 k ∧ ∃ m, wr = w.drewN m) (fun i _ => n - (intOf i).toNat)
  case atStart => exact ⟨0, by omega, rfl, 0, rfl⟩
  case round =>
    obtain ⟨k, hk, rfl, m, rfl⟩ := hrel
    by_cases hlt : k < n
    · obtain ⟨b, off, rfl, hb1, hb2, hc⟩ := HU.cell k hlt
      obtain ⟨b', off', rfl, hb1', hb2', hc'⟩ := HV.cell k hlt
      go_wp2
      go_quiet (fail)
      go_wp2
      go_roundw
      case rel => exact ⟨k + 1, by omega, by go_num, _, rfl⟩
      case measure => simp [intOf]; omega
    · go_wp2
      go_ret
      exact ⟨rfl, (Ext.refl _).drewN _⟩
end Go.Proofs.Yteeclghkfcanlaa
