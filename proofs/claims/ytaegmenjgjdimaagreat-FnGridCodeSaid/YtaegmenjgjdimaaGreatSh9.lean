/- This text proves the rows limited to colors, of both sides, and the rows of an operation. -/
import Derived.Test.YtaegmenjgjdimaaGreatSh8
namespace Go.Proofs.YtaegmenjgjdimaaGreat
open Go.RowKit

/-- the fresh row of no integers that a literal makes -/
theorem OwnInts.lit0 (w : World) : OwnInts w.heap.size (w.alloc (.cells #[] 3)) (.slice (some ⟨w.heap.size, 0, none⟩) 0 0) [] :=
  ⟨⟨rfl, .inr ⟨w.heap.size, 0, _, rfl, Nat.le_refl _, hnew w _, by simp, by unfold maxLen; omega, rfl, rfl⟩⟩, fun _ h => by cases h⟩
/-- a value limited to the range of colors -/
def col (n : Int) : Int := clampI n 0 256
theorem col_bd (n : Int) : 0 ≤ col n ∧ col n ≤ 256 := by
  unfold col clampI
  split
  · omega
  · split <;> omega
theorem take_map_snoc (f : Int → Int) (xs : List Int) (k : Nat) (h : k < xs.length) : (xs.take k).map f ++ [f xs[k]] = (xs.take (k + 1)).map f := by
  rw [List.take_succ_eq_append_getElem h, List.map_append]
  rfl
set_option maxHeartbeats 1600000 in
theorem iLimited_any (lo hi : Nat) (u : Value) (xs : List Int) (w : World) (hu : Ints lo hi w u xs) (hh : hi ≤ w.heap.size) (hl : xs.length ≤ 1000000) :
    Calls Tryz.prog 35 #[u] w fun e w' => ∃ v, e = .returned v ∧ OwnInts w.heap.size w' v (xs.map col) ∧ Ext w w' := by
  obtain ⟨a, cap, rfl, HU⟩ := hu.open
  have l1 := HU.le
  have l2 := HU.cap
  clear hu
  go_enter Tryz.func35, Tryz.ntmps35
  go_wp2
  go_loopw [3, 9] (fun v i wr => ∃ k : Nat, k ≤ xs.length ∧ i = .int .i64 k ∧ OwnInts w.heap.size wr v ((xs.take k).map col) ∧ Ext w wr) (fun _ i _ => xs.length - (intOf i).toNat)
  case atStart => exact ⟨0, by omega, rfl, OwnInts.lit0 w, (by repeat (with_reducible (first | assumption | exact Ext.refl _ | apply Ext.alloc | apply Ext.drew | apply Ext.drewN)))⟩
  case round =>
    obtain ⟨k, hk, rfl, hown, hx⟩ := hrel
    obtain ⟨av, cv, rfl, hcv⟩ := hown.form
    have hlen : ((xs.take k).map col).length = k := by simp; omega
    rw [hlen] at hown ⊢
    by_cases hlt : k < xs.length
    · obtain ⟨b, off, rfl, hb1, hb2, hc⟩ := HU.at hlt
      rw [← hx.cells.1 b _ (by omega)] at hc
      have hsn := take_map_snoc col xs k hlt
      obtain ⟨x, hxk⟩ : ∃ x, xs[k] = x := ⟨_, rfl⟩
      rw [hxk] at hc hsn
      have hbd := col_bd x
      obtain ⟨c, hcc⟩ : ∃ c, col x = c := ⟨_, rfl⟩
      rw [hcc] at hbd hsn
      have HC := hid (show clampI x 0 256 = c from hcc)
      have HO := hid hown
      have HX := hid hx
      have HS := hid hsn
      have HL := hid hlen
      have zs := hx.size
      have hbw : b < wr.heap.size := by omega
      clear hown hx hsn hlen hxk hcc
      go_wp2_with fail
      refine (iClamp_val HC.out _).mono ?_
      rintro e w1 ⟨rfl, rfl⟩
      go_wp2_with (at_builtin; refine wpList_append1 _ rfl _ _ rfl w.heap.size _ _ rfl (HO.out.alloc _) c ⟨by omega, by omega⟩ wr.heap.size rfl (by simp [go_sem]) (by rw [HL.out]; omega) (by simp; omega) ?_; intro v' w7 hown hg)
      rw [HS.out] at hown
      go_wp2
      go_roundw
      case rel => exact ⟨k + 1, by omega, by go_num, hown, Ext.grown (HX.out.alloc _) hg (fun g e => (HO.out.lt g e).1)⟩
      case measure => simp [intOf]; omega
    · obtain rfl : k = xs.length := by omega
      rw [List.take_length] at hown
      go_wp2
      go_ret
      exact ⟨_, rfl, hown, hx⟩
end Go.Proofs.YtaegmenjgjdimaaGreat
