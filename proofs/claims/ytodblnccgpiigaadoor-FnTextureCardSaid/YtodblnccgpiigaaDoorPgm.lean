/- This text proves what the program's spaced hands back. -/
import Derived.Test.YtodblnccgpiigaaDoorStrs2
import Derived.Test.YtodblnccgpiigaaDoorPic
namespace Go.Proofs.YtodblnccgpiigaaDoor
open Go.RowKit

theorem heap_new (w : World) (o : Obj) : (w.alloc o).heap[w.heap.size]? = some o := by show (w.heap.push o)[w.heap.size]? = _; simp
theorem OwnStrs.empty {lo : Nat} {w : World} {g : Nat} (hl : lo ≤ g) (hg : w.heap[g]? = some (.cells #[] 9)) : OwnStrs lo w (.slice (some ⟨g, 0, none⟩) 0 0) [] :=
  ⟨rfl, .inr ⟨g, 0, #[], rfl, hl, hg, Nat.le_refl _, Nat.zero_le _, rfl, rfl⟩⟩
def spB : ByteArray := ⟨#[32]⟩
theorem fmt_sizes (xs : List Int) : ∀ x ∈ xs.map fmtT, x.size ≤ 2000000 := by
  intro x hx
  obtain ⟨n, _, rfl⟩ := List.mem_map.1 hx
  have := fmtT_size n
  omega

set_option maxHeartbeats 800000 in
theorem spaced_any (lo hi : Nat) (u : Value) (xs : List Int) (w : World) (hu : Ints lo hi w u xs) (hh : hi ≤ w.heap.size) (hl : xs.length ≤ 1000000) (ht : Tab w) :
    Calls Tryd.prog 31 #[u] w fun e w' => e = .returned (.string (joinB (xs.map fmtT) spB)) ∧ Ext w w' := by
  obtain ⟨a, cap, rfl, HU⟩ := hu.open
  have l1 := HU.le
  have l2 := HU.cap
  have HT := hid ht
  clear hu ht
  go_enter Tryd.func31, Tryd.ntmps31
  go_wp2
  go_loopw [3, 9] (fun s i wr => ∃ k : Nat, k ≤ xs.length ∧ i = .int .i64 k ∧ OwnStrs w.heap.size wr s ((xs.take k).map fmtT) ∧ Ext w wr) (fun _ i _ => xs.length - (intOf i).toNat)
  case atStart => exact ⟨0, by omega, rfl, OwnStrs.empty (Nat.le_refl _) (heap_new w _), (by repeat (with_reducible (first | assumption | exact Ext.refl _ | apply Ext.alloc | apply Ext.drew | apply Ext.drewN)))⟩
  case round =>
    obtain ⟨k, hk, rfl, hown, hx⟩ := hrel
    obtain ⟨a', c', e0, _⟩ := hown.form
    rw [show ((xs.take k).map fmtT).length = k by simp; omega] at e0
    subst e0
    have HX := hid hx
    have HO := hid hown
    have sz := hx.size
    by_cases hlt : k < xs.length
    · obtain ⟨b, off, rfl, hb1, hb2, hc0⟩ := HU.at hlt
      have hi := HU.i64 hlt
      have hc := (hx.cells.1 b (off + k) (by omega)).trans hc0
      have hbw : b < wr.heap.size := by omega
      have HI := hid hi
      clear hx hown hc0 hi
      go_wp2_with fail
      refine (iFormatInt_any _ _ HI.out (HT.out.ext HX.out)).mono ?_
      rintro e w1 ⟨rfl, x1⟩
      go_wp2_with (at_builtin; refine wpList_append_str _ rfl _ _ rfl w.heap.size _ _ rfl (HO.out.ext (x1.trans (by repeat (with_reducible (first | assumption | exact Ext.refl _ | apply Ext.alloc | apply Ext.drew | apply Ext.drewN))))) (fmtT xs[k]) w1.heap.size rfl (by simp [go_sem]) (by simp; omega) (by have := x1.size; simp; omega) ?_; intro v' w2 hown' hg)
      have HN : ((xs.take k).map fmtT) ++ [fmtT xs[k]] = (xs.take (k + 1)).map fmtT := by rw [List.take_succ_eq_append_getElem hlt, List.map_append]; rfl
      rw [HN] at hown'
      have hx' : Ext w w2 := Ext.grown ((HX.out.trans x1).alloc _) hg (fun g e => (HO.out.lt g e).1)
      have HO' := hid hown'
      have HX' := hid hx'
      clear hown' hx' HN hg
      go_wp2
      go_roundw
      case rel => exact ⟨k + 1, by omega, by go_num, HO'.out, HX'.out⟩
      case measure => simp [intOf]; omega
    · obtain rfl : k = xs.length := by omega
      rw [List.take_length] at HO
      clear hx
      go_wp2_with fail
      refine (iJoin_any _ _ _ _ spB _ HO.out.strs (Nat.le_refl _) (fmt_sizes xs) (by simp; omega) (by decide)).mono ?_
      rintro e w1 ⟨rfl, x1⟩
      go_wp2
      go_ret
      exact ⟨rfl, HX.out.trans x1⟩
end Go.Proofs.YtodblnccgpiigaaDoor
