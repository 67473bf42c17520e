/- This text proves what the program's FormatInts hands back for numbers of nine digits and one at most. -/
import Derived.Test.YtkcghoeklbcihaaGreatDoorInts
namespace Go.Proofs.YtkcghoeklbcihaaGreatDoor
open Go.RowKit

theorem fmtT_pos {n : Int} (h : inB n (-1000000000) 1000000000 = true) : (fmtT n).size ≠ 0 := by
  rw [fmtT_of h]
  have := fmtB_pos n
  omega

set_option maxHeartbeats 1600000 in
theorem iFormatInts_in (lo hi : Nat) (u : Value) (xs : List Int) (w : World) (hu : Ints lo hi w u xs) (hh : hi ≤ w.heap.size) (hne : 1 ≤ xs.length) (hl : xs.length ≤ 1000000) (hr : ∀ x ∈ xs, inB x (-1000000000) 1000000000 = true) (ht : Tab w) :
    Calls Tryz.prog 27 #[u] w fun e w' => e = .returned (.string (joinB (xs.map fmtT) comB)) ∧ Ext w w' := by
  obtain ⟨a, cap, rfl, HU⟩ := hu.open
  have l1 := HU.le
  have l2 := HU.cap
  have HT := hid ht
  have HR := hid hr
  have h0 : ((xs.length : Int) == 0) = false := by rw [beq_eq_false_iff_ne]; omega
  clear hu ht hr
  go_enter Tryz.func27, Tryz.ntmps27
  go_wp2
  go_loopw [3, 13] (fun s i wr => ∃ k : Nat, k ≤ xs.length ∧ i = .int .i64 k ∧ OwnStrs w.heap.size wr s ((xs.take k).map fmtT) ∧ Ext w wr) (fun _ i _ => xs.length - (intOf i).toNat)
  case atStart => exact ⟨0, by omega, rfl, OwnStrs.empty (Nat.le_refl _) (heap_new w _), (by repeat (with_reducible (first | assumption | exact Ext.refl _ | apply Ext.alloc | apply Ext.drew | apply Ext.drewN)))⟩
  case round =>
    obtain ⟨k, hk, rfl, hown, hx⟩ := hrel
    obtain ⟨a', c', e0, _⟩ := hown.form
    rw [show ((xs.take k).map fmtT).length = k by simp; omega] at e0
    subst e0
    have HX := hid hx
    have HO := hid hown
    have sz := hx.size
    by_cases hlt : k < xs.length
    · obtain ⟨b, off, rfl, hb1, hb2, hc0⟩ := HU.at hlt
      have hi := HU.i64 hlt
      have hc := (hx.cells.1 b (off + k) (by omega)).trans hc0
      have hbw : b < wr.heap.size := by omega
      have HI := hid hi
      have hn0 := fmtT_pos (HR.out xs[k] (List.getElem_mem hlt))
      have e0 := str_full hn0
      obtain ⟨T, hT⟩ : ∃ T, fmtT xs[k] = T := ⟨_, rfl⟩
      have hft := fun w ht => hT ▸ iFormatInt_any xs[k] w HI.out ht
      have HF := hid hft
      have HN : ((xs.take k).map fmtT) ++ [T] = (xs.take (k + 1)).map fmtT := by rw [List.take_succ_eq_append_getElem hlt, List.map_append, ← hT]; rfl
      rw [hT] at e0
      replace HN := hid HN
      clear hx hown hc0 hi hn0 hT hft
      go_wp2_with fail
      refine (HF.out _ (HT.out.ext HX.out)).mono ?_
      rintro e w1 ⟨rfl, x1⟩
      go_wp2_with (at_builtin; refine wpList_append_str _ rfl _ _ rfl w.heap.size _ _ rfl (HO.out.ext (x1.trans (by repeat (with_reducible (first | assumption | exact Ext.refl _ | apply Ext.alloc | apply Ext.drew | apply Ext.drewN))))) T w1.heap.size rfl (by simp [go_sem]) (by simp; omega) (by have := x1.size; simp; omega) ?_; intro v' w2 hown' hg)
      rw [HN.out] at hown'
      have hx' : Ext w w2 := Ext.grown ((HX.out.trans x1).alloc _) hg (fun g e => (HO.out.lt g e).1)
      have HO' := hid hown'
      have HX' := hid hx'
      clear hown' hx' hg
      go_wp2
      go_roundw
      case rel => exact ⟨k + 1, by omega, by go_num, HO'.out, HX'.out⟩
      case measure => simp [intOf]; omega
    · obtain rfl : k = xs.length := by omega
      rw [List.take_length] at HO
      clear hx
      go_wp2_with fail
      refine (iJoin_any _ _ _ _ comB _ HO.out.strs (Nat.le_refl _) (fmt_sizes xs) (by simp; omega) (by decide)).mono ?_
      rintro e w1 ⟨rfl, x1⟩
      go_wp2
      go_ret
      exact ⟨rfl, HX.out.trans x1⟩
end Go.Proofs.YtkcghoeklbcihaaGreatDoor
