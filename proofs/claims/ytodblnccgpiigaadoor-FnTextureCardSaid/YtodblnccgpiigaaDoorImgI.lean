/- This text proves what the program's ParseImage hands back. -/
import Derived.Test.YtodblnccgpiigaaDoorImgW
import Derived.Test.YtodblnccgpiigaaDoorNum2
namespace Go.Proofs.YtodblnccgpiigaaDoor
open Go.RowKit

set_option maxHeartbeats 1600000 in
theorem parseSpaced_any (s : ByteArray) (w : World) (hs : s.size ≤ 100000000) (ht : Laid w) :
    Calls Tryd.prog 28 #[.string s] w fun e w' => ∃ v, e = .returned v ∧ OwnInts w.heap.size w' v (numsOf s) ∧ Ext w w' := by
  obtain ⟨Q, hQ⟩ : ∃ Q, splitB (inSep ⟨#[32]⟩) s = Q := ⟨_, rfl⟩
  have hNQ : numsOf s = Q.map fun y => (parseO y).getD 0 := by unfold numsOf; rw [hQ]
  have hQz : ∀ y ∈ Q, y.size ≤ 100000000 := fun y hy => by have := splitB_size (inSep ⟨#[32]⟩) s y (by rw [hQ]; exact hy); omega
  have hQl := splitB_length (inSep ⟨#[32]⟩) s
  have hsp := fun (w : World) => iSplitAny_any s ⟨#[32]⟩ w hs
  rw [hQ] at hsp hQl
  obtain ⟨q, hq⟩ : ∃ q, Q.length = q := ⟨_, rfl⟩
  rw [hq] at hQl
  have HT := hid ht
  have HS := hid hsp
  have HZ := hid hQz
  have HQ := hid hq
  rw [hNQ]
  clear hQ hNQ hQz hsp hq ht
  go_enter Tryd.func28, Tryd.ntmps28
  go_wp2_with fail
  refine (HS.out _).mono ?_
  rintro e w1 ⟨v, rfl, ho, x1⟩
  obtain ⟨a, c, e0, -⟩ := ho.form
  rw [HQ.out] at e0
  subst e0
  have N1 := hid (OwnInts.fresh0 (lo := w.heap.size) (Nat.le_refl _) ((Blk.new w 3 []).ext x1))
  have X1 := hid (show Ext w w1 from Ext.trans (by repeat (with_reducible (first | assumption | exact Ext.refl _ | apply Ext.alloc | apply Ext.drew | apply Ext.drewN))) x1)
  have HO := hid (ho.low (lo' := w.heap.size) (by simp))
  clear ho x1
  go_wp2
  go_loopw [3, 12] (fun v i wr => ∃ k : Nat, k ≤ q ∧ i = .int .i64 k ∧ OwnInts w.heap.size wr v ((Q.take k).map fun y => (parseO y).getD 0) ∧ OwnStrs w.heap.size wr (.slice a q c) Q ∧ Ext w wr) (fun _ i _ => q - (intOf i).toNat)
  case atStart => exact ⟨0, by omega, rfl, N1.out, HO.out, X1.out⟩
  case round =>
    clear N1 HO X1
    obtain ⟨k, hk, rfl, hown, ho, hx⟩ := hrel
    obtain ⟨a', c', e0, -⟩ := hown.form
    rw [List.length_map, List.length_take, Nat.min_eq_left (by rw [HQ.out]; exact hk)] at e0
    subst e0
    have HOW := hid hown
    have HO := hid ho
    have HX := hid hx
    have sz := hx.size
    by_cases hlt : k < q
    · obtain ⟨a6, c6, e6, H6⟩ := ho.strs.open
      simp only [Value.slice.injEq] at e6
      obtain ⟨rfl, -, rfl⟩ := e6
      obtain ⟨y, hy⟩ : ∃ y, Q[k]? = some y := ⟨Q[k]'(by rw [HQ.out]; exact hlt), List.getElem?_eq_getElem (by rw [HQ.out]; exact hlt)⟩
      obtain ⟨b6, off6, rfl, hb6, hb7, hcy⟩ := H6.cell k y hy
      have hys := HZ.out y (List.mem_of_getElem? hy)
      obtain ⟨r, hr⟩ : ∃ r, (parseO y).getD 0 = r := ⟨_, rfl⟩
      have hir : I64 r := hr ▸ parseO_i64 y
      have hnext : ((Q.take k).map fun y => (parseO y).getD 0) ++ [r] = (Q.take (k + 1)).map fun y => (parseO y).getD 0 := by
        rw [List.take_add_one, hy, List.map_append, ← hr]
        rfl
      have HN := hid hnext
      have HR := hid hr
      have HI := hid hir
      have hl : ((Q.take k).map fun y => (parseO y).getD 0).length < 1000000000 := by rw [List.length_map, List.length_take, HQ.out]; omega
      have HL := hid hl
      clear hown ho hx H6 hy hnext hr hir hl
      go_wp2_with fail
      refine (iParseInt_any y _ (by omega) (HT.out.ext HX.out)).mono ?_
      rw [HR.out]
      rintro e w6 ⟨rfl, x6⟩
      have HOW6 := hid (HOW.out.ext x6)
      have HO6 := hid (HO.out.ext x6)
      have HX6 := hid (HX.out.trans x6)
      have sz6 := x6.size
      clear x6 HOW HO HX hcy
      go_wp2_with (at_builtin; refine wpList_append1 _ rfl _ _ rfl w.heap.size _ _ rfl (HOW6.out.alloc _) r HI.out w6.heap.size rfl (by simp [go_sem]) HL.out (by simp; omega) ?_; intro v' w7 hown hg; rw [HN.out] at hown; have HOW7 := hid hown; have HX7 := hid (show Ext w w7 from Ext.grown (HX6.out.alloc _) hg (fun g e => (HOW6.out.lt g e).1)); have HO7 := hid ((HO6.out.ext (show Ext w6 (w6.alloc (.cells #[.int .i64 r] 3)) from (by repeat (with_reducible (first | assumption | exact Ext.refl _ | apply Ext.alloc | apply Ext.drew | apply Ext.drewN))))).grown hg (fun g e => strs_not_ints HO6.out HOW6.out g e)); clear hown hg)
      go_wp2
      go_roundw
      case rel => exact ⟨k + 1, by omega, by go_num, HOW7.out, HO7.out, HX7.out⟩
      case measure => simp [intOf]; omega
    · obtain rfl : k = q := by omega
      rw [List.take_of_length_le (by rw [HQ.out]; exact Nat.le_refl _)] at HOW
      clear hown ho hx
      go_wp2
      go_ret
      exact ⟨_, rfl, HOW.out, HX.out⟩
end Go.Proofs.YtodblnccgpiigaaDoor
