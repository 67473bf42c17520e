/- This text proves what SplitAny of both sides hands back. -/
import Derived.Test.YtkcghoeklbcihaaGreatDoorPgm
import Derived.Test.YtkcghoeklbcihaaGreatDoorSplit
namespace Go.Proofs.YtkcghoeklbcihaaGreatDoor
open Go.RowKit

theorem u8_back (c : UInt8) : ((c.toNat : Int).toNat.toUInt8) = c := by simp
theorem idx_in {sep : ByteArray} {c : UInt8} (h : inSep sep c = true) (w : World) : Calls Tryz.prog 63 #[.string sep, .int .u8 (c.toNat : Int)] w fun e w' => (∃ n : Int, 0 ≤ n ∧ e = .returned (.int .i64 n)) ∧ w = w' := by
  refine (Tryz.strings_IndexByte sep (c.toNat : Int) w).mono ?_
  rintro e w' ⟨rfl, rfl⟩
  rw [u8_back]
  rw [inSep_index] at h
  exact ⟨⟨_, of_decide_eq_true h, rfl⟩, rfl⟩
theorem idx_out {sep : ByteArray} {c : UInt8} (h : inSep sep c = false) (w : World) : Calls Tryz.prog 63 #[.string sep, .int .u8 (c.toNat : Int)] w fun e w' => e = .returned (.int .i64 (-1)) ∧ w = w' := by
  refine (Tryz.strings_IndexByte sep (c.toNat : Int) w).mono ?_
  rintro e w' ⟨rfl, rfl⟩
  rw [u8_back]
  rw [inSep_index] at h
  have h1 := Lib.indexByte_ge sep.data.toList c
  have h2 := of_decide_eq_false h
  exact ⟨ret_int (by omega), rfl⟩
set_option maxHeartbeats 1600000 in
theorem iSplitAny_any (s sep : ByteArray) (w : World) (hs : s.size ≤ 100000000) :
    Calls Tryz.prog 44 #[.string s, .string sep] w fun e w' => ∃ v, e = .returned v ∧ OwnStrs w.heap.size w' v (splitB (inSep sep) s) ∧ Ext w w' := by
  go_enter Tryz.func44, Tryz.ntmps44
  go_wp2
  go_loopw [5, 6, 7] (fun v f i wr => ∃ k frm : Nat, ∃ parts, frm ≤ k ∧ k ≤ s.size ∧ i = .int .i64 k ∧ f = .int .i64 frm ∧ OwnStrs w.heap.size wr v parts ∧ parts.length ≤ k ∧ CutAt (inSep sep) s parts frm k ∧ Ext w wr) (fun _ _ i _ => s.size - (intOf i).toNat)
  case atStart => exact ⟨0, 0, [], by omega, by omega, rfl, rfl, OwnStrs.empty (Nat.le_refl _) (heap_new w _), by simp, CutAt.start _ _, (by repeat (with_reducible (first | assumption | exact Ext.refl _ | apply Ext.alloc | apply Ext.drew | apply Ext.drewN)))⟩
  case round =>
    obtain ⟨k, frm, parts, hf, hk, rfl, rfl, hown, hpl, hcut, hx⟩ := hrel
    obtain ⟨a', c', e0, _⟩ := hown.form
    obtain ⟨n', hn'⟩ : ∃ n, parts.length = n := ⟨_, rfl⟩
    rw [hn'] at e0 hpl
    subst e0
    have sz := hx.size
    have HX := hid hx
    have HO := hid hown
    have HC := hid hcut
    have HN := hid hn'
    clear hx hown hcut hn'
    by_cases hlt : k < s.size
    · have HG := hid (byte_at s k hlt)
      cases hin : inSep sep s[k]
      · go_wp2_with (go_at_call 63; refine (idx_out hin _).mono ?_; rintro e w1 ⟨rfl, rfl⟩)
        go_roundw
        case rel => exact ⟨k + 1, frm, parts, by omega, by omega, by go_num, rfl, HO.out, by rw [HN.out]; omega, HC.out.step hf HG.out hin, HX.out⟩
        case measure => simp [intOf]; omega
      · go_wp2_with fail
        refine (idx_in hin _).mono ?_
        rintro e w1 ⟨⟨n, hn, rfl⟩, rfl⟩
        go_wp2_with (at_builtin; refine wpList_append_str _ rfl _ _ rfl w.heap.size _ _ rfl (HO.out.ext (by repeat (with_reducible (first | assumption | exact Ext.refl _ | apply Ext.alloc | apply Ext.drew | apply Ext.drewN)))) (s.extract frm k) wr.heap.size rfl (by simp [go_sem]) (by rw [HN.out]; omega) (by simp; omega) ?_; intro v' w2 hown' hg)
        have hx' : Ext w w2 := Ext.grown (HX.out.alloc _) hg (fun g e => (HO.out.lt g e).1)
        have HO' := hid hown'
        have HX' := hid hx'
        clear hown' hx' hg
        go_wp2
        go_roundw
        case rel => exact ⟨k + 1, k + 1, _, Nat.le_refl _, by omega, by go_num, by go_num, HO'.out, by rw [List.length_append, HN.out]; simp; omega, HC.out.mark HG.out hin, HX'.out⟩
        case measure => simp [intOf]; omega
    · obtain rfl : k = s.size := by omega
      go_wp2_with (at_builtin; refine wpList_append_str _ rfl _ _ rfl w.heap.size _ _ rfl (HO.out.ext (by repeat (with_reducible (first | assumption | exact Ext.refl _ | apply Ext.alloc | apply Ext.drew | apply Ext.drewN)))) (s.extract frm s.size) wr.heap.size rfl (by simp [go_sem]) (by rw [HN.out]; omega) (by simp; omega) ?_; intro v' w2 hown' hg)
      have hx' : Ext w w2 := Ext.grown (HX.out.alloc _) hg (fun g e => (HO.out.lt g e).1)
      rw [HC.out.done] at hown'
      go_wp2
      go_ret
      exact ⟨_, rfl, hown', hx'⟩
end Go.Proofs.YtkcghoeklbcihaaGreatDoor
