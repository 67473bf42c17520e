/- This text proves what the reference's SplitAny hands back. -/
import Derived.Test.YtodblnccgpiigaaDoorSplitW
namespace Go.Proofs.YtodblnccgpiigaaDoor
open Go.RowKit

theorem inSep_at {sep : ByteArray} {c : UInt8} {j : Nat} (h : j < sep.size) (he : sep[j] = c) : inSep sep c = true := by
  have := byte_at sep j h
  rw [he] at this
  simpa [inSep] using List.mem_of_getElem? this
theorem inSep_not {sep : ByteArray} {c : UInt8} (h : ∀ j, j < sep.size → sep.data.toList[j]? ≠ some c) : inSep sep c = false := by
  rw [← Bool.not_eq_true]
  intro hc
  obtain ⟨i, hi, e⟩ := List.getElem_of_mem (show c ∈ sep.data.toList by simpa [inSep] using hc)
  exact h i (by simpa using hi) (by rw [List.getElem?_eq_getElem hi, e])

theorem cell_new1 {w : World} {b : Nat} (hb : b = w.heap.size) (v : Value) (t : TypeId) : (w.alloc (.cells #[v] t)).cell? ⟨b, 0, none⟩ = some v := by
  subst hb
  simp [go_sem]

set_option maxHeartbeats 3200000 in
theorem sSplitAny_any (s sep : ByteArray) (w : World) (hs : s.size ≤ 100000000) (hq : sep.size ≤ 100000000) :
    Calls Tryd.prog 41 #[.string s, .string sep] w fun e w' => ∃ v, e = .returned v ∧ OwnStrs w.heap.size w' v (splitB (inSep sep) s) ∧ Ext w w' := by
  go_enter Tryd.func41, Tryd.ntmps41
  go_wp2
  go_loopw [5, 6, 7] (fun v f i wr => ∃ k frm : Nat, ∃ parts, frm ≤ k ∧ k ≤ s.size ∧ i = .int .i64 k ∧ f = .int .i64 frm ∧ OwnStrs w.heap.size wr v parts ∧ parts.length ≤ k ∧ CutAt (inSep sep) s parts frm k ∧ Ext w wr) (fun _ _ i _ => s.size - (intOf i).toNat)
  case atStart => exact ⟨0, 0, [], by omega, by omega, rfl, rfl, OwnStrs.empty (Nat.le_refl _) (heap_new w _), by simp, CutAt.start _ _, (by repeat (with_reducible (first | assumption | exact Ext.refl _ | apply Ext.alloc | apply Ext.drew | apply Ext.drewN)))⟩
  case round =>
    obtain ⟨k, frm, parts, hf, hk, rfl, rfl, hown, hpl, hcut, hx⟩ := hrel
    obtain ⟨a', c', e0, _⟩ := hown.form
    obtain ⟨n', hn'⟩ : ∃ n, parts.length = n := ⟨_, rfl⟩
    rw [hn'] at e0 hpl
    subst e0
    have sz := hx.size
    have HX := hid hx
    have HO := hid hown
    have HC := hid hcut
    have HN := hid hn'
    clear hx hown hcut hn'
    by_cases hlt : k < s.size
    · have HG := hid (byte_at s k hlt)
      obtain ⟨wo, rfl⟩ : ∃ wo : World, wo = wr := ⟨_, rfl⟩
      go_wp2
      go_loopw [5, 6, 8] (fun v f j wq => v = .slice a' n' c' ∧ f = .int .i64 frm ∧ ∃ m n : Nat, m ≤ sep.size ∧ j = .int .i64 m ∧ (∀ i, i < m → sep.data.toList[i]? ≠ some s[k]) ∧ wq = wo.drewN n) (fun _ _ j _ => sep.size - (intOf j).toNat)
      case atStart => exact ⟨rfl, rfl, 0, 0, by omega, rfl, fun i h => by omega, rfl⟩
      case round =>
        obtain ⟨rfl, rfl, m, n, hm, rfl, hall, rfl⟩ := hrel
        have HA := hid hall
        clear hall
        by_cases hmt : m < sep.size
        · have HB := hid (byte_at sep m hmt)
          go_wp2
          go_quiet (fail)
          have hoX := hid (fun (o : Obj) => HO.out.ext (show Ext wo ((wo.drewN (n + nq)).alloc o) from (by repeat (with_reducible (first | assumption | exact Ext.refl _ | apply Ext.alloc | apply Ext.drew | apply Ext.drewN)))))
          go_wp2_with (at_builtin; refine wpList_append_str _ rfl _ _ rfl w.heap.size _ _ rfl (hoX.out _) (s.extract frm k) wo.heap.size rfl (cell_new1 (by simp) _ _) (by rw [HN.out]; omega) (by simp; omega) ?_; intro v' w2 hown' hg)
          · have he : ((s[k].toNat : Int) == (sep[m].toNat : Int)) = true := by assumption
            have hin : inSep sep s[k] = true := inSep_at hmt (by
              have : (s[k].toNat : Int) = sep[m].toNat := by simpa using he
              exact (UInt8.toNat_inj.1 (by omega)).symm)
            have HI := hid hin
            have hx' : Ext w w2 := Ext.grown (HX.out.trans (by repeat (with_reducible (first | assumption | exact Ext.refl _ | apply Ext.alloc | apply Ext.drew | apply Ext.drewN)))) hg (fun g e => (HO.out.lt g e).1)
            have HO' := hid hown'
            have HX' := hid hx'
            clear hown' hx' hg hin he
            go_wp2
            go_roundw
            case rel => exact ⟨k + 1, k + 1, _, Nat.le_refl _, by omega, by go_num, by go_num, HO'.out, by rw [List.length_append, HN.out]; simp; omega, HC.out.mark HG.out HI.out, HX'.out⟩
            case measure => simp [intOf]; omega
          · have he : ((s[k].toNat : Int) == (sep[m].toNat : Int)) = false := by assumption
            go_roundw
            case rel => exact ⟨rfl, rfl, m + 1, _, by omega, by go_num, fun i hi => by
              by_cases e : i = m
              · subst e
                rw [HB.out]
                intro h
                rw [Option.some.injEq] at h
                rw [h] at he
                simp at he
              · exact HA.out i (by omega), by first | exact rfl | exact World.drewN_drewN _ _ _⟩
            case measure => simp [intOf]; omega
        · have hin : inSep sep s[k] = false := inSep_not fun j hj => HA.out j (by omega)
          have HI := hid hin
          clear hin
          go_wp2
          go_roundw
          case rel => exact ⟨k + 1, frm, parts, by omega, by omega, by go_num, rfl, HO.out.ext (by repeat (with_reducible (first | assumption | exact Ext.refl _ | apply Ext.alloc | apply Ext.drew | apply Ext.drewN))), by rw [HN.out]; omega, HC.out.step hf HG.out HI.out, HX.out.trans (by repeat (with_reducible (first | assumption | exact Ext.refl _ | apply Ext.alloc | apply Ext.drew | apply Ext.drewN)))⟩
          case measure => simp [intOf]; omega
    · obtain rfl : k = s.size := by omega
      go_wp2_with (at_builtin; refine wpList_append_str _ rfl _ _ rfl w.heap.size _ _ rfl (HO.out.ext (by repeat (with_reducible (first | assumption | exact Ext.refl _ | apply Ext.alloc | apply Ext.drew | apply Ext.drewN)))) (s.extract frm s.size) wr.heap.size rfl (by simp [go_sem]) (by rw [HN.out]; omega) (by simp; omega) ?_; intro v' w2 hown' hg)
      have hx' : Ext w w2 := Ext.grown (HX.out.alloc _) hg (fun g e => (HO.out.lt g e).1)
      rw [HC.out.done] at hown'
      go_wp2
      go_ret
      exact ⟨_, rfl, hown', hx'⟩
end Go.Proofs.YtodblnccgpiigaaDoor
