/- This text proves rows of the grid: constant, limited and the reference's clamped row. -/
import Derived.Test.YtaegmenjgjdimaaGreatSh7
import Derived.Test.YtaegmenjgjdimaaGreatEx1
namespace Go.Proofs.YtaegmenjgjdimaaGreat
open Go.RowKit

theorem fillTo_const (m k : Nat) (c : Int) (h : k < m) : (fillTo (List.replicate m c) k).set k c = fillTo (List.replicate m c) (k + 1) := by
  have := fillTo_succ (List.replicate m c) k (by simpa using h)
  simpa using this

set_option maxHeartbeats 800000 in
theorem iConstant_any (c : Int) (n m : Nat) (g1 : Value) (g2 g3 : Int) (g4 : Value) (w : World) (hm : (n : Int) * n = m) (hn : m ≤ 1000000) (hc : I64 c) :
    Calls Tryz.prog 36 #[.int .i64 c, .agg #[.int .i64 n, g1, .int .i64 g2, .int .i64 g3, g4]] w fun e w' => ∃ v, e = .returned v ∧ OwnInts w.heap.size w' v (List.replicate m c) ∧ Ext w w' := by
  obtain ⟨i0, hi0, hz0, hz1, hz2⟩ := info_parts info_int
  go_enter Tryz.func36, Tryz.ntmps36
  go_wp2_with (at_make; refine wpList_make_full _ rfl _ _ 29 rfl (w.heap.size + 1) 3 i0 (.int .i64 0) 1 Tryz.underlying29 hi0 hz0 hz1 _ _ _ _ m rfl rfl rfl rfl (by rw [hz2]; omega) (by unfold maxLen; omega) (by simp) ?_)
  intro w1 hown hgrow
  have e0 : (List.replicate m (0 : Int)) = fillTo (List.replicate m c) 0 := by rw [fillTo_zero]; simp
  try simp only [Value.cells, Nat.mul_one, World.size_drew, World.size_alloc] at hown
  rw [made_ints, e0] at hown
  have hx : Ext w w1 := Ext.grown (by repeat (with_reducible (first | assumption | exact Ext.refl _ | apply Ext.alloc | apply Ext.drew | apply Ext.drewN))) hgrow (fun k h => by cases h)
  clear hgrow hi0 hz0 hz1 hz2 e0
  go_wp2
  go_loopw [15] (fun i wr => ∃ k : Nat, k ≤ m ∧ i = .int .i64 k ∧ Ext w wr ∧ wr.ownsRow (w.heap.size + 1) 3 1 (.slice (some ⟨w.heap.size + 1, 0, none⟩) m m) m ((fillTo (List.replicate m c) k).map (Value.int .i64)))
    (fun i _ => m - (intOf i).toNat)
  case atStart => exact ⟨0, by omega, rfl, hx, hown⟩
  case round =>
    clear hown hx
    obtain ⟨k, hk, rfl, hx, hown⟩ := hrel
    by_cases hlt : k < m
    · have hs := hown.cellAt k (by omega)
      have hf := hown.frozenAt k
      have hst := (hown.stored k (.int .i64 c)).1
      have hx' := hx.setCell (p := ⟨w.heap.size + 1, k, none⟩) (Nat.le_succ _) (.int .i64 c)
      obtain ⟨z, hz⟩ : ∃ z, wr.cell? ⟨w.heap.size + 1, k, none⟩ = some (.int .i64 z) := by
        rw [hs]
        have hl : k < (fillTo (List.replicate m c) k).length := by rw [fillTo_length _ _ (by simpa using hk)]; simpa using hlt
        exact ⟨(fillTo (List.replicate m c) k)[k], by simp⟩
      rw [← List.map_set, fillTo_const _ _ _ hlt] at hst
      have H1 := hid hst
      have H2 := hid hx'
      clear hst hx' hs hown hx
      go_wp2
      go_roundw
      case rel => exact ⟨k + 1, by omega, by go_num, H2.out, H1.out⟩
      case measure => simp [intOf]; omega
    · go_wp2
      go_ret
      obtain rfl : k = m := by omega
      have ha := fillTo_all (List.replicate k c)
      rw [List.length_replicate] at ha
      rw [ha] at hown
      have ho : OwnInts (w.heap.size + 1) wr (.slice (some ⟨w.heap.size + 1, 0, none⟩) k k) (List.replicate k c) := ⟨by simpa using hown, fun x hx => by rw [List.eq_of_mem_replicate hx]; exact hc⟩
      exact ⟨_, rfl, ho.low (Nat.le_succ _), hx⟩
end Go.Proofs.YtaegmenjgjdimaaGreat
