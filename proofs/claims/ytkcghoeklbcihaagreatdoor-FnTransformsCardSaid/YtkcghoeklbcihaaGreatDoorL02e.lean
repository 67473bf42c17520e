/- This text proves when a vector is valid: the program's word and the reference's. -/
import Derived.Test.YtkcghoeklbcihaaGreatDoorL02d
import Derived.Laws.StructEq
namespace Go.Proofs.YtkcghoeklbcihaaGreatDoor
open Go.RowKit

def okVec (x y z : Int) : Bool := inB x (-1000000) 1000000 && inB y (-1000000) 1000000 && inB z (-1000000) 1000000
theorem cl_fix (n : Int) : (n = cl n) ↔ inB n (-1000000) 1000000 = true := by
  rw [inB_iff]
  unfold cl clampI
  split
  · omega
  · split <;> omega

theorem run_eqVec (x y z a b c : Int) (w : World) : (binOp .eql 24 (.agg #[.int .i64 x, .int .i64 y, .int .i64 z]) (.agg #[.int .i64 a, .int .i64 b, .int .i64 c])).run Tryz.prog w = .ok (.bool (decide (x = a) && (decide (y = b) && decide (z = c)))) w := by
  by_cases h1 : x = a
  · by_cases h2 : y = b
    · by_cases h3 : z = c <;> simp [go_sem, Tryz.underlying24, Tryz.stoodInHeld24, Tryz.underlying3, h1, h2, h3]
    · simp [go_sem, Tryz.underlying24, Tryz.stoodInHeld24, Tryz.underlying3, h1, h2]
  · simp [go_sem, Tryz.underlying24, Tryz.stoodInHeld24, Tryz.underlying3, h1]
theorem okVec_eq (x y z : Int) : (decide (x = cl x) && (decide (y = cl y) && decide (z = cl z))) = okVec x y z := by
  simp only [cl_fix, okVec, Bool.decide_eq_true, Bool.and_assoc]

set_option maxHeartbeats 800000 in
theorem iIsValidVec_val {x y z : Int} (w : World) :
    Calls Tryz.prog 36 #[.agg #[.int .i64 x, .int .i64 y, .int .i64 z]] w fun e w' => e = .returned (.bool (okVec x y z)) ∧ Ext w w' := by
  obtain ⟨a, ha⟩ : ∃ a, cl x = a := ⟨_, rfl⟩
  obtain ⟨b, hb⟩ : ∃ a, cl y = a := ⟨_, rfl⟩
  obtain ⟨c, hc⟩ : ∃ a, cl z = a := ⟨_, rfl⟩
  have HA := hid ha
  have HB := hid hb
  have HC := hid hc
  have HO := hid (show (decide (x = a) && (decide (y = b) && decide (z = c))) = okVec x y z by rw [← ha, ← hb, ← hc]; exact okVec_eq x y z)
  clear ha hb hc
  have hq := fun w => run_eqVec x y z a b c w
  go_enter Tryz.func36, Tryz.ntmps36
  go_wp2
  refine wp_region_ext (by kernel_rfl) (by kernel_rfl) ?_
  repeat (go_big_quiet_step ((go_at_call 29; exact grow_call (clamped_val HA.out HB.out HC.out _))))
  refine wpQuiet_nil ?_
  intro w1 h1
  go_wp2
  go_ret
  exact ⟨ret_bool HO.out, Ext.trans (by repeat (with_reducible (first | assumption | exact Ext.refl _ | apply Ext.alloc | apply Ext.drew | apply Ext.drewN))) h1⟩

set_option maxHeartbeats 800000 in
theorem sIsValidVec_val {x y z : Int} (w : World) :
    Calls Tryz.prog 61 #[.agg #[.int .i64 x, .int .i64 y, .int .i64 z]] w fun e w' => e = .returned (.bool (okVec x y z)) ∧ Ext w w' := by
  obtain ⟨a, ha⟩ : ∃ a, cl x = a := ⟨_, rfl⟩
  obtain ⟨b, hb⟩ : ∃ a, cl y = a := ⟨_, rfl⟩
  obtain ⟨c, hc⟩ : ∃ a, cl z = a := ⟨_, rfl⟩
  have HA := hid ha
  have HB := hid hb
  have HC := hid hc
  have HO := hid (show (decide (x = a) && (decide (y = b) && decide (z = c))) = okVec x y z by rw [← ha, ← hb, ← hc]; exact okVec_eq x y z)
  clear ha hb hc
  have hq := fun w => run_eqVec x y z a b c w
  go_enter Tryz.func61, Tryz.ntmps61
  go_wp2
  refine wp_region_ext (by kernel_rfl) (by kernel_rfl) ?_
  repeat (go_big_quiet_step ((go_at_call 67; exact grow_call (l02V_val HA.out HB.out HC.out _))))
  refine wpQuiet_nil ?_
  intro w1 h1
  go_wp2
  go_ret
  exact ⟨ret_bool HO.out, Ext.trans (by repeat (with_reducible (first | assumption | exact Ext.refl _ | apply Ext.alloc | apply Ext.drew | apply Ext.drewN))) h1⟩
end Go.Proofs.YtkcghoeklbcihaaGreatDoor
