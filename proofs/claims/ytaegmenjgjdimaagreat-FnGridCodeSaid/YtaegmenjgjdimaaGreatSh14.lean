/- This text proves the reference's IsVariable. -/
import Derived.Test.YtaegmenjgjdimaaGreatSh13
namespace Go.Proofs.YtaegmenjgjdimaaGreat
open Go.RowKit

def varNames : List (List UInt8) := [[117], [118], [120], [121], [122], [116]]
def varObj : Obj := .cells #[.string ⟨#[117]⟩, .string ⟨#[118]⟩, .string ⟨#[120]⟩, .string ⟨#[121]⟩, .string ⟨#[122]⟩, .string ⟨#[116]⟩] 9
set_option maxHeartbeats 1600000 in
theorem sIsVariable_any (s : ByteArray) (w : World) : Calls Tryz.prog 79 #[.string s] w fun e w' => e = .returned (.bool (isVar s)) ∧ Ext w w' := by
  go_enter Tryz.func79, Tryz.ntmps79
  go_wp2
  go_loopw [7] (fun i wr => ∃ k : Nat, k ≤ 6 ∧ i = .int .i64 k ∧ wr = w.alloc varObj ∧ ∀ j x, j < k → varNames[j]? = some x → (s.toList == x) = false) (fun i _ => 6 - (intOf i).toNat)
  case atStart => exact ⟨0, by omega, rfl, rfl, fun j x h => by omega⟩
  case round =>
    obtain ⟨k, hk, rfl, rfl, hno⟩ := hrel
    by_cases hlt : k < 6
    · obtain ⟨x, hx⟩ : ∃ x, varNames[k]? = some x := ⟨varNames[k]'(by show k < 6; exact hlt), by simp⟩
      obtain ⟨y, hy, hyx⟩ : ∃ y : ByteArray, (w.alloc varObj).cell? ⟨w.heap.size, k, none⟩ = some (.string y) ∧ y.toList = x := by
        rcases (show k = 0 ∨ k = 1 ∨ k = 2 ∨ k = 3 ∨ k = 4 ∨ k = 5 by omega) with rfl | rfl | rfl | rfl | rfl | rfl <;> (simp [varNames] at hx; subst hx; first | exact ⟨⟨#[117]⟩, by simp [varObj, go_sem]; done, (by first | rfl | decide | decide +kernel)⟩ | exact ⟨⟨#[118]⟩, by simp [varObj, go_sem]; done, (by first | rfl | decide | decide +kernel)⟩ | exact ⟨⟨#[120]⟩, by simp [varObj, go_sem]; done, (by first | rfl | decide | decide +kernel)⟩ | exact ⟨⟨#[121]⟩, by simp [varObj, go_sem]; done, (by first | rfl | decide | decide +kernel)⟩ | exact ⟨⟨#[122]⟩, by simp [varObj, go_sem]; done, (by first | rfl | decide | decide +kernel)⟩ | exact ⟨⟨#[116]⟩, by simp [varObj, go_sem]; done, (by first | rfl | decide | decide +kernel)⟩)
      by_cases he : (y.toList == s.toList) = true
      · have hv : isVar s = true := by
          have : s.toList = x := by rw [← hyx]; exact (eq_of_beq he).symm
          rcases (show k = 0 ∨ k = 1 ∨ k = 2 ∨ k = 3 ∨ k = 4 ∨ k = 5 by omega) with rfl | rfl | rfl | rfl | rfl | rfl <;> (simp [varNames] at hx; simp [isVar, this, ← hx])
        have HV := hid hv
        clear hno hv hx hyx
        go_wp2
        go_ret
        exact ⟨by rw [HV.out]; rfl, (by repeat (with_reducible (first | assumption | exact Ext.refl _ | apply Ext.alloc | apply Ext.drew | apply Ext.drewN)))⟩
      · have hno' : ∀ j z, j < k + 1 → varNames[j]? = some z → (s.toList == z) = false := fun j z hj hz => by
          by_cases hjk : j = k
          · subst hjk
            rw [hx] at hz
            injection hz with hz
            subst hz
            rw [← hyx]
            rw [Bool.eq_false_iff]
            intro h
            exact he (by rw [eq_of_beq h]; simp)
          · exact hno j z (by omega) hz
        have HN := hid hno'
        clear hno hno' hx hyx
        go_wp2
        go_roundw
        case rel => exact ⟨k + 1, by omega, by go_num, by trivial, HN.out⟩
        case measure => simp [intOf]; omega
    · obtain rfl : k = 6 := by omega
      have hv : isVar s = false := by
        have h0 := hno 0 _ (by decide) rfl
        have h1 := hno 1 _ (by decide) rfl
        have h2 := hno 2 _ (by decide) rfl
        have h3 := hno 3 _ (by decide) rfl
        have h4 := hno 4 _ (by decide) rfl
        have h5 := hno 5 _ (by decide) rfl
        simp only [isVar, h0, h1, h2, h3, h4, h5, Bool.or_self]
      have HV := hid hv
      clear hno hv
      go_wp2
      go_ret
      exact ⟨by rw [HV.out]; rfl, (by repeat (with_reducible (first | assumption | exact Ext.refl _ | apply Ext.alloc | apply Ext.drew | apply Ext.drewN)))⟩
end Go.Proofs.YtaegmenjgjdimaaGreat
