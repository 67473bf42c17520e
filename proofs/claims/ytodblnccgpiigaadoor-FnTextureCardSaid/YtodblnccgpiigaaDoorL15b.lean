/- This text proves what the texture functions of the reference compute. -/
import Derived.Test.YtodblnccgpiigaaDoorL15a
namespace Go.Proofs.YtodblnccgpiigaaDoor
open Go.RowKit

/-- p doubled m times is 2 to the L -/
def Dbl (p m L : Nat) : Prop := p * 2 ^ m = 2 ^ L
theorem Dbl.succ {p m L : Nat} (h : Dbl p (m + 1) L) : Dbl (2 * p) m L := by
  unfold Dbl at *
  rw [Nat.pow_succ] at h
  rw [← h, Nat.mul_comm 2 p, Nat.mul_assoc, Nat.mul_comm 2]
theorem Dbl.le {p m L : Nat} (h : Dbl p m L) (hL : L ≤ 30) : p ≤ 1073741824 := by
  unfold Dbl at h
  have h1 : 2 ^ L ≤ 2 ^ 30 := Nat.pow_le_pow_right (by omega) hL
  have h2 : p * 1 ≤ p * 2 ^ m := Nat.mul_le_mul_left p Nat.one_le_two_pow
  omega
theorem Dbl.done {p L : Nat} (h : Dbl p 0 L) : p = 2 ^ L := by unfold Dbl at h; simpa using h

set_option maxHeartbeats 400000 in
theorem l15Size_any (L : Nat) (hL : L ≤ 30) (w : World) : Calls Tryd.prog 71 #[.int .i64 L] w fun e w' => e = .returned (.int .i64 ((2 ^ L : Nat) : Int)) ∧ w = w' := by
  go_enter Tryd.func71, Tryd.ntmps71
  go_wp2
  go_loop [0, 3] (fun l n => ∃ m p : Nat, l = .int .i64 m ∧ n = .int .i64 p ∧ Dbl p m L ∧ m ≤ 30) (fun l _ => (intOf l).toNat)
  case atStart => exact ⟨L, 1, rfl, rfl, by simp [Dbl], hL⟩
  case round =>
    obtain ⟨m, p, rfl, rfl, hd, hm⟩ := hrel
    have HD := Lib.hid hd
    have hp := hd.le hL
    clear hd
    cases m with
    | zero =>
      go_wp2
      go_ret
      exact ⟨ret_int (by rw [HD.out.done, Int.natCast_pow]; rfl), rfl⟩
    | succ m =>
      go_wp2
      go_round
      case rel => exact ⟨m, 2 * p, rfl, by go_num, HD.out.succ, by omega⟩
      case measure => simp [intOf]

theorem wrapmod (x : Int) {n : Nat} (h1 : 1 ≤ n) (h2 : n ≤ 1000000) : (wrap64 (x.tmod n + n)).tmod n = fmod x n := by
  have h3 := Int.tmod_lt_of_pos x (show (0 : Int) < n by omega)
  have h4 := Int.lt_tmod_of_pos x (show (0 : Int) < n by omega)
  rw [wrap_small (by omega) (by omega), Int.tmod_eq_emod_of_nonneg (by omega), fmod, if_neg (by omega), Int.add_emod_right, Int.tmod_def, Int.sub_mul_emod_self_left]

theorem l15Size_tex {t : Tex} (h0 : 0 ≤ t.log) (h4 : t.log ≤ 4) (w : World) : Calls Tryd.prog 71 #[.int .i64 t.log] w fun e w' => e = .returned (.int .i64 t.n) ∧ w = w' := by
  have h := l15Size_any t.log.toNat (by omega) w
  rw [Int.toNat_of_nonneg h0] at h
  exact h

end Go.Proofs.YtodblnccgpiigaaDoor
