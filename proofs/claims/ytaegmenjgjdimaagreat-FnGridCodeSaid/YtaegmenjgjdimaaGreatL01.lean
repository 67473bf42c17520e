/- This text proves what the small integer functions of the program and of the reference compute: within, Clamp, FloorDiv, floorMod. -/
import Derived.Test.YtaegmenjgjdimaaGreatBase
import Derived.Test.YtaegmenjgjdimaaGreatRows
namespace Go.Proofs.YtaegmenjgjdimaaGreat
open Go.RowKit

def inB (n lo hi : Int) : Bool := decide (lo ≤ n) && decide (n ≤ hi)
theorem inB_iff {n lo hi : Int} : inB n lo hi = true ↔ lo ≤ n ∧ n ≤ hi := by simp [inB]

/-- n limited to the range from lo to hi -/
def clampI (n lo hi : Int) : Int := if hi < lo ∨ n < lo then lo else if hi < n then hi else n

/-- a divided by b, rounded down; 0 for b below 1 -/
def fdiv (a b : Int) : Int := if b < 1 then 0 else a / b

theorem tdiv_neg_mod {n b : Int} (hb : 1 ≤ b) (h : n.tmod b < 0) : n.tdiv b - 1 = n / b := by
  have h1 := Int.tmod_add_mul_tdiv n b
  have h2 : -b < n.tmod b := Int.lt_tmod_of_pos n (by omega)
  have h3 : (n.tdiv b - 1) * b = b * n.tdiv b - b := by rw [Int.sub_mul, Int.one_mul, Int.mul_comm]
  rw [eq_comm, Int.ediv_eq_iff_of_pos (by omega), h3]
  omega
theorem tdiv_pos_mod {n b : Int} (hb : 1 ≤ b) (h : 0 ≤ n.tmod b) : n.tdiv b = n / b := by
  have h1 := Int.tmod_add_mul_tdiv n b
  have h2 : n.tmod b < b := Int.tmod_lt_of_pos n (by omega)
  rw [eq_comm, Int.ediv_eq_iff_of_pos (by omega), Int.mul_comm]
  omega
theorem fdiv_i64 {a b : Int} (ha : I64 a) : I64 (fdiv a b) := by
  unfold fdiv
  split
  · exact ⟨by omega, by omega⟩
  · have h1 := ha.lo
    have h2 := ha.hi
    refine ⟨?_, ?_⟩
    · rw [Int.le_ediv_iff_mul_le (by omega)]
      have : (-9223372036854775808 : Int) * b ≤ -9223372036854775808 * 1 := Int.mul_le_mul_of_nonpos_left (by omega) (by omega)
      omega
    · have := Int.ediv_le_ediv (show 0 < b by omega) h2
      have h3 : (9223372036854775807 : Int) / b ≤ 9223372036854775807 := Int.ediv_le_self _ (by omega)
      omega

set_option maxHeartbeats 400000 in
theorem within_any (n lo hi : Int) (w : World) : Calls Tryz.prog 25 #[.int .i64 n, .int .i64 lo, .int .i64 hi] w fun e w' => e = .returned (.bool (inB n lo hi)) ∧ w = w' := by
  go_enter Tryz.func25, Tryz.ntmps25
  go_wp2
  all_goals go_ret
  · exact ⟨ret_bool (by simp [inB, *]), rfl⟩
  · exact ⟨ret_bool (by simp [inB]; omega), rfl⟩

theorem within_val {n lo hi : Int} {b : Bool} (h : inB n lo hi = b) (w : World) : Calls Tryz.prog 25 #[.int .i64 n, .int .i64 lo, .int .i64 hi] w fun e w' => e = .returned (.bool b) ∧ w = w' := h ▸ within_any n lo hi w

set_option maxHeartbeats 400000 in
theorem l01In_any (n lo hi : Int) (w : World) : Calls Tryz.prog 82 #[.int .i64 n, .int .i64 lo, .int .i64 hi] w fun e w' => e = .returned (.bool (inB n lo hi)) ∧ w = w' := by
  go_enter Tryz.func82, Tryz.ntmps82
  go_wp2
  all_goals go_ret
  · exact ⟨ret_bool (by simp [inB, *]), rfl⟩
  · exact ⟨ret_bool (by simp [inB]; omega), rfl⟩

theorem l01In_val {n lo hi : Int} {b : Bool} (h : inB n lo hi = b) (w : World) : Calls Tryz.prog 82 #[.int .i64 n, .int .i64 lo, .int .i64 hi] w fun e w' => e = .returned (.bool b) ∧ w = w' := h ▸ l01In_any n lo hi w

set_option maxHeartbeats 400000 in
theorem sClamp_any (n lo hi : Int) (w : World) : Calls Tryz.prog 145 #[.int .i64 n, .int .i64 lo, .int .i64 hi] w fun e w' => e = .returned (.int .i64 (clampI n lo hi)) ∧ w = w' := by
  have H : Hid (clampI n lo hi = clampI n lo hi) := rfl
  generalize hc : clampI n lo hi = c at H ⊢
  have HC := Lib.hid hc
  clear hc H
  go_enter Tryz.func145, Tryz.ntmps145
  go_wp2
  all_goals go_ret
  all_goals exact ⟨ret_int (by rw [← HC.out]; unfold clampI; split <;> (try split) <;> omega), rfl⟩

set_option maxHeartbeats 400000 in
theorem iClamp_any (n lo hi : Int) (w : World) : Calls Tryz.prog 29 #[.int .i64 n, .int .i64 lo, .int .i64 hi] w fun e w' => e = .returned (.int .i64 (clampI n lo hi)) ∧ w = w' := by
  have H : Hid (clampI n lo hi = clampI n lo hi) := rfl
  generalize hc : clampI n lo hi = c at H ⊢
  have HC := Lib.hid hc
  clear hc H
  go_enter Tryz.func29, Tryz.ntmps29
  go_wp2
  all_goals go_ret
  all_goals exact ⟨ret_int (by rw [← HC.out]; unfold clampI; split <;> (try split) <;> omega), rfl⟩

theorem fdiv_neg {a b : Int} (ha : I64 a) (hb : 1 ≤ b) (h : a.tmod b < 0) : wrap64 (wrap64 (a.tdiv b) - 1) = fdiv a b := by
  have hq := tdiv_neg_mod hb h
  have hi := fdiv_i64 (b := b) ha
  rw [fdiv, if_neg (by omega)] at hi ⊢
  have hb2 : b ≠ 1 := fun e => by subst e; simp at h
  have h1 := hi.lo
  have h2 : a / b ≤ 4611686018427387904 := by
    have := Int.ediv_le_ediv (show 0 < b by omega) ha.hi
    have h3 : (9223372036854775807 : Int) / b ≤ 9223372036854775807 / 2 := Int.ediv_le_iff_le_mul (show 0 < b by omega) |>.2 (by
      have : (9223372036854775807 / 2 : Int) * 2 ≤ 9223372036854775807 / 2 * b := Int.mul_le_mul_of_nonneg_left (by omega) (by omega)
      omega)
    omega
  rw [I64.wrap (n := a.tdiv b) ⟨by omega, by omega⟩, hq, hi.wrap]
theorem fdiv_pos {a b : Int} (ha : I64 a) (hb : 1 ≤ b) (h : 0 ≤ a.tmod b) : wrap64 (a.tdiv b) = fdiv a b := by
  have hi := fdiv_i64 (b := b) ha
  rw [fdiv, if_neg (by omega)] at hi ⊢
  rw [tdiv_pos_mod hb h, hi.wrap]

set_option maxHeartbeats 400000 in
theorem sFloorDiv_any (a b : Int) (w : World) (ha : I64 a) : Calls Tryz.prog 138 #[.int .i64 a, .int .i64 b] w fun e w' => e = .returned (.int .i64 (fdiv a b)) ∧ w = w' := by
  have H := Lib.hid ha
  clear ha
  go_enter Tryz.func138, Tryz.ntmps138
  go_wp2
  all_goals go_ret
  · exact ⟨ret_int (by rw [fdiv, if_pos (by assumption)]), rfl⟩
  · exact ⟨ret_int (fdiv_neg H.out (by assumption) (by assumption)), rfl⟩
  · exact ⟨ret_int (fdiv_pos H.out (by assumption) (by assumption)), rfl⟩

set_option maxHeartbeats 400000 in
theorem iFloorDiv_any (a b : Int) (w : World) (ha : I64 a) : Calls Tryz.prog 101 #[.int .i64 a, .int .i64 b] w fun e w' => e = .returned (.int .i64 (fdiv a b)) ∧ w = w' := by
  have H := Lib.hid ha
  clear ha
  go_enter Tryz.func101, Tryz.ntmps101
  go_wp2
  all_goals go_ret
  · exact ⟨ret_int (by rw [fdiv, if_pos (by assumption)]), rfl⟩
  · exact ⟨ret_int (fdiv_neg H.out (by assumption) (by assumption)), rfl⟩
  · exact ⟨ret_int (fdiv_pos H.out (by assumption) (by assumption)), rfl⟩

/-- what is left of a, divided by b and rounded down -/
def fmod (a b : Int) : Int := if b < 1 then a else a % b

theorem wrap64_sub_wrap (a x : Int) : wrap64 (a - wrap64 x) = wrap64 (a - x) := by unfold wrap64; omega
theorem wrap64_add_wrap (a x : Int) : wrap64 (a + wrap64 x) = wrap64 (a + x) := by unfold wrap64; omega
theorem fmod_eq (a b : Int) : a - fdiv a b * b = fmod a b := by
  unfold fdiv fmod
  split
  · omega
  · have := Int.mul_ediv_add_emod a b
    rw [Int.mul_comm]; omega
theorem fmod_i64 {a b : Int} (ha : I64 a) (hb : I64 b) : I64 (fmod a b) := by
  unfold fmod
  split
  · exact ha
  · have h1 := Int.emod_nonneg a (show b ≠ 0 by omega)
    have h2 := Int.emod_lt_of_pos a (show 0 < b by omega)
    have := hb.hi
    exact ⟨by omega, by omega⟩

set_option maxHeartbeats 400000 in
theorem floorMod_any (a b : Int) (w : World) (ha : I64 a) (hb : I64 b) : Calls Tryz.prog 150 #[.int .i64 a, .int .i64 b] w fun e w' => e = .returned (.int .i64 (fmod a b)) ∧ w = w' := by
  have H := Lib.hid ha
  have HB := Lib.hid hb
  clear ha hb
  go_enter Tryz.func150, Tryz.ntmps150
  go_wp2_with (go_at_call 101; refine (iFloorDiv_any a b _ H.out).mono ?_; rintro e w' ⟨rfl, rfl⟩)
  go_ret
  exact ⟨ret_int (by rw [wrap64_sub_wrap, fmod_eq, (fmod_i64 H.out HB.out).wrap]), rfl⟩

theorem floorMod_val {a b c : Int} (ha : I64 a) (hb : I64 b) (h : fmod a b = c) (w : World) : Calls Tryz.prog 150 #[.int .i64 a, .int .i64 b] w fun e w' => e = .returned (.int .i64 c) ∧ w = w' := h ▸ floorMod_any a b w ha hb
theorem iFloorDiv_val {a b c : Int} (ha : I64 a) (h : fdiv a b = c) (w : World) : Calls Tryz.prog 101 #[.int .i64 a, .int .i64 b] w fun e w' => e = .returned (.int .i64 c) ∧ w = w' := h ▸ iFloorDiv_any a b w ha
theorem sFloorDiv_val {a b c : Int} (ha : I64 a) (h : fdiv a b = c) (w : World) : Calls Tryz.prog 138 #[.int .i64 a, .int .i64 b] w fun e w' => e = .returned (.int .i64 c) ∧ w = w' := h ▸ sFloorDiv_any a b w ha
theorem iClamp_val {n lo hi c : Int} (h : clampI n lo hi = c) (w : World) : Calls Tryz.prog 29 #[.int .i64 n, .int .i64 lo, .int .i64 hi] w fun e w' => e = .returned (.int .i64 c) ∧ w = w' := h ▸ iClamp_any n lo hi w
theorem sClamp_val {n lo hi c : Int} (h : clampI n lo hi = c) (w : World) : Calls Tryz.prog 145 #[.int .i64 n, .int .i64 lo, .int .i64 hi] w fun e w' => e = .returned (.int .i64 c) ∧ w = w' := h ▸ sClamp_any n lo hi w
theorem fmod_nat (a : Int) {n : Nat} (hn : 1 ≤ n) : ∃ k : Nat, fmod a n = k ∧ k < n := by
  unfold fmod
  rw [if_neg (by omega)]
  have h1 := Int.emod_nonneg a (show (n : Int) ≠ 0 by omega)
  have h2 := Int.emod_lt_of_pos a (show (0 : Int) < n by omega)
  exact ⟨(a % n).toNat, by omega, by omega⟩

end Go.Proofs.YtaegmenjgjdimaaGreat
