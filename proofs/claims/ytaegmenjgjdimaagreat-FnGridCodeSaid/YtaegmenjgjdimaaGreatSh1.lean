/- This text proves what the operations of the shading language compute on both sides. -/
import Derived.Test.YtaegmenjgjdimaaGreatL01
import Derived.Test.YtaegmenjgjdimaaGreatEx1
import Derived.Test.YtaegmenjgjdimaaGreatFlat
import Derived.Test.YtaegmenjgjdimaaGreatPlan
namespace Go.Proofs.YtaegmenjgjdimaaGreat
open Go.RowKit

def S9 (n : Int) : Prop := -1000000000 ≤ n ∧ n ≤ 1000000000
def satI (n : Int) : Int := clampI n (-1000000000) 1000000000
theorem satI_S9 (n : Int) : S9 (satI n) := by
  unfold satI clampI S9
  split
  · omega
  · split <;> omega
def ratI (a b : Int) : Int := if b < 0 then fdiv (-a * 256) (-b) else fdiv (a * 256) b
/-- an operation of the language, unlimited -/
def opI (op a b : Int) : Int := if op = 3 then -b else if op = 4 then a + b else if op = 5 then a - b else if op = 6 then fdiv (a * b) 256 else ratI a b
def arithI (op a b : Int) : Int := satI (opI op a b)
theorem fdiv_bd {a b : Int} {m : Int} (ha : -m ≤ a ∧ a ≤ m) (hm : 0 ≤ m) : -m - 1 ≤ fdiv a b ∧ fdiv a b ≤ m := by
  unfold fdiv
  split
  · omega
  · rename_i hb
    have h1 := Int.mul_ediv_add_emod a b
    have h2 := Int.emod_nonneg a (show b ≠ 0 by omega)
    have h3 := Int.emod_lt_of_pos a (show 0 < b by omega)
    by_cases h0 : 0 ≤ a
    · have := Int.ediv_nonneg h0 (show 0 ≤ b by omega)
      have := Int.ediv_le_self b h0
      omega
    · have h4 : a / b < 0 := Int.ediv_neg_of_neg_of_pos (by omega) (by omega)
      have h5 : a ≤ a / b := by
        have := Int.le_ediv_of_mul_le (a := a) (b := a) (show 0 < b by omega) (by
          have := Int.mul_le_mul_of_nonpos_left (a := a) (b := b) (c := 1) (by omega) (by omega)
          omega)
        omega
      omega
theorem mul9 {a b : Int} (ha : S9 a) (hb : S9 b) : -1000000000000000000 ≤ a * b ∧ a * b ≤ 1000000000000000000 := by
  obtain ⟨h1, h2⟩ := ha
  obtain ⟨h3, h4⟩ := hb
  have k1 := Int.mul_nonneg (show 0 ≤ 1000000000 - a by omega) (show 0 ≤ 1000000000 - b by omega)
  have k2 := Int.mul_nonneg (show 0 ≤ 1000000000 + a by omega) (show 0 ≤ 1000000000 + b by omega)
  have k3 := Int.mul_nonneg (show 0 ≤ 1000000000 - a by omega) (show 0 ≤ 1000000000 + b by omega)
  have k4 := Int.mul_nonneg (show 0 ≤ 1000000000 + a by omega) (show 0 ≤ 1000000000 - b by omega)
  simp only [Int.sub_mul, Int.mul_sub, Int.add_mul, Int.mul_add] at k1 k2 k3 k4
  constructor <;> omega

set_option maxHeartbeats 400000 in
theorem iSaturate_val {n c : Int} (h : satI n = c) (w : World) : Calls Tryz.prog 95 #[.int .i64 n] w fun e w' => e = .returned (.int .i64 c) ∧ w = w' := by
  have H := hid h
  clear h
  go_enter Tryz.func95, Tryz.ntmps95
  go_wp2_with fail
  refine (iClamp_val H.out _).mono ?_
  rintro e w1 ⟨rfl, rfl⟩
  go_wp2
  go_ret
  exact ⟨rfl, rfl⟩
set_option maxHeartbeats 800000 in
theorem iRatio_val {a b c : Int} (ha : S9 a) (hb : S9 b) (h : ratI a b = c) (w : World) : Calls Tryz.prog 102 #[.int .i64 a, .int .i64 b] w fun e w' => e = .returned (.int .i64 c) ∧ w = w' := by
  obtain ⟨a1, a2⟩ := ha
  obtain ⟨b1, b2⟩ := hb
  unfold ratI at h
  by_cases hn : b < 0
  · rw [if_pos hn] at h
    have H := hid h
    clear h
    go_enter Tryz.func102, Tryz.ntmps102
    go_wp2_with fail
    refine (iFloorDiv_val (I64.mk (by omega) (by omega)) H.out _).mono ?_
    rintro e w1 ⟨rfl, rfl⟩
    go_wp2
    go_ret
    exact ⟨rfl, rfl⟩
  · rw [if_neg hn] at h
    have H := hid h
    clear h
    go_enter Tryz.func102, Tryz.ntmps102
    go_wp2_with fail
    refine (iFloorDiv_val (I64.mk (by omega) (by omega)) H.out _).mono ?_
    rintro e w1 ⟨rfl, rfl⟩
    go_wp2
    go_ret
    exact ⟨rfl, rfl⟩
end Go.Proofs.YtaegmenjgjdimaaGreat
