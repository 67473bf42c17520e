/- This text proves when the reference takes a row as one of a grid. -/
import Derived.Test.YtdkohjeobjejeaaGreatSh12
namespace Go.Proofs.YtdkohjeobjejeaaGreat
open Go.RowKit

set_option maxHeartbeats 800000 in
theorem l19Ok_any (lo hi : Nat) (u : Value) (xs : List Int) (n : Nat) (w : World) (hu : Ints lo hi w u xs) (h1 : 1 ≤ n) (h8 : n ≤ 8) (hl : xs.length = n * n) : Calls Tryz.prog 85 #[u, .int .i64 n] w fun e w' => e = .returned (.bool true) ∧ w = w' := by
  obtain ⟨a, cap, rfl, HU⟩ := hu.open
  clear hu
  have hm : n * n ≤ 8 * 8 := Nat.mul_le_mul h8 h8
  obtain ⟨m, hmm⟩ : ∃ m, n * n = m := ⟨_, rfl⟩
  have hmi : (n : Int) * n = m := by rw [← hmm]; simp
  rw [hmm] at hl hm
  clear hmm
  rw [hl]
  go_enter Tryz.func85, Tryz.ntmps85
  go_wp2_with fail
  refine (l01In_val (b := true) (inB_iff.2 ⟨by omega, by omega⟩) _).mono ?_
  rintro e w1 ⟨rfl, rfl⟩
  go_wp2
  go_ret
  exact ⟨rfl, rfl⟩
end Go.Proofs.YtdkohjeobjejeaaGreat
