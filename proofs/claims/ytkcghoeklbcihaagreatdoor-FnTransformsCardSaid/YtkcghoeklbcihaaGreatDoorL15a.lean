/- This text proves what the texture functions of the program and of the reference compute. -/
import Derived.Test.YtkcghoeklbcihaaGreatDoorL01
import Derived.Test.YtkcghoeklbcihaaGreatDoorEx2
import Derived.Deep.RegionHeld3
import Derived.StillTailTactics
namespace Go.Proofs.YtkcghoeklbcihaaGreatDoor
open Go.RowKit

/-- texels on a side -/
def Tex.n (t : Tex) : Nat := 2 ^ t.log.toNat
def Tex.okB (t : Tex) : Bool := inB t.log 0 4 && decide (t.px.length = t.n * t.n) && t.px.all (fun x => inB x 0 256)
structure Tex.Ok (t : Tex) : Prop where
  log0 : 0 ≤ t.log
  log4 : t.log ≤ 4
  len : t.px.length = t.n * t.n
  all : ∀ x ∈ t.px, 0 ≤ x ∧ x ≤ 256
theorem Tex.okB_iff {t : Tex} : t.okB = true ↔ t.Ok := by
  simp only [Tex.okB, Bool.and_eq_true, inB_iff, decide_eq_true_eq, List.all_eq_true]
  exact ⟨fun ⟨⟨⟨h1, h2⟩, h3⟩, h4⟩ => ⟨h1, h2, h3, h4⟩, fun ⟨h1, h2, h3, h4⟩ => ⟨⟨⟨h1, h2⟩, h3⟩, h4⟩⟩
theorem Tex.Ok.n_pos {t : Tex} (_h : t.Ok) : 1 ≤ t.n := Nat.one_le_two_pow
theorem Tex.Ok.n_le {t : Tex} (h : t.Ok) : t.n ≤ 16 := by
  have h1 := h.log0
  have h2 := h.log4
  exact Nat.pow_le_pow_right (n := 2) (by omega) (show t.log.toNat ≤ 4 by omega)

theorem wrap_n {t : Tex} (h0 : 0 ≤ t.log) (h4 : t.log ≤ 4) : wrap64 (2 ^ t.log.toNat) = (t.n : Int) := by
  have : t.log = 0 ∨ t.log = 1 ∨ t.log = 2 ∨ t.log = 3 ∨ t.log = 4 := by omega
  rcases this with h | h | h | h | h <;> simp [Tex.n, h] <;> exact wrap_small (by decide) (by decide)

set_option maxHeartbeats 400000 in
theorem allWithin_any (l0 h0 : Nat) (u : Value) (xs : List Int) (lo hi : Int) (w : World) (hu : Ints l0 h0 w u xs) :
    Calls Tryz.prog 46 #[u, .int .i64 lo, .int .i64 hi] w fun e w' => e = .returned (.bool (xs.all fun x => inB x lo hi)) ∧ w = w' := by
  obtain ⟨a, cap, rfl, HU⟩ := hu.open
  have h1 := HU.le
  have h2 := HU.cap
  clear hu
  go_enter Tryz.func46, Tryz.ntmps46
  go_wp2
  go_loop [11] (fun i => ∃ k : Nat, k ≤ xs.length ∧ i = .int .i64 k ∧ (xs.take k).all (fun x => inB x lo hi) = true) (fun i => xs.length - (intOf i).toNat)
  case atStart => exact ⟨0, by omega, rfl, rfl⟩
  case round =>
    obtain ⟨k, hk, rfl, hall⟩ := hrel
    have HA := Lib.hid hall
    clear hall
    by_cases hlt : k < xs.length
    · obtain ⟨b, off, rfl, hb1, hb2, hc⟩ := HU.at hlt
      cases hin : inB xs[k] lo hi
      · have HI := Lib.hid hin
        go_wp2_with (go_at_call 18; refine (within_any xs[k] lo hi _).mono ?_; rintro e w' ⟨rfl, rfl⟩)
        go_ret
        exact ⟨ret_bool (all_no hlt HI.out).symm, rfl⟩
      · have HI := Lib.hid hin
        go_wp2_with (go_at_call 18; refine (within_any xs[k] lo hi _).mono ?_; rintro e w' ⟨rfl, rfl⟩)
        go_round
        case rel => exact ⟨k + 1, by omega, by go_num, all_step hlt HA.out HI.out⟩
        case measure => simp [intOf]; omega
    · go_wp2
      go_ret
      obtain rfl : k = xs.length := by omega
      exact ⟨ret_bool (by rw [List.take_length] at HA; exact HA.out.symm), rfl⟩


theorem wrap_nn {t : Tex} (h0 : 0 ≤ t.log) (h4 : t.log ≤ 4) : wrap64 (2 ^ (2 * t.log).toNat) = ((t.n * t.n : Nat) : Int) := by
  have : t.log = 0 ∨ t.log = 1 ∨ t.log = 2 ∨ t.log = 3 ∨ t.log = 4 := by omega
  rcases this with h | h | h | h | h <;> simp [Tex.n, h] <;> exact wrap_small (by decide) (by decide)

theorem row_nat {y n : Nat} (hy : y < n) (hn : n ≤ 16) : ∃ p : Nat, p = y * n ∧ wrap64 ((y : Int) * (n : Int)) = (p : Int) ∧ wrap64 (((y : Int) + 1) * (n : Int)) = (p : Int) + n ∧ p + n ≤ n * n := by
  have h1 := Nat.mul_le_mul_right n (show y + 1 ≤ n by omega)
  rw [Nat.add_mul, Nat.one_mul] at h1
  have h2 : n * n ≤ 16 * 16 := Nat.mul_le_mul hn hn
  refine ⟨y * n, rfl, ?_, ?_, h1⟩
  · rw [← Int.natCast_mul]; exact wrap_small (by omega) (by omega)
  · rw [Int.add_mul, Int.one_mul, ← Int.natCast_mul]; exact wrap_small (by omega) (by omega)

/-- a valid texture's value, written out -/
theorem TexR.ok {lo hi : Nat} {w : World} {v : Value} {t : Tex} (h : TexR lo hi w v t) (ht : t.Ok) :
    ∃ b off cap, v = .agg #[.int .i64 t.log, .slice (some ⟨b, off, none⟩) t.px.length cap] ∧ t.px.length ≤ cap ∧ lo ≤ b ∧ b < hi ∧ ∀ i x, t.px[i]? = some x → w.cell? ⟨b, off + i, none⟩ = some (.int .i64 x) := by
  obtain ⟨u, rfl, h1, h2⟩ := h
  obtain ⟨a, cap, rfl, h3⟩ := h2.open
  have hn := ht.n_pos
  have hl : 0 < t.px.length := by rw [ht.len]; exact Nat.mul_pos hn hn
  obtain ⟨b, off, rfl, h4, h5, _⟩ := h3.at hl
  refine ⟨b, off, cap, rfl, h3.le, h4, h5, fun i x hx => ?_⟩
  obtain ⟨_, b', off', h6, _, _, h7⟩ := h3.cell i x hx
  simp only [Option.some.injEq, Addr.mk.injEq, and_true] at h6
  obtain ⟨rfl, rfl⟩ := h6
  exact h7

theorem texel_nat {y x n : Nat} (hy : y < n) (hx : x < n) : y * n + x < n * n := by
  have h1 := Nat.mul_le_mul_right n (show y + 1 ≤ n by omega)
  rw [Nat.add_mul, Nat.one_mul] at h1
  omega
/-- the texel at a column and a row, both wrapped -/
def Tex.at (t : Tex) (x y : Int) : Int := t.px.getD ((fmod y t.n).toNat * t.n + (fmod x t.n).toNat) 0

end Go.Proofs.YtkcghoeklbcihaaGreatDoor