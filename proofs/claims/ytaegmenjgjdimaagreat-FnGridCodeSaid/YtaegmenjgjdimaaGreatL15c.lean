/- This text proves what the halving of a texture computes, in the program and in the reference. -/
import Derived.Test.YtaegmenjgjdimaaGreatL15b
namespace Go.Proofs.YtaegmenjgjdimaaGreat
open Go.RowKit

/-- the average of the block at a column and a row of the next level -/
def Tex.avg (t : Tex) (x y : Nat) : Int := (t.at (2 * x) (2 * y) + t.at (2 * x + 1) (2 * y) + t.at (2 * x) (2 * y + 1) + t.at (2 * x + 1) (2 * y + 1)) / 4
/-- texel k of the next level, m on a side -/
def Tex.avgK (t : Tex) (m k : Nat) : Int := t.avg (k % m) (k / m)
def Tex.halfPx (t : Tex) (m k : Nat) : List Int := (List.range k).map (t.avgK m)
/-- the next level -/
def Tex.half (t : Tex) : Tex := { log := t.log - 1, px := t.halfPx (2 ^ (t.log - 1).toNat) (2 ^ (t.log - 1).toNat * 2 ^ (t.log - 1).toNat) }

theorem Tex.halfPx_succ (t : Tex) (m k : Nat) : t.halfPx m (k + 1) = t.halfPx m k ++ [t.avgK m k] := by simp [Tex.halfPx, List.range_succ]
theorem Tex.halfPx_length (t : Tex) (m k : Nat) : (t.halfPx m k).length = k := by simp [Tex.halfPx]

theorem Tex.Ok.half_n {t : Tex} (h : t.Ok) (h1 : 1 ≤ t.log) : t.n = 2 * 2 ^ (t.log - 1).toNat := by
  have h4 := h.log4
  have : t.log = 1 ∨ t.log = 2 ∨ t.log = 3 ∨ t.log = 4 := by omega
  rcases this with h | h | h | h <;> simp [Tex.n, h]

theorem Tex.Ok.at_range {t : Tex} (h : t.Ok) (x y : Int) : 0 ≤ t.at x y ∧ t.at x y ≤ 256 := by
  have hp := h.n_pos
  unfold Tex.at
  obtain ⟨xx, hxx, hxl⟩ := fmod_nat x hp
  obtain ⟨yy, hyy, hyl⟩ := fmod_nat y hp
  rw [hxx, hyy]
  have hlt : yy * t.n + xx < t.px.length := by rw [h.len]; exact texel_nat hyl hxl
  have := h.all (t.px[yy * t.n + xx]'hlt) (List.getElem_mem hlt)
  simp only [Int.toNat_natCast]
  rw [List.getD_eq_getElem?_getD, List.getElem?_eq_getElem hlt]
  exact this
theorem Tex.Ok.avg_range {t : Tex} (h : t.Ok) (x y : Nat) : 0 ≤ t.avg x y ∧ t.avg x y ≤ 256 := by
  have h1 := h.at_range (2 * x) (2 * y)
  have h2 := h.at_range (2 * x + 1) (2 * y)
  have h3 := h.at_range (2 * x) (2 * y + 1)
  have h4 := h.at_range (2 * x + 1) (2 * y + 1)
  unfold Tex.avg
  omega
theorem Tex.Ok.half {t : Tex} (h : t.Ok) (h1 : 1 ≤ t.log) : t.half.Ok := by
  have h4 := h.log4
  refine ⟨by show 0 ≤ t.log - 1; omega, by show t.log - 1 ≤ 4; omega, by rw [Tex.half, Tex.halfPx_length]; rfl, fun x hx => ?_⟩
  simp only [Tex.half, Tex.halfPx, List.mem_map] at hx
  obtain ⟨k, _, rfl⟩ := hx
  exact h.avg_range _ _

/-- a texel of a valid texture whose column and row lie in it -/
theorem Tex.at_nat (t : Tex) {x y : Nat} (hx : x < t.n) (hy : y < t.n) : t.px[y * t.n + x]? = some (t.at x y) ∨ t.px.length ≤ y * t.n + x := by
  by_cases hlt : y * t.n + x < t.px.length
  · left
    have e1 : fmod (x : Int) t.n = x := by rw [fmod, if_neg (by omega), Int.emod_eq_of_lt (by omega) (by omega)]
    have e2 : fmod (y : Int) t.n = y := by rw [fmod, if_neg (by omega), Int.emod_eq_of_lt (by omega) (by omega)]
    rw [Tex.at, e1, e2]
    simp only [Int.toNat_natCast]
    rw [List.getD_eq_getElem?_getD, List.getElem?_eq_getElem hlt]
    rfl
  · right; omega

end Go.Proofs.YtaegmenjgjdimaaGreat
