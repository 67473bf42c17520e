/- This text proves what the texture functions of the program and of the reference compute. -/
import Derived.Test.YtaegmenjgjdimaaGreatL01
import Derived.Test.YtaegmenjgjdimaaGreatEx2
import Derived.Deep.RegionHeld3
import Derived.StillTailTactics
namespace Go.Proofs.YtaegmenjgjdimaaGreat
open Go.RowKit

/-- texels on a side -/
def Tex.n (t : Tex) : Nat := 2 ^ t.log.toNat
def Tex.okB (t : Tex) : Bool := inB t.log 0 4 && decide (t.px.length = t.n * t.n) && t.px.all (fun x => inB x 0 256)
structure Tex.Ok (t : Tex) : Prop where
  log0 : 0 ≤ t.log
  log4 : t.log ≤ 4
  len : t.px.length = t.n * t.n
  all : ∀ x ∈ t.px, 0 ≤ x ∧ x ≤ 256
theorem Tex.okB_iff {t : Tex} : t.okB = true ↔ t.Ok := by
  simp only [Tex.okB, Bool.and_eq_true, inB_iff, decide_eq_true_eq, List.all_eq_true]
  exact ⟨fun ⟨⟨⟨h1, h2⟩, h3⟩, h4⟩ => ⟨h1, h2, h3, h4⟩, fun ⟨h1, h2, h3, h4⟩ => ⟨⟨⟨h1, h2⟩, h3⟩, h4⟩⟩
theorem Tex.Ok.n_pos {t : Tex} (_h : t.Ok) : 1 ≤ t.n := Nat.one_le_two_pow
theorem Tex.Ok.n_le {t : Tex} (h : t.Ok) : t.n ≤ 16 := by
  have h1 := h.log0
  have h2 := h.log4
  exact Nat.pow_le_pow_right (n := 2) (by omega) (show t.log.toNat ≤ 4 by omega)

theorem wrap_n {t : Tex} (h0 : 0 ≤ t.log) (h4 : t.log ≤ 4) : wrap64 (2 ^ t.log.toNat) = (t.n : Int) := by
  have : t.log = 0 ∨ t.log = 1 ∨ t.log = 2 ∨ t.log = 3 ∨ t.log = 4 := by omega
  rcases this with h | h | h | h | h <;> simp [Tex.n, h] <;> exact wrap_small (by decide) (by decide)

set_option maxHeartbeats 400000 in
theorem side_any (u : Value) (t : Tex) (w : World) (h0 : 0 ≤ t.log) (h4 : t.log ≤ 4) :
    Calls Tryz.prog 151 #[.agg #[.int .i64 t.log, u]] w fun e w' => e = .returned (.int .i64 t.n) ∧ Ext w w' := by
  go_enter Tryz.func151, Tryz.ntmps151
  go_wp2
  go_ret
  exact ⟨ret_int (wrap_n h0 h4), (Ext.refl _).alloc _⟩

set_option maxHeartbeats 400000 in
theorem allWithin_any (l0 h0 : Nat) (u : Value) (xs : List Int) (lo hi : Int) (w : World) (hu : Ints l0 h0 w u xs) :
    Calls Tryz.prog 92 #[u, .int .i64 lo, .int .i64 hi] w fun e w' => e = .returned (.bool (xs.all fun x => inB x lo hi)) ∧ w = w' := by
  obtain ⟨a, cap, rfl, HU⟩ := hu.open
  have h1 := HU.le
  have h2 := HU.cap
  clear hu
  go_enter Tryz.func92, Tryz.ntmps92
  go_wp2
  go_loop [11] (fun i => ∃ k : Nat, k ≤ xs.length ∧ i = .int .i64 k ∧ (xs.take k).all (fun x => inB x lo hi) = true) (fun i => xs.length - (intOf i).toNat)
  case atStart => exact ⟨0, by omega, rfl, rfl⟩
  case round =>
    obtain ⟨k, hk, rfl, hall⟩ := hrel
    have HA := Lib.hid hall
    clear hall
    by_cases hlt : k < xs.length
    · obtain ⟨b, off, rfl, hb1, hb2, hc⟩ := HU.at hlt
      cases hin : inB xs[k] lo hi
      · have HI := Lib.hid hin
        go_wp2_with (go_at_call 25; refine (within_any xs[k] lo hi _).mono ?_; rintro e w' ⟨rfl, rfl⟩)
        go_ret
        exact ⟨ret_bool (all_no hlt HI.out).symm, rfl⟩
      · have HI := Lib.hid hin
        go_wp2_with (go_at_call 25; refine (within_any xs[k] lo hi _).mono ?_; rintro e w' ⟨rfl, rfl⟩)
        go_round
        case rel => exact ⟨k + 1, by omega, by go_num, all_step hlt HA.out HI.out⟩
        case measure => simp [intOf]; omega
    · go_wp2
      go_ret
      obtain rfl : k = xs.length := by omega
      exact ⟨ret_bool (by rw [List.take_length] at HA; exact HA.out.symm), rfl⟩


theorem wrap_nn {t : Tex} (h0 : 0 ≤ t.log) (h4 : t.log ≤ 4) : wrap64 (2 ^ (2 * t.log).toNat) = ((t.n * t.n : Nat) : Int) := by
  have : t.log = 0 ∨ t.log = 1 ∨ t.log = 2 ∨ t.log = 3 ∨ t.log = 4 := by omega
  rcases this with h | h | h | h | h <;> simp [Tex.n, h] <;> exact wrap_small (by decide) (by decide)

set_option maxHeartbeats 400000 in
theorem iIsValidTexture_any (lo hi : Nat) (v : Value) (t : Tex) (w : World) (hv : TexR lo hi w v t) (hh : hi ≤ w.heap.size) :
    Calls Tryz.prog 91 #[v] w fun e w' => e = .returned (.bool t.okB) ∧ Ext w w' := by
  obtain ⟨u, rfl, hlog, hu⟩ := hv
  have hu1 := hid (hu.ext hh ((Ext.refl _).alloc (.cells #[.int .i64 t.log, u] 31)))
  obtain ⟨a, cap, rfl, HU⟩ := hu.open
  clear hu
  by_cases h1 : 0 ≤ t.log ∧ t.log ≤ 4
  · have HB := hid (inB_iff.2 h1 : inB t.log 0 4 = true)
    have hnn := hid (wrap_nn h1.1 h1.2)
    have h10 := h1.1
    have h11 := h1.2
    clear h1
    by_cases h2 : t.px.length = t.n * t.n
    · have h3 : ((t.px.length : Int) == wrap64 (2 ^ (2 * t.log).toNat)) = true := by rw [hnn.out]; simp [h2]
      have H2 := hid h2
      clear h2
      go_enter Tryz.func91, Tryz.ntmps91
      go_wp2
      go_quiet ((first | (go_at_call 25; exact quiet_same (within_val HB.out _)) | (go_at_call 92; exact quiet_same (allWithin_any lo hi _ _ _ _ _ (hu1.out.ext (by simp; omega) ((Ext.refl _).drewN _))))))
      go_wp2
      go_ret
      exact ⟨ret_bool (by rw [Tex.okB, HB.out, H2.out]; simp), ((Ext.refl _).alloc _).drewN _⟩
    · have h3 : ((t.px.length : Int) == wrap64 (2 ^ (2 * t.log).toNat)) = false := by rw [hnn.out, beq_eq_false_iff_ne]; omega
      have H2 := hid h2
      clear h2
      go_enter Tryz.func91, Tryz.ntmps91
      go_wp2
      go_quiet ((first | (go_at_call 25; exact quiet_same (within_val HB.out _)) | (go_at_call 92; exact quiet_same (allWithin_any lo hi _ _ _ _ _ (hu1.out.ext (by simp; omega) ((Ext.refl _).drewN _))))))
      go_wp2
      go_ret
      exact ⟨ret_bool (by rw [Tex.okB, HB.out, decide_eq_false H2.out]; rfl), ((Ext.refl _).alloc _).drewN _⟩
  · have HB := hid (by rw [Bool.eq_false_iff]; intro h; exact h1 (inB_iff.1 h) : inB t.log 0 4 = false)
    clear h1
    go_enter Tryz.func91, Tryz.ntmps91
    go_wp2
    go_quiet ((go_at_call 25; exact quiet_same (within_val HB.out _)))
    go_wp2
    go_ret
    exact ⟨ret_bool (by rw [Tex.okB, HB.out]; rfl), ((Ext.refl _).alloc _).drewN _⟩


theorem row_nat {y n : Nat} (hy : y < n) (hn : n ≤ 16) : ∃ p : Nat, p = y * n ∧ wrap64 ((y : Int) * (n : Int)) = (p : Int) ∧ wrap64 (((y : Int) + 1) * (n : Int)) = (p : Int) + n ∧ p + n ≤ n * n := by
  have h1 := Nat.mul_le_mul_right n (show y + 1 ≤ n by omega)
  rw [Nat.add_mul, Nat.one_mul] at h1
  have h2 : n * n ≤ 16 * 16 := Nat.mul_le_mul hn hn
  refine ⟨y * n, rfl, ?_, ?_, h1⟩
  · rw [← Int.natCast_mul]; exact wrap_small (by omega) (by omega)
  · rw [Int.add_mul, Int.one_mul, ← Int.natCast_mul]; exact wrap_small (by omega) (by omega)

set_option maxHeartbeats 400000 in
theorem row_any (b off cap : Nat) (t : Tex) (y : Nat) (w : World) (ht : t.Ok) (hy : y < t.n) (hc : t.px.length ≤ cap) :
    Calls Tryz.prog 152 #[.agg #[.int .i64 t.log, .slice (some ⟨b, off, none⟩) t.px.length cap], .int .i64 y] w fun e w' => e = .returned (.slice (some ⟨b, off + y * t.n, none⟩) t.n t.n) ∧ Ext w w' := by
  have h0 := ht.log0
  have h4 := ht.log4
  have hn := ht.n_le
  obtain ⟨p, hp, e1, e2, hb⟩ := row_nat hy hn
  rw [← hp]
  have hpos := ht.n_pos
  have e3 : ((p : Int) + t.n).toNat = p + t.n := by omega
  have hcap : p + t.n ≤ cap := by rw [← ht.len] at hb; omega
  clear hp hb hc
  go_enter Tryz.func152, Tryz.ntmps152
  go_wp2_with fail
  refine (side_any _ t _ h0 h4).mono ?_
  rintro e w1 ⟨rfl, hx⟩
  obtain ⟨hc, hf⟩ := hx.cells
  have hz := hx.size
  simp only [World.size_alloc] at hz
  go_wp2
  go_ret
  exact ⟨rfl, ((Ext.refl _).alloc _).trans hx⟩


/-- a valid texture's value, written out -/
theorem TexR.ok {lo hi : Nat} {w : World} {v : Value} {t : Tex} (h : TexR lo hi w v t) (ht : t.Ok) :
    ∃ b off cap, v = .agg #[.int .i64 t.log, .slice (some ⟨b, off, none⟩) t.px.length cap] ∧ t.px.length ≤ cap ∧ lo ≤ b ∧ b < hi ∧ ∀ i x, t.px[i]? = some x → w.cell? ⟨b, off + i, none⟩ = some (.int .i64 x) := by
  obtain ⟨u, rfl, h1, h2⟩ := h
  obtain ⟨a, cap, rfl, h3⟩ := h2.open
  have hn := ht.n_pos
  have hl : 0 < t.px.length := by rw [ht.len]; exact Nat.mul_pos hn hn
  obtain ⟨b, off, rfl, h4, h5, _⟩ := h3.at hl
  refine ⟨b, off, cap, rfl, h3.le, h4, h5, fun i x hx => ?_⟩
  obtain ⟨_, b', off', h6, _, _, h7⟩ := h3.cell i x hx
  simp only [Option.some.injEq, Addr.mk.injEq, and_true] at h6
  obtain ⟨rfl, rfl⟩ := h6
  exact h7

theorem texel_nat {y x n : Nat} (hy : y < n) (hx : x < n) : y * n + x < n * n := by
  have h1 := Nat.mul_le_mul_right n (show y + 1 ≤ n by omega)
  rw [Nat.add_mul, Nat.one_mul] at h1
  omega
/-- the texel at a column and a row, both wrapped -/
def Tex.at (t : Tex) (x y : Int) : Int := t.px.getD ((fmod y t.n).toNat * t.n + (fmod x t.n).toNat) 0

set_option maxHeartbeats 400000 in
theorem texel_any (lo hi : Nat) (v : Value) (t : Tex) (x y : Int) (w : World) (hv : TexR lo hi w v t) (hh : hi ≤ w.heap.size) (ht : t.Ok) (hx : I64 x) (hy : I64 y) :
    Calls Tryz.prog 148 #[v, .int .i64 x, .int .i64 y] w fun e w' => e = .returned (.int .i64 (t.at x y)) ∧ Ext w w' := by
  obtain ⟨b, off, cap, rfl, hcap, hlo, hhi, hcell⟩ := hv.ok ht
  have h0 := ht.log0
  have h4 := ht.log4
  have hpos := ht.n_pos
  have hn := ht.n_le
  obtain ⟨xx, hxx, hxl⟩ := fmod_nat x hpos
  obtain ⟨yy, hyy, hyl⟩ := fmod_nat y hpos
  have hb0 : b < w.heap.size := by omega
  have hb1 : b < w.heap.size + 1 := by omega
  have hat : t.at x y = t.px.getD (yy * t.n + xx) 0 := by rw [Tex.at, hxx, hyy]; rfl
  have hlt : yy * t.n + xx < t.px.length := by rw [ht.len]; exact texel_nat hyl hxl
  have hc : w.cell? ⟨b, off + yy * t.n + xx, none⟩ = some (.int .i64 (t.px.getD (yy * t.n + xx) 0)) := by
    rw [Nat.add_assoc]
    exact hcell _ _ (by simp [hlt])
  rw [hat]
  generalize t.px.getD (yy * t.n + xx) 0 = r at hc ⊢
  have HX := hid hxx
  have HY := hid hyy
  have HT := hid ht
  have HC := hid hcap
  have h16 : I64 (t.n : Int) := ⟨by omega, by omega⟩
  have H16 := hid h16
  have H1 := hid hx
  have H2 := hid hy
  clear hxx hyy hcell hv hat hlt h16 hx hy ht hcap
  go_enter Tryz.func148, Tryz.ntmps148
  go_wp2
  refine wp_region_ext (by kernel_rfl) (by kernel_rfl) ?_
  repeat (go_big_quiet_step ((first
    | (go_at_call 151; exact grow_call (side_any _ t _ h0 h4))
    | (go_at_call_of 150 x; exact grow_same (floorMod_val H1.out H16.out HX.out _))
    | (go_at_call_of 150 y; exact grow_same (floorMod_val H2.out H16.out HY.out _))
    | (go_at_call 152; exact grow_call (row_any b off cap t yy _ HT.out hyl HC.out)))))
  refine wpQuiet_nil ?_
  intro w1 hx1
  go_wp2
  go_ret
  exact ⟨rfl, ((Ext.refl _).alloc _).trans hx1⟩

end Go.Proofs.YtaegmenjgjdimaaGreat