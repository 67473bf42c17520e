/- This text proves what the program's position and lookup compute. -/
import Derived.Test.YtaegmenjgjdimaaGreatL15h
namespace Go.Proofs.YtaegmenjgjdimaaGreat
open Go.RowKit

theorem mul_bd {a b A B : Int} (h1 : 0 ≤ a) (h2 : a ≤ A) (h3 : 0 ≤ b) (h4 : b ≤ B) : 0 ≤ a * b ∧ a * b ≤ A * B :=
  ⟨Int.mul_nonneg h1 h3, Int.mul_le_mul h2 h4 h3 (Int.le_trans h1 h2)⟩
/-- the coordinate in texels, times 256 -/
def posS (u : Int) (n : Nat) : Int := clampI u (-1000000) 1000000 * n - 128
theorem clamp_bd (u : Int) : -1000000 ≤ clampI u (-1000000) 1000000 ∧ clampI u (-1000000) 1000000 ≤ 1000000 := by
  unfold clampI
  split
  · omega
  · split <;> omega
theorem posS_prod (u : Int) {n : Nat} (h1 : 1 ≤ n) (h : n ≤ 16) : -16000000 ≤ clampI u (-1000000) 1000000 * n ∧ clampI u (-1000000) 1000000 * n ≤ 16000000 := by
  have hb := clamp_bd u
  have h2 := mul_bd (a := clampI u (-1000000) 1000000 + 1000000) (b := n) (A := 2000000) (B := 16) (by omega) (by omega) (by omega) (by omega)
  have h3 : (clampI u (-1000000) 1000000 + 1000000) * (n : Int) = clampI u (-1000000) 1000000 * n + 1000000 * n := Int.add_mul ..
  have h4 := mul_bd (a := 1000000 - clampI u (-1000000) 1000000) (b := n) (A := 2000000) (B := 16) (by omega) (by omega) (by omega) (by omega)
  have h5 : (1000000 - clampI u (-1000000) 1000000) * (n : Int) = 1000000 * n - clampI u (-1000000) 1000000 * n := Int.sub_mul ..
  omega
def posX (u : Int) (n : Nat) : Int := fdiv (posS u n) 256
def posF (u : Int) (n : Nat) : Int := fmod (posS u n) 256
theorem posX_bd (u : Int) {n : Nat} (h1 : 1 ≤ n) (h : n ≤ 16) : -100000 ≤ posX u n ∧ posX u n ≤ 100000 := by
  have h2 := posS_prod u h1 h
  unfold posX posS fdiv
  rw [if_neg (by omega)]
  omega
theorem posF_bd (u : Int) (n : Nat) : 0 ≤ posF u n ∧ posF u n ≤ 255 := by
  unfold posF fmod
  rw [if_neg (by omega)]
  omega
theorem posF_eq (u : Int) (n : Nat) : posS u n - 256 * posX u n = posF u n := by
  unfold posF posX fmod fdiv
  rw [if_neg (by omega), if_neg (by omega)]
  omega

set_option maxHeartbeats 800000 in
theorem position_any (x : Value) (t : Tex) (u : Int) (w : World) (ht : t.Ok) :
    Calls Tryz.prog 147 #[.agg #[.int .i64 t.log, x], .int .i64 u] w fun e w' => e = .returned (.tuple #[.int .i64 (posX u t.n), .int .i64 (posF u t.n)]) ∧ Ext w w' := by
  have h0 := hid ht.log0
  have h4 := hid ht.log4
  have hn1 := ht.n_pos
  have hn := ht.n_le
  obtain ⟨n, hnn⟩ : ∃ n, t.n = n := ⟨_, rfl⟩
  rw [hnn] at hn1 hn ⊢
  have hp := posS_prod u hn1 hn
  obtain ⟨c, hc⟩ : ∃ c, clampI u (-1000000) 1000000 = c := ⟨_, rfl⟩
  rw [hc] at hp
  obtain ⟨q, hq⟩ : ∃ q, c * (n : Int) = q := ⟨_, rfl⟩
  rw [hq] at hp
  have hs : posS u n = q - 128 := by unfold posS; rw [hc, hq]
  obtain ⟨X, hX⟩ : ∃ X, posX u n = X := ⟨_, rfl⟩
  obtain ⟨F, hF⟩ : ∃ F, posF u n = F := ⟨_, rfl⟩
  have HX := hid (show fdiv (q - 128) 256 = X by rw [← hs]; exact hX)
  have HF := hid (show fmod (q - 128) 256 = F by rw [← hs]; exact hF)
  have HC := hid hc
  have HN := hid (show 2 ^ t.log.toNat = n from hnn)
  rw [hX, hF]
  clear hX hF hs hc hnn ht
  go_enter Tryz.func147, Tryz.ntmps147
  go_wp2
  refine wp_region_ext (by kernel_rfl) (by kernel_rfl) ?_
  repeat (go_big_quiet_step ((first | (go_at_call 29; exact grow_same (iClamp_val HC.out _)) | (go_at_call 151; exact grow_call (side_val h0.out h4.out HN.out _)))))
  refine wpQuiet_nil ?_
  intro w1 hx1
  go_wp2_with (first | (go_at_call 101; refine (iFloorDiv_val ⟨by omega, by omega⟩ HX.out _).mono ?_; rintro e w2 ⟨rfl, rfl⟩) | (go_at_call 150; refine (floorMod_val ⟨by omega, by omega⟩ ⟨by decide, by decide⟩ HF.out _).mono ?_; rintro e w2 ⟨rfl, rfl⟩))
  exact bodyPost_ret (v := .tuple #[.int .i64 X, .int .i64 F]) (by simp [results, Tryz.results147, go_sem]) rfl ⟨rfl, Ext.trans (by repeat (with_reducible (first | assumption | exact Ext.refl _ | apply Ext.alloc | apply Ext.drew | apply Ext.drewN))) hx1⟩

/-- four texels, weighed -/
def Tex.look4 (m : Tex) (x fx y fy : Int) : Int := ((m.at x y * (256 - fx) + m.at (x + 1) y * fx) * (256 - fy) + (m.at x (y + 1) * (256 - fx) + m.at (x + 1) (y + 1) * fx) * fy) / 65536
def Tex.look (m : Tex) (u v : Int) : Int := m.look4 (posX u m.n) (posF u m.n) (posX v m.n) (posF v m.n)

/-- all that is reckoned in a lookup, each part by a name -/
structure Look4 (m : Tex) (x fx y fy r1 r2 r3 r4 p1 p2 p3 p4 p5 p6 L : Int) : Prop where
  e1 : m.at x y = r1
  e2 : m.at (x + 1) y = r2
  e3 : m.at x (y + 1) = r3
  e4 : m.at (x + 1) (y + 1) = r4
  f1 : r1 * (256 - fx) = p1
  f2 : r2 * fx = p2
  f3 : r3 * (256 - fx) = p3
  f4 : r4 * fx = p4
  f5 : (p1 + p2) * (256 - fy) = p5
  f6 : (p3 + p4) * fy = p6
  b1 : 0 ≤ p1 ∧ p1 ≤ 65536
  b2 : 0 ≤ p2 ∧ p2 ≤ 65536
  b3 : 0 ≤ p3 ∧ p3 ≤ 65536
  b4 : 0 ≤ p4 ∧ p4 ≤ 65536
  b5 : 0 ≤ p5 ∧ p5 ≤ 33554432
  b6 : 0 ≤ p6 ∧ p6 ≤ 33554432
  out : (p5 + p6) / 65536 = L
theorem look4_all {m : Tex} (hm : m.Ok) (x y : Int) {fx fy : Int} (hx : 0 ≤ fx ∧ fx ≤ 255) (hy : 0 ≤ fy ∧ fy ≤ 255) :
    ∃ r1 r2 r3 r4 p1 p2 p3 p4 p5 p6, Look4 m x fx y fy r1 r2 r3 r4 p1 p2 p3 p4 p5 p6 (m.look4 x fx y fy) := by
  have a1 := hm.at_range x y
  have a2 := hm.at_range (x + 1) y
  have a3 := hm.at_range x (y + 1)
  have a4 := hm.at_range (x + 1) (y + 1)
  have b1 := mul_bd (b := 256 - fx) (B := 256) a1.1 a1.2 (by omega) (by omega)
  have b2 := mul_bd (b := fx) (B := 256) a2.1 a2.2 (by omega) (by omega)
  have b3 := mul_bd (b := 256 - fx) (B := 256) a3.1 a3.2 (by omega) (by omega)
  have b4 := mul_bd (b := fx) (B := 256) a4.1 a4.2 (by omega) (by omega)
  have c1 := mul_bd (a := m.at x y * (256 - fx) + m.at (x + 1) y * fx) (A := 131072) (b := 256 - fy) (B := 256) (Int.add_nonneg b1.1 b2.1) (Int.add_le_add b1.2 b2.2) (by omega) (by omega)
  have c2 := mul_bd (a := m.at x (y + 1) * (256 - fx) + m.at (x + 1) (y + 1) * fx) (A := 131072) (b := fy) (B := 256) (Int.add_nonneg b3.1 b4.1) (Int.add_le_add b3.2 b4.2) (by omega) (by omega)
  exact ⟨_, _, _, _, _, _, _, _, _, _, rfl, rfl, rfl, rfl, rfl, rfl, rfl, rfl, rfl, rfl, b1, b2, b3, b4, c1, c2, rfl⟩

theorem texel_val {t : Tex} {x y r : Int} (ht : t.Ok) (hr : t.at x y = r) (hx : I64 x) (hy : I64 y) (lo hi : Nat) (v : Value) (w : World) (hv : TexR lo hi w v t) (hh : hi ≤ w.heap.size) :
    Calls Tryz.prog 148 #[v, .int .i64 x, .int .i64 y] w fun e w' => e = .returned (.int .i64 r) ∧ Ext w w' := hr ▸ texel_any lo hi v t x y w hv hh ht hx hy

set_option maxRecDepth 10000 in
set_option maxHeartbeats 1600000 in
theorem lookup_any (lo hi : Nat) (v : Value) (m : Tex) (a b : Int) (w : World) (hv : TexR lo hi w v m) (hh : hi ≤ w.heap.size) (hm : m.Ok) :
    Calls Tryz.prog 143 #[v, .int .i64 a, .int .i64 b] w fun e w' => e = .returned (.int .i64 (m.look a b)) ∧ Ext w w' := by
  have x1 := posX_bd a hm.n_pos hm.n_le
  have x2 := posX_bd b hm.n_pos hm.n_le
  have g1 := posF_bd a m.n
  have g2 := posF_bd b m.n
  have P1 := fun (x : Value) (w : World) => position_any x m a w hm
  have P2 := fun (x : Value) (w : World) => position_any x m b w hm
  unfold Tex.look
  obtain ⟨x, ex⟩ : ∃ x, posX a m.n = x := ⟨_, rfl⟩
  obtain ⟨y, ey⟩ : ∃ y, posX b m.n = y := ⟨_, rfl⟩
  obtain ⟨fx, ex'⟩ : ∃ x, posF a m.n = x := ⟨_, rfl⟩
  obtain ⟨fy, ey'⟩ : ∃ x, posF b m.n = x := ⟨_, rfl⟩
  rw [ex] at x1
  rw [ey] at x2
  rw [ex'] at g1
  rw [ey'] at g2
  simp only [ex, ex', ey, ey'] at P1 P2 ⊢
  clear ex ey ex' ey'
  obtain ⟨r1, r2, r3, r4, p1, p2, p3, p4, p5, p6, K⟩ := look4_all hm x y g1 g2
  generalize m.look4 x fx y fy = L at K ⊢
  have E1 := hid K.e1
  have E2 := hid K.e2
  have E3 := hid K.e3
  have E4 := hid K.e4
  have F1 := K.f1
  have F2 := K.f2
  have F3 := K.f3
  have F4 := K.f4
  have F5 := K.f5
  have F6 := K.f6
  have B1 := K.b1
  have B2 := K.b2
  have B3 := K.b3
  have B4 := K.b4
  have B5 := K.b5
  have B6 := K.b6
  have HO := hid K.out
  obtain ⟨u, rfl, _⟩ := hv.shape
  have HV := hid hv
  have HM := hid hm
  have IX := hid (I64.mk (n := x) (by omega) (by omega))
  have IY := hid (I64.mk (n := y) (by omega) (by omega))
  have IX1 := hid (I64.mk (n := x + 1) (by omega) (by omega))
  have IY1 := hid (I64.mk (n := y + 1) (by omega) (by omega))
  have Q1 := hid P1
  have Q2 := hid P2
  clear K hv hm P1 P2
  go_enter Tryz.func143, Tryz.ntmps143
  go_wp2_with fail
  refine (Q1.out _ _).mono ?_
  rintro e w1 ⟨rfl, h1⟩
  obtain ⟨c1, f1⟩ := h1.cells
  have z1 := h1.size
  simp only [World.size_alloc] at z1
  have q1 : w.heap.size < w1.heap.size := by omega
  go_wp2_with fail
  refine (Q2.out _ _).mono ?_
  rintro e w2 ⟨rfl, h2⟩
  obtain ⟨c2, f2⟩ := h2.cells
  have q2 : w.heap.size < w2.heap.size := Nat.lt_of_lt_of_le q1 h2.size
  have e2 : Ext w w2 := (Ext.trans (by repeat (with_reducible (first | assumption | exact Ext.refl _ | apply Ext.alloc | apply Ext.drew | apply Ext.drewN))) h1).trans h2
  have hh2 : hi ≤ w2.heap.size := Nat.le_trans hh e2.size
  have X2 := hid e2
  go_wp2
  refine wp_region_ext (by kernel_rfl) (by kernel_rfl) ?_
  repeat (go_big_quiet_step ((go_at_call 148; with_reducible first
    | exact grow_call (texel_val HM.out E1.out IX.out IY.out lo hi _ _ ((HV.out.ext hh X2.out).ext hh2 (grow_ext _ _)) (Nat.le_trans hh2 (grow_ext _ _).size))
    | exact grow_call (texel_val HM.out E2.out IX1.out IY.out lo hi _ _ ((HV.out.ext hh X2.out).ext hh2 (grow_ext _ _)) (Nat.le_trans hh2 (grow_ext _ _).size)))))
  refine wpQuiet_nil ?_
  intro w3 h3
  obtain ⟨c3, f3⟩ := h3.cells
  have q3 : w.heap.size < w3.heap.size := Nat.lt_of_lt_of_le q2 h3.size
  have e3 : Ext w w3 := X2.out.trans h3
  have hh3 : hi ≤ w3.heap.size := Nat.le_trans hh e3.size
  have X3 := hid e3
  go_wp2
  refine wp_region_ext (by kernel_rfl) (by kernel_rfl) ?_
  repeat (go_big_quiet_step ((go_at_call 148; with_reducible first
    | exact grow_call (texel_val HM.out E3.out IX.out IY1.out lo hi _ _ ((HV.out.ext hh X3.out).ext hh3 (grow_ext _ _)) (Nat.le_trans hh3 (grow_ext _ _).size))
    | exact grow_call (texel_val HM.out E4.out IX1.out IY1.out lo hi _ _ ((HV.out.ext hh X3.out).ext hh3 (grow_ext _ _)) (Nat.le_trans hh3 (grow_ext _ _).size)))))
  refine wpQuiet_nil ?_
  intro w4 h4
  go_wp2
  go_ret
  exact ⟨ret_int HO.out, X3.out.trans h4⟩
end Go.Proofs.YtaegmenjgjdimaaGreat
