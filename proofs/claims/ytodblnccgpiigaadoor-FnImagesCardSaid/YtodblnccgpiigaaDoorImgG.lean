/- This text proves what the program's SameImage and CompareImages hand back for two images that are alike. -/
import Derived.Test.YtodblnccgpiigaaDoorImgF
namespace Go.Proofs.YtodblnccgpiigaaDoor
open Go.RowKit

theorem Equal_same (lo hi lo' hi' : Nat) (u v : Value) (xs : List Int) (w : World) (hu : Ints lo hi w u xs) (hv : Ints lo' hi' w v xs) (hl : 1 ≤ xs.length) :
    Calls Tryd.prog 36 #[u, v] w fun e w' => e = .returned (.bool true) ∧ Ext w w' := by
  obtain ⟨a, c, rfl, HU⟩ := hu.open
  obtain ⟨a', c', rfl, HV⟩ := hv.open
  obtain ⟨b, off, rfl, _, _, _⟩ := HU.at (k := 0) (by omega)
  obtain ⟨b', off', rfl, _, _, _⟩ := HV.at (k := 0) (by omega)
  have g : ∀ {lo hi b off c} (H : IntsAt lo hi w (some ⟨b, off, none⟩) c xs), ∀ j, j < xs.length → w.cell? ⟨b, off + j, none⟩ = some (.int .i64 (xs.getD j 0)) := by
    intro lo hi b off c H j hj
    obtain ⟨_, b1, o1, e, _, _, h⟩ := H.cell j xs[j] (by simp [hj])
    simp only [Option.some.injEq, Addr.mk.injEq, and_true] at e
    obtain ⟨rfl, rfl⟩ := e
    rw [h]
    simp [hj]
  have l1 := HU.le
  have l2 := HU.cap
  refine (Tryd.slices_Equal_int b off xs.length c b' off' xs.length c' xs xs w (Nat.le_refl _) (Nat.le_refl _) (by omega) (by omega) (g HU) (g HV)).mono ?_
  rintro e w' ⟨rfl, q, rfl⟩
  exact ⟨by simp, (by repeat (with_reducible (first | assumption | exact Ext.refl _ | apply Ext.alloc | apply Ext.drew | apply Ext.drewN)))⟩

set_option maxHeartbeats 800000 in
theorem SameImage_one (lo hi lo' hi' : Nat) (v v' : Value) (I : Pic) (w : World) (hv : I.R lo hi w v) (hh : hi ≤ w.heap.size) (hv' : I.R lo' hi' w v') (hh' : hi' ≤ w.heap.size) (hok : I.okB = true) :
    Calls Tryd.prog 11 #[v, v'] w fun e w' => e = .returned (.bool true) ∧ Ext w w' := by
  obtain ⟨W, H, b, off, c, hW, hH, hW1, hH1, eW, eH, hl, rfl, hb1, hb2, HU⟩ := hv.shape hok
  obtain ⟨W', H', b', off', c', _, _, _, _, eW', eH', _, rfl, hb1', hb2', HU'⟩ := hv'.shape hok
  have : 1 ≤ H * W := Nat.mul_le_mul hH1 hW1
  obtain rfl : W = W' := by omega
  obtain rfl : H = H' := by omega
  have A := HU.shut
  have A' := HU'.shut
  have hl1 : 1 ≤ I.px.length := by omega
  rw [hl] at A A'
  have HA := hid A
  have HA' := hid A'
  obtain ⟨n, hn⟩ : ∃ n, H * W = n := ⟨_, rfl⟩
  rw [hn] at HA HA' ⊢
  replace hn := hid hn
  clear hv hv' hok eW eH eW' eH' hl A A' HU HU'
  go_enter Tryd.func11, Tryd.ntmps11
  go_wp2_with fail
  refine (Equal_same lo hi lo' hi' _ _ I.px _ (HA.out.ext hh (by repeat (with_reducible (first | assumption | exact Ext.refl _ | apply Ext.alloc | apply Ext.drew | apply Ext.drewN)))) (HA'.out.ext hh' (by repeat (with_reducible (first | assumption | exact Ext.refl _ | apply Ext.alloc | apply Ext.drew | apply Ext.drewN)))) hl1).mono ?_
  rintro e w1 ⟨rfl, x1⟩
  go_wp2
  go_ret
  exact ⟨rfl, Ext.trans (by repeat (with_reducible (first | assumption | exact Ext.refl _ | apply Ext.alloc | apply Ext.drew | apply Ext.drewN))) x1⟩

set_option maxHeartbeats 400000 in
theorem absolute_zero (w : World) : Calls Tryd.prog 35 #[.int .i64 0] w fun e w' => e = .returned (.int .i64 0) ∧ w = w' := by
  go_enter Tryd.func35, Tryd.ntmps35
  go_wp2
  go_ret
  exact ⟨rfl, rfl⟩

set_option maxHeartbeats 1600000 in
theorem CompareImages_one (lo hi lo' hi' : Nat) (v v' : Value) (I : Pic) (w : World) (hv : I.R lo hi w v) (hh : hi ≤ w.heap.size) (hv' : I.R lo' hi' w v') (hh' : hi' ≤ w.heap.size) (hok : I.okB = true) :
    Calls Tryd.prog 10 #[v, v'] w fun e w' => e = .returned (.tuple #[.int .i64 0, .int .i64 0, .bool true]) ∧ Ext w w' := by
  have HV := hid hv
  have HV' := hid hv'
  have HK := hid hok
  obtain ⟨W, H, b, off, c, hW, hH, hW1, hH1, eW, eH, hl, rfl, hb1, hb2, HU⟩ := hv.shape hok
  obtain ⟨W', H', b', off', c', _, _, _, _, eW', eH', _, rfl, hb1', hb2', HU'⟩ := hv'.shape hok
  obtain rfl : W = W' := by omega
  obtain rfl : H = H' := by omega
  have hm : H * W ≤ 12 * 12 := Nat.mul_le_mul hH hW
  obtain ⟨n, hn⟩ : ∃ n, H * W = n := ⟨_, rfl⟩
  rw [hn] at HV HV' hl hm ⊢
  have HL := hid hl
  replace hn := hid hn
  clear hv hv' hok eW eH eW' eH' hl
  go_enter Tryd.func10, Tryd.ntmps10
  go_wp2_with fail
  refine (iIsValidImage_any lo hi _ _ _ (HV.out.ext hh (by repeat (with_reducible (first | assumption | exact Ext.refl _ | apply Ext.alloc | apply Ext.drew | apply Ext.drewN)))) (by simp; omega)).mono ?_
  rw [HK.out]
  rintro e w1 ⟨rfl, x1⟩
  have B1 := ((Blk.new w 25 [.int .i64 (W : Nat), .int .i64 (H : Nat), .slice (some ⟨b, off, none⟩) n c]).ext (show Ext _ ((w.alloc (.cells #[.int .i64 (W : Nat), .int .i64 (H : Nat), .slice (some ⟨b, off, none⟩) n c] 25)).alloc (.cells #[.int .i64 (W : Nat), .int .i64 (H : Nat), .slice (some ⟨b', off', none⟩) n c'] 25)) from (by repeat (with_reducible (first | assumption | exact Ext.refl _ | apply Ext.alloc | apply Ext.drew | apply Ext.drewN))))).ext x1
  have B2 := (Blk.new (w.alloc (.cells #[.int .i64 (W : Nat), .int .i64 (H : Nat), .slice (some ⟨b, off, none⟩) n c] 25)) 25 [.int .i64 (W : Nat), .int .i64 (H : Nat), .slice (some ⟨b', off', none⟩) n c']).ext x1
  rw [World.size_alloc] at B2
  have X1 : Ext w w1 := Ext.trans (by repeat (with_reducible (first | assumption | exact Ext.refl _ | apply Ext.alloc | apply Ext.drew | apply Ext.drewN))) x1
  have p0 := B1.cell 0 rfl
  have p1 := B1.cell 1 rfl
  have p2 := B1.cell 2 rfl
  have q0 := B2.cell 0 rfl
  have q1 := B2.cell 1 rfl
  have q2 := B2.cell 2 rfl
  have zp := B1.lt
  have zq := B2.lt
  go_wp2_with fail
  refine (iIsValidImage_any lo' hi' _ _ _ (HV'.out.ext hh' X1) (by omega)).mono ?_
  rw [HK.out]
  rintro e w2 ⟨rfl, x2⟩
  have B1' := B1.ext x2
  have B2' := B2.ext x2
  have X2 := hid (X1.trans x2)
  clear p0 p1 p2 q0 q1 q2 zp zq x1 x2 B1 B2 X1
  have p0 := B1'.cell 0 rfl
  have p1 := B1'.cell 1 rfl
  have p2 := B1'.cell 2 rfl
  have q0 := B2'.cell 0 rfl
  have q1 := B2'.cell 1 rfl
  have q2 := B2'.cell 2 rfl
  have zp := B1'.lt
  have zq := B2'.lt
  go_wp2
  go_loopw [7, 8, 37] (fun m k i wr => m = .int .i64 0 ∧ k = .int .i64 0 ∧ ∃ j : Nat, j ≤ n ∧ i = .int .i64 j ∧ w2 = wr) (fun _ _ i _ => n - (intOf i).toNat)
  case atStart => exact ⟨rfl, rfl, 0, by omega, rfl, rfl⟩
  case round =>
    obtain ⟨rfl, rfl, j, hj, rfl, rfl⟩ := hrel
    by_cases hlt : j < n
    · obtain ⟨_, _, e1, _, _, h1⟩ := HU.at (k := j) (by rw [HL.out]; exact hlt)
      obtain ⟨_, _, e2, _, _, h2⟩ := HU'.at (k := j) (by rw [HL.out]; exact hlt)
      simp only [Option.some.injEq, Addr.mk.injEq, and_true] at e1 e2
      obtain ⟨rfl, rfl⟩ := e1
      obtain ⟨rfl, rfl⟩ := e2
      have h1' := (X2.out.cells.1 b (off + j) (by omega)).trans h1
      have h2' := (X2.out.cells.1 b' (off' + j) (by omega)).trans h2
      have zb : b < w2.heap.size := by have := X2.out.size; omega
      have zb' : b' < w2.heap.size := by have := X2.out.size; omega
      clear h1 h2
      obtain ⟨x, hx⟩ : ∃ x, I.px[j]'(by rw [HL.out]; exact hlt) = x := ⟨_, rfl⟩
      rw [hx] at h1' h2'
      have hz : wrap64 (x - x) = 0 := by rw [Int.sub_self]; exact I64.wrap ⟨by decide, by decide⟩
      clear hx
      go_wp2_with fail
      refine (absolute_zero _).mono ?_
      rintro e w3 ⟨rfl, rfl⟩
      go_wp2
      go_roundw
      case rel => exact ⟨rfl, rfl, j + 1, by omega, by go_num, by trivial⟩
      case measure => simp [intOf]; omega
    · obtain rfl : j = n := by omega
      go_wp2
      go_ret3
      exact ⟨rfl, X2.out⟩
end Go.Proofs.YtodblnccgpiigaaDoor
