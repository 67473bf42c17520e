/- This text proves what TileOf hands back: the program's and the reference's. -/
import Derived.Test.YtcogkglkioejaaaL15h
namespace Go.Proofs.Ytcogkglkioejaaa
open Go.RowKit

/-- a tile -/
def tileV (l x y : Int) : Value := .agg #[.int .i64 l, .int .i64 x, .int .i64 y]
/-- the tile of a texel of a mip level -/
def Tex.tile (t : Tex) (x y l : Int) : Value := if t.okB && inB l 0 t.log then tileV l (fmod x (t.mip l.toNat).n / 2) (fmod y (t.mip l.toNat).n / 2) else tileV 0 0 0

theorem floorMod_pos {x r : Int} {n : Nat} (hn : 1 ≤ n) (hn' : n ≤ 16) (h : fmod x n = r) (hx : I64 x) (w : World) : Calls Try.prog 75 #[.int .i64 x, .int .i64 n] w fun e w' => e = .returned (.int .i64 r) ∧ w = w' := by
  subst h
  exact floorMod_any x n w hx ⟨by omega, by omega⟩
set_option maxHeartbeats 800000 in
theorem tileOf_any (x y l : Int) (n : Nat) (w : World) (hx : I64 x) (hy : I64 y) (hn : 1 ≤ n) (hn' : n ≤ 16) :
    Calls Try.prog 57 #[.int .i64 x, .int .i64 y, .int .i64 l, .int .i64 n] w fun e w' => e = .returned (tileV l (fmod x n / 2) (fmod y n / 2)) ∧ Ext w w' := by
  obtain ⟨xx, hxx, hxl⟩ := fmod_nat x hn
  obtain ⟨yy, hyy, hyl⟩ := fmod_nat y hn
  rw [hxx, hyy]
  have HX := hid hxx
  have HY := hid hyy
  have KX := hid hx
  have KY := hid hy
  clear hxx hyy hx hy
  go_enter Try.func57, Try.ntmps57
  go_wp2_with fail
  refine (floorMod_pos hn hn' HX.out KX.out _).mono ?_
  rintro e w1 ⟨rfl, rfl⟩
  go_wp2_with fail
  refine (floorMod_pos hn hn' HY.out KY.out _).mono ?_
  rintro e w2 ⟨rfl, rfl⟩
  go_wp2
  exact bodyPost_ret (v := tileV l ((xx : Int) / 2) ((yy : Int) / 2)) (by simp [tileV, results, Try.results57, go_sem]) rfl ⟨rfl, (by repeat (with_reducible (first | assumption | exact Ext.refl _ | apply Ext.alloc | apply Ext.drew | apply Ext.drewN)))⟩

theorem l15Size_val {l : Int} {m : Nat} (h0 : 0 ≤ l) (h4 : l ≤ 4) (hm : 2 ^ l.toNat = m) (w : World) :
    Calls Try.prog 50 #[.int .i64 l] w fun e w' => e = .returned (.int .i64 m) ∧ w = w' := by
  subst hm
  exact l15Size_tex (t := ⟨l, []⟩) h0 h4 w
theorem sMipLevel_val {t t2 : Tex} {l : Int} {b : Bool} (h : t.mipR l = (t2, b)) (lo hi : Nat) (v : Value) (w : World) (hv : TexR lo hi w v t) (hh : hi ≤ w.heap.size) :
    Calls Try.prog 70 #[v, .int .i64 l] w fun e w' => ∃ v', e = .returned (.tuple #[v', .bool b]) ∧ OwnTex w.heap.size w' v' t2 ∧ Ext w w' := by
  have := sMipLevel_any lo hi v t l w hv hh
  rw [h] at this
  exact this

set_option maxHeartbeats 800000 in
theorem sTileOf_any (lo hi : Nat) (v : Value) (t : Tex) (x y l : Int) (w : World) (hv : TexR lo hi w v t) (hh : hi ≤ w.heap.size) (hx : I64 x) (hy : I64 y) :
    Calls Try.prog 69 #[v, .int .i64 x, .int .i64 y, .int .i64 l] w fun e w' => e = .returned (t.tile x y l) ∧ Ext w w' := by
  obtain ⟨u, rfl, hlog⟩ := hv.shape
  have HV := hid hv
  have KX := hid hx
  have KY := hid hy
  clear hv hx hy
  by_cases hb : (t.okB && inB l 0 t.log) = true
  · have hr : t.mipR l = (t.mip l.toNat, true) := by unfold Tex.mipR; rw [if_pos hb]
    have e1 : t.tile x y l = tileV l (fmod x (t.mip l.toNat).n / 2) (fmod y (t.mip l.toNat).n / 2) := by unfold Tex.tile; rw [if_pos hb]
    rw [e1]
    simp only [Bool.and_eq_true, inB_iff] at hb
    have ht := Tex.okB_iff.1 hb.1
    have hm := (ht.mip l.toNat (by omega)).1
    have h0 := hm.log0
    have h4 := hm.log4
    have hm1 := hm.n_pos
    have hm16 := hm.n_le
    have HR := hid hr
    obtain ⟨t2, e2⟩ : ∃ t2, t.mip l.toNat = t2 := ⟨_, rfl⟩
    rw [e2] at hr h0 h4 hm1 hm16 ⊢
    have HR := hid hr
    obtain ⟨m, hm⟩ : ∃ m, t2.n = m := ⟨_, rfl⟩
    rw [hm] at hm1 hm16 ⊢
    have HN := hid (show 2 ^ t2.log.toNat = m from hm)
    clear hb ht e1 e2 hr hm
    obtain ⟨xx, hxx, hxl⟩ := fmod_nat x hm1
    obtain ⟨yy, hyy, hyl⟩ := fmod_nat y hm1
    have ex := vint ((wrapmod x hm1 (by omega)).trans hxx)
    have ey := vint ((wrapmod y hm1 (by omega)).trans hyy)
    rw [hxx, hyy]
    clear hxx hyy
    unfold tileV
    go_enter Try.func69, Try.ntmps69
    go_wp2_with fail
    refine (sMipLevel_val HR.out _ _ _ _ (HV.out.ext hh (by repeat (with_reducible (first | assumption | exact Ext.refl _ | apply Ext.alloc | apply Ext.drew | apply Ext.drewN)))) (by simp; omega)).mono ?_
    rintro e w1 ⟨v1, rfl, O1, x1⟩
    obtain ⟨a1, n1, rfl, _⟩ := O1.form
    have E1 : Ext w w1 := Ext.trans (by repeat (with_reducible (first | assumption | exact Ext.refl _ | apply Ext.alloc | apply Ext.drew | apply Ext.drewN))) x1
    obtain ⟨c1, f1⟩ := x1.cells
    have z1 := x1.size
    simp only [World.size_alloc] at z1
    have q0 : w.heap.size + 1 < w1.heap.size := by omega
    have q00 : w.heap.size < w1.heap.size := by omega
    · skip
      go_wp2_with (go_at_call 50; refine (l15Size_val h0 h4 HN.out _).mono ?_; rintro e w2 ⟨rfl, rfl⟩)
      exact bodyPost_ret (v := .agg #[.int .i64 l, .int .i64 ((xx : Int) / 2), .int .i64 ((yy : Int) / 2)]) (by simp [results, Try.results69, go_sem, *]) rfl ⟨rfl, (by repeat (first | with_reducible assumption | with_reducible exact Ext.refl _ | with_reducible apply Ext.alloc | with_reducible apply Ext.drew | with_reducible apply Ext.drewN | (with_reducible refine Ext.setCell ?_ (by simp; omega) _) | (with_reducible refine Ext.setCell ?_ (by simp) _)))⟩
  · have hr : t.mipR l = (⟨0, []⟩, false) := by unfold Tex.mipR; rw [if_neg hb]
    have e1 : t.tile x y l = tileV 0 0 0 := by unfold Tex.tile; rw [if_neg hb]
    rw [e1]
    have HR := hid hr
    clear hb hr e1
    unfold tileV
    go_enter Try.func69, Try.ntmps69
    go_wp2_with fail
    refine (sMipLevel_val HR.out _ _ _ _ (HV.out.ext hh (by repeat (with_reducible (first | assumption | exact Ext.refl _ | apply Ext.alloc | apply Ext.drew | apply Ext.drewN)))) (by simp; omega)).mono ?_
    rintro e w1 ⟨v1, rfl, O1, x1⟩
    obtain ⟨a1, n1, rfl, _⟩ := O1.form
    have E1 : Ext w w1 := Ext.trans (by repeat (with_reducible (first | assumption | exact Ext.refl _ | apply Ext.alloc | apply Ext.drew | apply Ext.drewN))) x1
    obtain ⟨c1, f1⟩ := x1.cells
    have z1 := x1.size
    simp only [World.size_alloc] at z1
    have q0 : w.heap.size + 1 < w1.heap.size := by omega
    have q00 : w.heap.size < w1.heap.size := by omega
    go_wp2
    exact bodyPost_ret (v := .agg #[.int .i64 0, .int .i64 0, .int .i64 0]) (by simp [results, Try.results69, go_sem, *]) rfl ⟨rfl, (by repeat (first | with_reducible assumption | with_reducible exact Ext.refl _ | with_reducible apply Ext.alloc | with_reducible apply Ext.drew | with_reducible apply Ext.drewN | (with_reducible refine Ext.setCell ?_ (by simp; omega) _) | (with_reducible refine Ext.setCell ?_ (by simp) _)))⟩

set_option maxHeartbeats 400000 in
theorem eqTile_same (a b c : Int) (w : World) : Calls Try.prog 73 #[.agg #[.int .i64 a, .int .i64 b, .int .i64 c], .agg #[.int .i64 a, .int .i64 b, .int .i64 c]] w fun e w' => e = .returned (.bool true) ∧ Ext w w' := by
  go_enter Try.func73, Try.ntmps73
  go_wp2
  go_ret
  exact ⟨rfl, (by repeat (with_reducible (first | assumption | exact Ext.refl _ | apply Ext.alloc | apply Ext.drew | apply Ext.drewN)))⟩
end Go.Proofs.Ytcogkglkioejaaa
