/- This text proves what FormatImage of both sides hands back for every image. -/
import Derived.Test.YtodblnccgpiigaaDoorPgm4
namespace Go.Proofs.YtodblnccgpiigaaDoor
open Go.RowKit

/-- the text of an image: empty for one that is not valid -/
def Pic.text (I : Pic) : ByteArray := if I.okB then pgmB I.px I.w.toNat I.h.toNat else ⟨#[]⟩

theorem Pic.ok_shape {I : Pic} (h : I.okB = true) : ∃ W H : Nat, I = ⟨W, H, I.px⟩ ∧ (1 ≤ W ∧ W ≤ 12) ∧ (1 ≤ H ∧ H ≤ 12) ∧ I.px.length = H * W := by
  have h0 := h
  unfold Pic.okB at h
  simp only [Bool.and_eq_true, decide_eq_true_eq] at h
  obtain ⟨_, ⟨h1, h2⟩, h3⟩ := h
  rw [inB_iff] at h1 h2
  obtain ⟨W, hW⟩ : ∃ W : Nat, I.w = W := ⟨I.w.toNat, by omega⟩
  obtain ⟨H, hH⟩ : ∃ H : Nat, I.h = H := ⟨I.h.toNat, by omega⟩
  refine ⟨W, H, ?_, by omega, by omega, ?_⟩
  · cases I; simp at hW hH; subst hW; subst hH; rfl
  · rw [hW, hH, ← Int.natCast_mul] at h3
    rw [Nat.mul_comm]
    exact Int.ofNat.inj h3

set_option maxHeartbeats 400000 in
theorem iFormatImage_any (lo hi : Nat) (v : Value) (I : Pic) (w : World) (hv : I.R lo hi w v) (hh : hi ≤ w.heap.size) (ht : Tab w) :
    Calls Tryd.prog 8 #[v] w fun e w' => e = .returned (.string I.text) ∧ Ext w w' := by
  cases hok : I.okB
  · have e : I.text = ⟨#[]⟩ := by unfold Pic.text; rw [hok]; rfl
    rw [e]
    have HV := hid hv
    have HO := hid hok
    obtain ⟨u, rfl, _, _, hu⟩ := hv
    obtain ⟨a, cap, rfl, _⟩ := hu.open
    clear hu hok e ht
    go_enter Tryd.func8, Tryd.ntmps8
    go_wp2_with fail
    refine (iIsValidImage_any lo hi _ _ _ (HV.out.ext hh (by repeat (with_reducible (first | assumption | exact Ext.refl _ | apply Ext.alloc | apply Ext.drew | apply Ext.drewN)))) (by simp; omega)).mono ?_
    rw [HO.out]
    rintro e w1 ⟨rfl, x1⟩
    go_wp2
    go_ret
    exact ⟨rfl, Ext.trans (by repeat (with_reducible (first | assumption | exact Ext.refl _ | apply Ext.alloc | apply Ext.drew | apply Ext.drewN))) x1⟩
  · obtain ⟨W, H, hI, hW, hH, hl⟩ := I.ok_shape hok
    have e : I.text = pgmB I.px W H := by
      unfold Pic.text
      rw [if_pos hok, hI]
      simp
    rw [e]
    obtain ⟨u, rfl, _, _, hu⟩ := hv
    obtain ⟨a, cap, rfl, HU⟩ := hu.open
    have hpos : 0 < I.px.length := by rw [hl]; exact Nat.mul_pos hH.1 hW.1
    obtain ⟨b, off, rfl, _, hb, _⟩ := HU.at hpos
    have e1 : I.w = W := by rw [hI]
    have e2 : I.h = H := by rw [hI]
    rw [e1, e2]
    exact iFormat_valid lo hi b off cap W H I.px w HU hh hW hH hl (hI ▸ hok) ht

set_option maxHeartbeats 400000 in
theorem sFormatImage_any (lo hi : Nat) (v : Value) (I : Pic) (w : World) (hv : I.R lo hi w v) (hh : hi ≤ w.heap.size) :
    Calls Tryd.prog 43 #[v] w fun e w' => e = .returned (.string I.text) ∧ Ext w w' := by
  cases hok : I.okB
  · have e : I.text = ⟨#[]⟩ := by unfold Pic.text; rw [hok]; rfl
    rw [e]
    have HV := hid hv
    have HO := hid hok
    obtain ⟨u, rfl, _, _, hu⟩ := hv
    obtain ⟨a, cap, rfl, _⟩ := hu.open
    clear hu hok e
    go_enter Tryd.func43, Tryd.ntmps43
    go_wp2_with fail
    refine (sIsValidImage_any lo hi _ _ _ (HV.out.ext hh (by repeat (with_reducible (first | assumption | exact Ext.refl _ | apply Ext.alloc | apply Ext.drew | apply Ext.drewN)))) (by simp; omega)).mono ?_
    rw [HO.out]
    rintro e w1 ⟨rfl, x1⟩
    go_wp2
    go_ret
    exact ⟨rfl, Ext.trans (by repeat (with_reducible (first | assumption | exact Ext.refl _ | apply Ext.alloc | apply Ext.drew | apply Ext.drewN))) x1⟩
  · obtain ⟨W, H, hI, hW, hH, hl⟩ := I.ok_shape hok
    have e : I.text = pgmB I.px W H := by
      unfold Pic.text
      rw [if_pos hok, hI]
      simp
    rw [e]
    obtain ⟨u, rfl, _, _, hu⟩ := hv
    obtain ⟨a, cap, rfl, HU⟩ := hu.open
    have hpos : 0 < I.px.length := by rw [hl]; exact Nat.mul_pos hH.1 hW.1
    obtain ⟨b, off, rfl, _, hb, _⟩ := HU.at hpos
    have e1 : I.w = W := by rw [hI]
    have e2 : I.h = H := by rw [hI]
    rw [e1, e2]
    exact sFormat_valid lo hi b off cap W H I.px w HU hh hb hW hH hl (hI ▸ hok)

/-- v is the image, and owns its pixels -/
def Pic.Own (I : Pic) (lo : Nat) (w : World) (v : Value) : Prop := ∃ u, v = .agg #[.int .i64 I.w, .int .i64 I.h, u] ∧ I64 I.w ∧ I64 I.h ∧ OwnInts lo w u I.px
theorem Pic.Own.R {I : Pic} {lo : Nat} {w : World} {v : Value} (h : I.Own lo w v) : I.R lo w.heap.size w v := by
  obtain ⟨u, rfl, h1, h2, h3⟩ := h
  exact ⟨u, rfl, h1, h2, h3.ints⟩
theorem Pic.Own.ext {I : Pic} {lo : Nat} {w w' : World} {v : Value} (h : I.Own lo w v) (e : Ext w w') : I.Own lo w' v := by
  obtain ⟨u, rfl, h1, h2, h3⟩ := h
  exact ⟨u, rfl, h1, h2, h3.ext e⟩
theorem Pic.Own.form {I : Pic} {lo : Nat} {w : World} {v : Value} (h : I.Own lo w v) : ∃ a c, v = .agg #[.int .i64 I.w, .int .i64 I.h, .slice a I.px.length c] := by
  obtain ⟨u, rfl, _, _, h1⟩ := h
  obtain ⟨a, c, rfl, _⟩ := h1.form
  exact ⟨a, c, rfl⟩

theorem eqIntS_one (lo hi lo' hi' : Nat) (u v : Value) (xs : List Int) (w : World) (hu : Ints lo hi w u xs) (hv : Ints lo' hi' w v xs) :
    Calls Tryd.prog 44 #[u, v] w fun e w' => e = .returned (.bool true) ∧ Ext w w' := by
  refine (eqIntS_any lo hi lo' hi' u v xs xs w hu hv).mono ?_
  rintro e w' ⟨rfl, n, rfl⟩
  exact ⟨by rw [decide_eq_true rfl], (Ext.refl w).drewN n⟩
set_option maxHeartbeats 800000 in
theorem eqImage_one (lo hi lo' hi' : Nat) (v v' : Value) (I : Pic) (w : World) (hv : I.R lo hi w v) (hh : hi ≤ w.heap.size) (hv' : I.R lo' hi' w v' ) (hh' : hi' ≤ w.heap.size) :
    Calls Tryd.prog 15 #[v, v'] w fun e w' => e = .returned (.bool true) ∧ Ext w w' := by
  obtain ⟨u, rfl, _, _, hu⟩ := hv
  obtain ⟨u', rfl, _, _, hu'⟩ := hv'
  go_enter Tryd.func15, Tryd.ntmps15
  go_wp2_with fail
  refine (eqIntS_one lo hi lo' hi' u u' I.px _ (hu.ext hh (by repeat (with_reducible (first | assumption | exact Ext.refl _ | apply Ext.alloc | apply Ext.drew | apply Ext.drewN)))) (hu'.ext hh' (by repeat (with_reducible (first | assumption | exact Ext.refl _ | apply Ext.alloc | apply Ext.drew | apply Ext.drewN))))).mono ?_
  rintro e w1 ⟨rfl, x1⟩
  go_wp2
  go_ret
  exact ⟨rfl, Ext.trans (by repeat (with_reducible (first | assumption | exact Ext.refl _ | apply Ext.alloc | apply Ext.drew | apply Ext.drewN))) x1⟩
end Go.Proofs.YtodblnccgpiigaaDoor
