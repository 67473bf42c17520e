/- This text holds the reading of images, and when an image is valid: the program's word and the reference's. -/
import Derived.Test.YtodblnccgpiigaaDoorFilm
namespace Go.Proofs.YtodblnccgpiigaaDoor
open Go.RowKit

/-- an image: sides and pixels -/
structure Pic where
  (w h : Int) (px : List Int)
def Pic.R (I : Pic) (lo hi : Nat) (w : World) (v : Value) : Prop := ∃ u, v = .agg #[.int .i64 I.w, .int .i64 I.h, u] ∧ I64 I.w ∧ I64 I.h ∧ Ints lo hi w u I.px
theorem Pic.R.same {I : Pic} {lo hi : Nat} {w w' : World} {v : Value} (h : I.R lo hi w v) (s : Same lo hi w w') : I.R lo hi w' v := by
  obtain ⟨u, rfl, h1, h2, h3⟩ := h
  exact ⟨u, rfl, h1, h2, h3.same s⟩
theorem Pic.R.ext {I : Pic} {lo hi : Nat} {w w' : World} {v : Value} (h : I.R lo hi w v) (hh : hi ≤ w.heap.size) (e : Ext w w') : I.R lo hi w' v := h.same (e.same hh)
def Pic.okB (I : Pic) : Bool := I.px.all (fun n => inB n 0 256) && (inB I.w 1 12 && inB I.h 1 12 && decide ((I.px.length : Int) = I.w * I.h))

set_option maxHeartbeats 1600000 in
theorem iIsValidImage_any (lo hi : Nat) (v : Value) (I : Pic) (w : World) (hv : I.R lo hi w v) (hh : hi ≤ w.heap.size) :
    Calls Tryd.prog 30 #[v] w fun e w' => e = .returned (.bool I.okB) ∧ Ext w w' := by
  obtain ⟨u, rfl, hw, hh', hu⟩ := hv
  obtain ⟨a, cap, rfl, HU⟩ := (hu.ext hh ((Ext.refl w).alloc (.cells #[.int .i64 I.w, .int .i64 I.h, u] 25))).open
  have l1 := HU.le
  have l2 := HU.cap
  have HUI := hid HU.shut
  clear hu hw hh'
  cases h1 : (inB I.w 1 12 && inB I.h 1 12)
  · have e : I.okB = false := by unfold Pic.okB; rw [h1]; simp
    rw [e]
    go_enter Tryd.func30, Tryd.ntmps30
    go_wp2_with (go_at_call 63; refine (sizeOk_val h1 _).mono ?_; rintro e w1 ⟨rfl, rfl⟩)
    go_ret
    exact ⟨rfl, (by repeat (with_reducible (first | assumption | exact Ext.refl _ | apply Ext.alloc | apply Ext.drew | apply Ext.drewN)))⟩
  · have hb := h1
    simp only [Bool.and_eq_true] at hb
    have hp := prod_bd hb.1 hb.2
    obtain ⟨P, hP⟩ : ∃ P, I.w * I.h = P := ⟨_, rfl⟩
    rw [hP] at hp
    by_cases h2 : (I.px.length : Int) = P
    · have e2 : ((I.px.length : Int) == P) = true := by simp [h2]
      have hOK : I.okB = I.px.all (fun n => inB n 0 256) := by unfold Pic.okB; rw [h1, hP]; simp [h2]
      rw [hOK]
      have HAW := hid (fun w0 : World => fun hu => allWithin_any lo hi (.slice a I.px.length cap) I.px 0 256 w0 hu)
      clear h2 hOK
      go_enter Tryd.func30, Tryd.ntmps30
      go_wp2_with (first
        | (go_at_call 63; refine (sizeOk_val h1 _).mono ?_; rintro e w1 ⟨rfl, rfl⟩)
        | (go_at_call 64; refine (HAW.out _ HUI.out).mono ?_; rintro e w1 ⟨rfl, rfl⟩))
      go_ret
      exact ⟨rfl, (by repeat (with_reducible (first | assumption | exact Ext.refl _ | apply Ext.alloc | apply Ext.drew | apply Ext.drewN)))⟩
    · have e : I.okB = false := by unfold Pic.okB; rw [hP]; simp [h2]
      rw [e]
      have e2 : ((I.px.length : Int) == P) = false := by simp [h2]
      clear e h2
      go_enter Tryd.func30, Tryd.ntmps30
      go_wp2_with (go_at_call 63; refine (sizeOk_val h1 _).mono ?_; rintro e w1 ⟨rfl, rfl⟩)
      go_ret
      exact ⟨rfl, (by repeat (with_reducible (first | assumption | exact Ext.refl _ | apply Ext.alloc | apply Ext.drew | apply Ext.drewN)))⟩

set_option maxHeartbeats 1600000 in
theorem sIsValidImage_any (lo hi : Nat) (v : Value) (I : Pic) (w : World) (hv : I.R lo hi w v) (hh : hi ≤ w.heap.size) :
    Calls Tryd.prog 69 #[v] w fun e w' => e = .returned (.bool I.okB) ∧ Ext w w' := by
  obtain ⟨u, rfl, hw, hh', hu⟩ := hv
  obtain ⟨a, cap, rfl, HU⟩ := (hu.ext hh ((Ext.refl w).alloc (.cells #[.int .i64 I.w, .int .i64 I.h, u] 25))).open
  have l1 := HU.le
  have l2 := HU.cap
  clear hu hw hh'
  go_enter Tryd.func69, Tryd.ntmps69
  go_wp2
  go_loopw [8] (fun i wr => ∃ k : Nat, k ≤ I.px.length ∧ i = .int .i64 k ∧ (∀ j, j < k → (fun n => inB n 0 256) (I.px.getD j 0) = true) ∧ w.alloc (.cells #[.int .i64 I.w, .int .i64 I.h, .slice a I.px.length cap] 25) = wr) (fun i _ => I.px.length - (intOf i).toNat)
  case atStart => exact ⟨0, by omega, rfl, fun j h => by omega, rfl⟩
  case round =>
    obtain ⟨k, hk, rfl, hl, rfl⟩ := hrel
    have HL := hid hl
    clear hl
    by_cases hlt : k < I.px.length
    · obtain ⟨b, off, rfl, hb1, hb2, hc⟩ := HU.at hlt
      have hgd : I.px.getD k 0 = I.px[k] := by simp [hlt]
      have HG := hid hgd
      clear hgd
      cases hin : inB I.px[k] 0 256
      · go_wp2_with (go_at_call 83; refine (l01In_val hin _).mono ?_; rintro e w1 ⟨rfl, rfl⟩)
        go_ret
        refine ⟨ret_bool ?_, (by repeat (with_reducible (first | assumption | exact Ext.refl _ | apply Ext.alloc | apply Ext.drew | apply Ext.drewN)))⟩
        unfold Pic.okB
        rw [all_no hlt hin, Bool.false_and]
      · go_wp2_with (go_at_call 83; refine (l01In_val hin _).mono ?_; rintro e w1 ⟨rfl, rfl⟩)
        go_roundw
        case rel => exact ⟨k + 1, by omega, by go_num, fun j hj => by
          by_cases e : j = k
          · subst e; simp only [HG.out]; exact hin
          · exact HL.out j (by omega), by simp⟩
        case measure => simp [intOf]; omega
    · have hall : I.px.all (fun n => inB n 0 256) = true := by
        rw [List.all_eq_true]
        intro x hx
        obtain ⟨i, hi, rfl⟩ := List.getElem_of_mem hx
        have := HL.out i (by omega)
        simpa [hi] using this
      have hOK : I.okB = (inB I.w 1 12 && inB I.h 1 12 && decide ((I.px.length : Int) = I.w * I.h)) := by unfold Pic.okB; rw [hall, Bool.true_and]
      have HO := hid hOK
      clear hOK hall
      cases h1 : inB I.w 1 12
      · go_wp2_with (go_at_call 83; refine (l01In_val h1 _).mono ?_; rintro e w1 ⟨rfl, rfl⟩)
        go_ret
        exact ⟨ret_bool (by rw [HO.out, h1]; rfl), (by repeat (with_reducible (first | assumption | exact Ext.refl _ | apply Ext.alloc | apply Ext.drew | apply Ext.drewN)))⟩
      cases h1' : inB I.h 1 12
      · go_wp2_with (go_at_call 83; with_reducible first | (refine (l01In_val h1 _).mono ?_; rintro e w1 ⟨rfl, rfl⟩) | (refine (l01In_val h1' _).mono ?_; rintro e w1 ⟨rfl, rfl⟩))
        go_ret
        exact ⟨ret_bool (by rw [HO.out, h1, h1']; rfl), (by repeat (with_reducible (first | assumption | exact Ext.refl _ | apply Ext.alloc | apply Ext.drew | apply Ext.drewN)))⟩
      · have hp := prod_bd h1 h1'
        obtain ⟨P, hP⟩ : ∃ P, I.w * I.h = P := ⟨_, rfl⟩
        have HP := hid hP
        rw [hP] at hp
        by_cases h2 : (I.px.length : Int) = P
        · have e2 : ((I.px.length : Int) == P) = true := by simp [h2]
          have H2 := hid h2
          clear h2
          go_wp2_with (go_at_call 83; with_reducible first | (refine (l01In_val h1 _).mono ?_; rintro e w1 ⟨rfl, rfl⟩) | (refine (l01In_val h1' _).mono ?_; rintro e w1 ⟨rfl, rfl⟩))
          go_ret
          exact ⟨ret_bool (by rw [HO.out, h1, h1', HP.out, decide_eq_true H2.out]; rfl), (by repeat (with_reducible (first | assumption | exact Ext.refl _ | apply Ext.alloc | apply Ext.drew | apply Ext.drewN)))⟩
        · have e2 : ((I.px.length : Int) == P) = false := by simp [h2]
          have H2 := hid h2
          clear h2
          go_wp2_with (go_at_call 83; with_reducible first | (refine (l01In_val h1 _).mono ?_; rintro e w1 ⟨rfl, rfl⟩) | (refine (l01In_val h1' _).mono ?_; rintro e w1 ⟨rfl, rfl⟩))
          go_ret
          exact ⟨ret_bool (by rw [HO.out, h1, h1', HP.out, decide_eq_false H2.out]; rfl), (by repeat (with_reducible (first | assumption | exact Ext.refl _ | apply Ext.alloc | apply Ext.drew | apply Ext.drewN)))⟩
end Go.Proofs.YtodblnccgpiigaaDoor
