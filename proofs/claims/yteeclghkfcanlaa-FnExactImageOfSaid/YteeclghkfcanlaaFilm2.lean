/- This text proves when a film is complete: the program's word and the reference's. -/
import Derived.Test.YteeclghkfcanlaaFilm
namespace Go.Proofs.Yteeclghkfcanlaa
open Go.RowKit

set_option maxHeartbeats 1600000 in
theorem boolIndex_any (lo hi : Nat) (u : Value) (n : Nat) (f : Nat → Bool) (w : World) (hu : Bools lo hi w u n f) (hh : hi ≤ w.heap.size) :
    Calls Try.prog 125 #[u, .bool false] w fun e w' => ∃ r : Int, e = .returned (.int .i64 r) ∧ ((List.range n).all f = false ↔ 0 ≤ r) ∧ Ext w w' := by
  obtain ⟨a, cap, rfl, HU⟩ := hu.open
  have hle := HU.le
  have hcap := HU.cap
  clear hu
  go_enter Try.func125, Try.ntmps125
  go_wp2
  go_loopw [8] (fun i wr => ∃ k : Nat, k ≤ n ∧ i = .int .i64 k ∧ (∀ j, j < k → f j = true) ∧ Ext w wr) (fun i _ => n - (intOf i).toNat)
  case atStart => exact ⟨0, by omega, rfl, fun i h => by omega, (by repeat (with_reducible (first | assumption | exact Ext.refl _ | apply Ext.alloc | apply Ext.drew | apply Ext.drewN)))⟩
  case round =>
    obtain ⟨k, hk, rfl, hl, hx⟩ := hrel
    have HX := hid hx
    have HL := hid hl
    clear hl
    by_cases hlt : k < n
    · obtain ⟨b, off, rfl, hb1, hb2, hc⟩ := HU.cell k hlt
      have c0 := (hx.cells.1 b _ (by omega)).trans hc
      have s1 : b < wr.heap.size := by have := hx.size; omega
      clear hc hx
      cases hf : f k
      · rw [hf] at c0
        have HF := hid (range_all_no hlt hf)
        clear hf
        go_wp2
        go_ret
        exact ⟨k, rfl, ⟨fun _ => by omega, fun _ => HF.out⟩, HX.out⟩
      · rw [hf] at c0
        have HF := hid hf
        clear hf
        go_wp2
        go_roundw
        case rel => exact ⟨k + 1, by omega, by go_num, fun j hj => by
          by_cases e : j = k
          · subst e; exact HF.out
          · exact HL.out j (by omega), HX.out⟩
        case measure => simp [intOf]; omega
    · clear hx
      go_wp2
      go_ret
      exact ⟨-1, rfl, ⟨fun h => (by rw [range_all_take (fun i hi => HL.out i (by omega))] at h; cases h), fun h => by omega⟩, HX.out⟩

set_option maxHeartbeats 800000 in
theorem boolContains_any (lo hi : Nat) (u : Value) (n : Nat) (f : Nat → Bool) (w : World) (hu : Bools lo hi w u n f) (hh : hi ≤ w.heap.size) :
    Calls Try.prog 100 #[u, .bool false] w fun e w' => e = .returned (.bool (!(List.range n).all f)) ∧ Ext w w' := by
  have HU := hid hu
  obtain ⟨a, cap, rfl, _⟩ := hu.open
  clear hu
  go_enter Try.func100, Try.ntmps100
  go_wp2_with fail
  refine (boolIndex_any lo hi _ n f _ (HU.out.ext hh (by repeat (with_reducible (first | assumption | exact Ext.refl _ | apply Ext.alloc | apply Ext.drew | apply Ext.drewN)))) (by first | exact hh | (simp; omega))).mono ?_
  rintro e w1 ⟨r, rfl, hr, h1⟩
  have HR := hid hr
  clear hr
  go_wp2
  go_ret
  refine ⟨ret_bool ?_, Ext.trans (by repeat (with_reducible (first | assumption | exact Ext.refl _ | apply Ext.alloc | apply Ext.drew | apply Ext.drewN))) h1⟩
  cases ha : (List.range n).all f
  · have := HR.out.1 ha
    simp [this]
  · have : ¬ 0 ≤ r := fun h => by have := HR.out.2 h; rw [ha] at this; cases this
    simp; omega

set_option maxHeartbeats 800000 in
theorem iIsComplete_val {F : Fm} {r : Bool} (hr : F.done = r) (lo hi : Nat) (v : Value) (w : World) (hv : F.R lo hi w v) (hh : hi ≤ w.heap.size) :
    Calls Try.prog 52 #[v] w fun e w' => e = .returned (.bool r) ∧ Ext w w' := by
  subst hr
  have HV := hid hv
  obtain ⟨u, d, rfl, _, _, hu, hd⟩ := hv
  have HD := hid hd
  obtain ⟨a, cap, rfl, _⟩ := hu.open
  obtain ⟨a', cap', rfl, _⟩ := hd.open
  have HI := fun (r : Bool) (hr : F.okB = r) (w0 : World) hv hh => hr ▸ iIsValidFilm_any lo hi (.agg #[.int .i64 F.w, .int .i64 F.h, .slice a F.px.length cap, .slice a' F.n cap']) F w0 hv hh
  clear hu hd
  cases h1 : F.okB
  · have e : F.done = false := by unfold Fm.done; rw [h1]; rfl
    rw [e]
    have HI := hid (HI false h1)
    clear e h1
    go_enter Try.func52, Try.ntmps52
    go_wp2_with fail
    refine (HI.out _ (HV.out.ext hh (by repeat (with_reducible (first | assumption | exact Ext.refl _ | apply Ext.alloc | apply Ext.drew | apply Ext.drewN)))) (by simp; omega)).mono ?_
    rintro e w1 ⟨rfl, h1⟩
    go_wp2
    go_ret
    exact ⟨rfl, Ext.trans (by repeat (with_reducible (first | assumption | exact Ext.refl _ | apply Ext.alloc | apply Ext.drew | apply Ext.drewN))) h1⟩
  · have e : F.done = (List.range F.n).all F.dn := by unfold Fm.done; rw [h1]; rfl
    rw [e]
    have HI := hid (HI true h1)
    have HC := fun (w0 : World) hu hh => boolContains_any lo hi (.slice a' F.n cap') F.n F.dn w0 hu hh
    obtain ⟨b, hb⟩ : ∃ b, (List.range F.n).all F.dn = b := ⟨_, rfl⟩
    rw [hb]
    simp only [hb] at HC
    have HC := hid HC
    clear e h1 hb
    go_enter Try.func52, Try.ntmps52
    go_wp2_with fail
    refine (HI.out _ (HV.out.ext hh (by repeat (with_reducible (first | assumption | exact Ext.refl _ | apply Ext.alloc | apply Ext.drew | apply Ext.drewN)))) (by simp; omega)).mono ?_
    rintro e w1 ⟨rfl, h1⟩
    obtain ⟨c1, f1⟩ := h1.cells
    have z1 := h1.size
    simp only [World.size_alloc] at z1
    have q1 : w.heap.size < w1.heap.size := by omega
    go_wp2_with fail
    refine (HC.out _ (HD.out.ext hh (Ext.trans (by repeat (with_reducible (first | assumption | exact Ext.refl _ | apply Ext.alloc | apply Ext.drew | apply Ext.drewN))) h1)) (by omega)).mono ?_
    rintro e w2 ⟨rfl, h2⟩
    cases b
    all_goals go_wp2
    all_goals go_ret
    all_goals exact ⟨rfl, (Ext.trans (by repeat (with_reducible (first | assumption | exact Ext.refl _ | apply Ext.alloc | apply Ext.drew | apply Ext.drewN))) h1).trans h2⟩

set_option maxHeartbeats 1600000 in
theorem sIsComplete_val {F : Fm} {r : Bool} (hr : F.done = r) (lo hi : Nat) (v : Value) (w : World) (hv : F.R lo hi w v) (hh : hi ≤ w.heap.size) :
    Calls Try.prog 49 #[v] w fun e w' => e = .returned (.bool r) ∧ Ext w w' := by
  subst hr
  have HV := hid hv
  obtain ⟨u, d, rfl, _, _, hu, hd⟩ := hv
  obtain ⟨a, cap, rfl, _⟩ := hu.open
  obtain ⟨a', cap', rfl, HD⟩ := hd.open
  have hle := HD.le
  have hcap := HD.cap
  have HI := fun (w0 : World) hv hh => sIsValidFilm_any lo hi (.agg #[.int .i64 F.w, .int .i64 F.h, .slice a F.px.length cap, .slice a' F.n cap']) F w0 hv hh
  clear hu hd
  obtain ⟨b, hb⟩ : ∃ b, F.okB = b := ⟨_, rfl⟩
  simp only [hb] at HI
  have HI := hid HI
  have e : F.done = (b && (List.range F.n).all F.dn) := by unfold Fm.done; rw [hb]
  rw [e]
  clear e hb
  go_enter Try.func49, Try.ntmps49
  go_wp2
  go_loopw [8] (fun i wr => ∃ k : Nat, k ≤ F.n ∧ i = .int .i64 k ∧ (∀ j, j < k → F.dn j = true) ∧ w.alloc (.cells #[.int .i64 F.w, .int .i64 F.h, .slice a F.px.length cap, .slice a' F.n cap'] 43) = wr) (fun i _ => F.n - (intOf i).toNat)
  case atStart => exact ⟨0, by omega, rfl, fun i h => by omega, rfl⟩
  case round =>
    obtain ⟨k, hk, rfl, hl, rfl⟩ := hrel
    have HL := hid hl
    clear hl
    by_cases hlt : k < F.n
    · obtain ⟨b0, off, rfl, hb1, hb2, hc⟩ := HD.cell k hlt
      have c0 := (((Ext.refl w).alloc (.cells #[.int .i64 F.w, .int .i64 F.h, .slice a F.px.length cap, .slice (some ⟨b0, off, none⟩) F.n cap'] 43)).cells.1 b0 _ (by omega)).trans hc
      have s1 : b0 < w.heap.size := by omega
      have HC0 := hid c0
      clear c0
      cases hf : F.dn k
      · rw [hf] at hc
        have HF := hid (range_all_no hlt hf)
        clear hf
        go_wp2
        go_ret
        exact ⟨ret_bool (by rw [HF.out, Bool.and_false]), (by repeat (with_reducible (first | assumption | exact Ext.refl _ | apply Ext.alloc | apply Ext.drew | apply Ext.drewN)))⟩
      · rw [hf] at hc
        have HF := hid hf
        clear hf
        go_wp2
        go_roundw
        case rel => exact ⟨k + 1, by omega, by go_num, fun j hj => by
          by_cases e : j = k
          · subst e; exact HF.out
          · exact HL.out j (by omega), by simp⟩
        case measure => simp [intOf]; omega
    · go_wp2_with fail
      refine (HI.out _ (HV.out.ext hh (by repeat (with_reducible (first | assumption | exact Ext.refl _ | apply Ext.alloc | apply Ext.drew | apply Ext.drewN)))) (by simp; omega)).mono ?_
      rintro e w1 ⟨rfl, h1⟩
      go_wp2
      go_ret
      exact ⟨ret_bool (by rw [range_all_take (fun i hi => HL.out i (by omega)), Bool.and_true]), Ext.trans (by repeat (with_reducible (first | assumption | exact Ext.refl _ | apply Ext.alloc | apply Ext.drew | apply Ext.drewN))) h1⟩
end Go.Proofs.Yteeclghkfcanlaa
