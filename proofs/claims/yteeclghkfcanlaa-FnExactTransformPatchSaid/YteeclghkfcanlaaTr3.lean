/- This text proves what the law's helper functions over patches compute. -/
import Derived.Test.YteeclghkfcanlaaTr1
namespace Go.Proofs.Yteeclghkfcanlaa
open Go.RowKit

theorem twelve {i : Nat} (h : i < 12) : i = 0 ∨ i = 1 ∨ i = 2 ∨ i = 3 ∨ i = 4 ∨ i = 5 ∨ i = 6 ∨ i = 7 ∨ i = 8 ∨ i = 9 ∨ i = 10 ∨ i = 11 := by omega
theorem rowI12_new {w : World} {b : Nat} {t : TypeId} {f : Nat → Int} (hb : w.heap.size = b) : RowI (w.alloc (.cells #[.int .i64 (f 0), .int .i64 (f 1), .int .i64 (f 2), .int .i64 (f 3), .int .i64 (f 4), .int .i64 (f 5), .int .i64 (f 6), .int .i64 (f 7), .int .i64 (f 8), .int .i64 (f 9), .int .i64 (f 10), .int .i64 (f 11)] t)) b t 12 f :=
  hb ▸ World.rowIs_alloc _ _ _ _ fun i hi => by rcases twelve hi with h | h | h | h | h | h | h | h | h | h | h | h <;> subst h <;> rfl

set_option maxRecDepth 20000 in
set_option maxHeartbeats 1600000 in
theorem toVecA4_val (x0 x1 x2 x3 x4 x5 x6 x7 x8 x9 x10 x11 : Int) (w : World) :
    Calls Try.prog 60 #[.agg #[.int .i64 x0, .int .i64 x1, .int .i64 x2, .int .i64 x3, .int .i64 x4, .int .i64 x5, .int .i64 x6, .int .i64 x7, .int .i64 x8, .int .i64 x9, .int .i64 x10, .int .i64 x11]] w fun e w' => e = .returned (.agg #[.int .i64 x0, .int .i64 x1, .int .i64 x2, .int .i64 x3, .int .i64 x4, .int .i64 x5, .int .i64 x6, .int .i64 x7, .int .i64 x8, .int .i64 x9, .int .i64 x10, .int .i64 x11]) ∧ Ext w w' := by
  obtain ⟨f, hf⟩ : ∃ f : Nat → Int, f = fun i => [x0, x1, x2, x3, x4, x5, x6, x7, x8, x9, x10, x11].getD i 0 := ⟨_, rfl⟩
  have f0 : f 0 = x0 := by subst hf; rfl
  have f1 : f 1 = x1 := by subst hf; rfl
  have f2 : f 2 = x2 := by subst hf; rfl
  have f3 : f 3 = x3 := by subst hf; rfl
  have f4 : f 4 = x4 := by subst hf; rfl
  have f5 : f 5 = x5 := by subst hf; rfl
  have f6 : f 6 = x6 := by subst hf; rfl
  have f7 : f 7 = x7 := by subst hf; rfl
  have f8 : f 8 = x8 := by subst hf; rfl
  have f9 : f 9 = x9 := by subst hf; rfl
  have f10 : f 10 = x10 := by subst hf; rfl
  have f11 : f 11 = x11 := by subst hf; rfl
  clear hf
  rw [← f0, ← f1, ← f2, ← f3, ← f4, ← f5, ← f6, ← f7, ← f8, ← f9, ← f10, ← f11]
  clear f0 f1 f2 f3 f4 f5 f6 f7 f8 f9 f10 f11
  go_enter Try.func60, Try.ntmps60
  go_wp2
  go_loopw [4] (fun i wr => ∃ k : Nat, k ≤ 4 ∧ i = .int .i64 k ∧ Ext w wr ∧ RowI wr w.heap.size 50 12 f ∧ RowI wr (w.heap.size + 1) 53 12 (fun _ => 0) ∧ RowI wr (w.heap.size + 1 + 1) 53 12 (fillI f (k * 3))) (fun i _ => 4 - (intOf i).toNat)
  case atStart =>
    refine ⟨0, by omega, rfl, (by repeat (with_reducible (first | assumption | exact Ext.refl _ | apply Ext.alloc | apply Ext.drew | apply Ext.drewN))), ?_, ?_, ?_⟩
    · exact ((rowI12_new rfl).alloc _).alloc _
    · exact (rowI12_new (f := fun _ => 0) (by simp)).alloc _
    · exact RowI.zero (rowI12_new (f := fun _ => 0) (by simp))
  case round =>
    obtain ⟨k, hk, rfl, hE, h1, h2, h3⟩ := hrel
    by_cases hlt : k < 4
    · have c0 := h1.cell (i := k * 3) (by omega)
      have c1 := h1.cell (i := k * 3 + 1) (by omega)
      have c2 := h1.cell (i := k * 3 + 2) (by omega)
      have H1 := hid h1
      have H2 := hid h2
      have H3 := hid h3
      have HE := hid hE
      clear h1 h2 h3 hE
      go_wp2_with fail
      refine (toVec_val (f (k * 3)) (f (k * 3 + 1)) (f (k * 3 + 2)) _).mono ?_
      rintro e w2 ⟨rfl, y2⟩
      have h3 := H3.out.ext y2
      have d0 := h3.cell (i := k * 3) (by omega)
      have d1 := h3.cell (i := k * 3 + 1) (by omega)
      have d2 := h3.cell (i := k * 3 + 2) (by omega)
      have e0 := h3.frozen (k * 3)
      have e1 := h3.frozen (k * 3 + 1)
      have e2 := h3.frozen (k * 3 + 2)
      have G1 := hid (H1.out.ext y2)
      have G2 := hid (H2.out.ext y2)
      have G3 := hid h3
      have GE := hid (HE.out.trans y2)
      clear h3 H1 H2 H3 HE y2
      go_wp2
      go_roundw
      case rel =>
        refine ⟨k + 1, by omega, by go_num, ?_, ?_, ?_, ?_⟩
        · have hE := GE.out
          exact (by repeat (first | with_reducible assumption | with_reducible exact Ext.refl _ | with_reducible apply Ext.alloc | with_reducible apply Ext.drew | with_reducible apply Ext.drewN | (with_reducible refine Ext.setCell ?_ (by simp; omega) _) | (with_reducible refine Ext.setCell ?_ (by simp) _)))
        · exact ((G1.out.other (by simp; omega) _).other (by simp; omega) _).other (by simp; omega) _
        · exact ((G2.out.other (by simp) _).other (by simp) _).other (by simp) _
        · rw [Nat.add_mul, Nat.one_mul]
          exact RowI.step (RowI.step (RowI.step G3.out rfl rfl) rfl rfl) rfl rfl
      case measure => simp [intOf]; omega
    · obtain rfl : k = 4 := by omega
      have h3 := h3.full
      have c0 := h3.cell (i := 0) (by decide)
      have d0 := h2.cell (i := 0) (by decide)
      have e0 := h2.frozen 0
      have c1 := h3.cell (i := 1) (by decide)
      have d1 := h2.cell (i := 1) (by decide)
      have e1 := h2.frozen 1
      have c2 := h3.cell (i := 2) (by decide)
      have d2 := h2.cell (i := 2) (by decide)
      have e2 := h2.frozen 2
      have c3 := h3.cell (i := 3) (by decide)
      have d3 := h2.cell (i := 3) (by decide)
      have e3 := h2.frozen 3
      have c4 := h3.cell (i := 4) (by decide)
      have d4 := h2.cell (i := 4) (by decide)
      have e4 := h2.frozen 4
      have c5 := h3.cell (i := 5) (by decide)
      have d5 := h2.cell (i := 5) (by decide)
      have e5 := h2.frozen 5
      have c6 := h3.cell (i := 6) (by decide)
      have d6 := h2.cell (i := 6) (by decide)
      have e6 := h2.frozen 6
      have c7 := h3.cell (i := 7) (by decide)
      have d7 := h2.cell (i := 7) (by decide)
      have e7 := h2.frozen 7
      have c8 := h3.cell (i := 8) (by decide)
      have d8 := h2.cell (i := 8) (by decide)
      have e8 := h2.frozen 8
      have c9 := h3.cell (i := 9) (by decide)
      have d9 := h2.cell (i := 9) (by decide)
      have e9 := h2.frozen 9
      have c10 := h3.cell (i := 10) (by decide)
      have d10 := h2.cell (i := 10) (by decide)
      have e10 := h2.frozen 10
      have c11 := h3.cell (i := 11) (by decide)
      have d11 := h2.cell (i := 11) (by decide)
      have e11 := h2.frozen 11
      have HE := hid hE
      clear h1 h2 h3 hE
      go_wp2
      exact bodyPost_ret (v := .agg #[.int .i64 (f 0), .int .i64 (f 1), .int .i64 (f 2), .int .i64 (f 3), .int .i64 (f 4), .int .i64 (f 5), .int .i64 (f 6), .int .i64 (f 7), .int .i64 (f 8), .int .i64 (f 9), .int .i64 (f 10), .int .i64 (f 11)]) (by simp [results, Try.results60, go_sem, *]) rfl ⟨rfl, by have hE := HE.out; exact (by repeat (first | with_reducible assumption | with_reducible exact Ext.refl _ | with_reducible apply Ext.alloc | with_reducible apply Ext.drew | with_reducible apply Ext.drewN | (with_reducible refine Ext.setCell ?_ (by simp; omega) _) | (with_reducible refine Ext.setCell ?_ (by simp) _)))⟩

set_option maxRecDepth 20000 in
set_option maxHeartbeats 1600000 in
theorem eqVecA4_same (x0 x1 x2 x3 x4 x5 x6 x7 x8 x9 x10 x11 : Int) (w : World) :
    Calls Try.prog 61 #[.agg #[.int .i64 x0, .int .i64 x1, .int .i64 x2, .int .i64 x3, .int .i64 x4, .int .i64 x5, .int .i64 x6, .int .i64 x7, .int .i64 x8, .int .i64 x9, .int .i64 x10, .int .i64 x11], .agg #[.int .i64 x0, .int .i64 x1, .int .i64 x2, .int .i64 x3, .int .i64 x4, .int .i64 x5, .int .i64 x6, .int .i64 x7, .int .i64 x8, .int .i64 x9, .int .i64 x10, .int .i64 x11]] w fun e w' => e = .returned (.bool true) ∧ Ext w w' := by
  obtain ⟨f, hf⟩ : ∃ f : Nat → Int, f = fun i => [x0, x1, x2, x3, x4, x5, x6, x7, x8, x9, x10, x11].getD i 0 := ⟨_, rfl⟩
  have f0 : f 0 = x0 := by subst hf; rfl
  have f1 : f 1 = x1 := by subst hf; rfl
  have f2 : f 2 = x2 := by subst hf; rfl
  have f3 : f 3 = x3 := by subst hf; rfl
  have f4 : f 4 = x4 := by subst hf; rfl
  have f5 : f 5 = x5 := by subst hf; rfl
  have f6 : f 6 = x6 := by subst hf; rfl
  have f7 : f 7 = x7 := by subst hf; rfl
  have f8 : f 8 = x8 := by subst hf; rfl
  have f9 : f 9 = x9 := by subst hf; rfl
  have f10 : f 10 = x10 := by subst hf; rfl
  have f11 : f 11 = x11 := by subst hf; rfl
  clear hf
  rw [← f0, ← f1, ← f2, ← f3, ← f4, ← f5, ← f6, ← f7, ← f8, ← f9, ← f10, ← f11]
  clear f0 f1 f2 f3 f4 f5 f6 f7 f8 f9 f10 f11
  go_enter Try.func61, Try.ntmps61
  go_wp2
  go_loopw [5] (fun i wr => ∃ k : Nat, k ≤ 4 ∧ i = .int .i64 k ∧ Ext w wr ∧ RowI wr w.heap.size 53 12 f ∧ RowI wr (w.heap.size + 1) 53 12 f) (fun i _ => 4 - (intOf i).toNat)
  case atStart =>
    exact ⟨0, by omega, rfl, (by repeat (with_reducible (first | assumption | exact Ext.refl _ | apply Ext.alloc | apply Ext.drew | apply Ext.drewN))), (rowI12_new rfl).alloc _, rowI12_new (by simp)⟩
  case round =>
    obtain ⟨k, hk, rfl, hE, h1, h2⟩ := hrel
    by_cases hlt : k < 4
    · have c0 := h1.cell (i := k * 3) (by omega)
      have c1 := h1.cell (i := k * 3 + 1) (by omega)
      have c2 := h1.cell (i := k * 3 + 2) (by omega)
      have d0 := h2.cell (i := k * 3) (by omega)
      have d1 := h2.cell (i := k * 3 + 1) (by omega)
      have d2 := h2.cell (i := k * 3 + 2) (by omega)
      have s1 := h1.lt
      have s2 := h2.lt
      have H1 := hid h1
      have H2 := hid h2
      have HE := hid hE
      clear h1 h2 hE
      go_wp2
      refine wp_region_ext (by kernel_rfl) (by kernel_rfl) ?_
      repeat (go_big_quiet_step ((go_at_call 13; exact grow_call (eqVec_same _ _ _ _))))
      refine wpQuiet_nil ?_
      intro w1 y1
      go_wp2
      go_roundw
      case rel => exact ⟨k + 1, by omega, by go_num, HE.out.trans y1, H1.out.ext y1, H2.out.ext y1⟩
      case measure => simp [intOf]; omega
    · go_wp2
      go_ret
      exact ⟨rfl, hE⟩

set_option maxRecDepth 20000 in
set_option maxHeartbeats 1600000 in
theorem toPatch_val (x0 x1 x2 x3 x4 x5 x6 x7 x8 x9 x10 x11 : Int) (w : World) :
    Calls Try.prog 25 #[.agg #[.int .i64 x0, .int .i64 x1, .int .i64 x2, .int .i64 x3, .int .i64 x4, .int .i64 x5, .int .i64 x6, .int .i64 x7, .int .i64 x8, .int .i64 x9, .int .i64 x10, .int .i64 x11]] w fun e w' => e = .returned (.agg #[.int .i64 x0, .int .i64 x1, .int .i64 x2, .int .i64 x3, .int .i64 x4, .int .i64 x5, .int .i64 x6, .int .i64 x7, .int .i64 x8, .int .i64 x9, .int .i64 x10, .int .i64 x11]) ∧ Ext w w' := by
  go_enter Try.func25, Try.ntmps25
  go_wp2_with fail
  refine (toVecA4_val x0 x1 x2 x3 x4 x5 x6 x7 x8 x9 x10 x11 _).mono ?_
  rintro e w1 ⟨rfl, h1⟩
  obtain ⟨c1, f1⟩ := h1.cells
  have z1 := h1.size
  simp only [World.size_alloc] at z1
  have E1 : Ext w w1 := Ext.trans (by repeat (with_reducible (first | assumption | exact Ext.refl _ | apply Ext.alloc | apply Ext.drew | apply Ext.drewN))) h1
  have k1 : w.heap.size < w1.heap.size := by omega
  have k2 : w.heap.size + 1 < w1.heap.size := by omega
  have k3 : w.heap.size + 1 + 1 < w1.heap.size := by omega
  go_wp2
  exact bodyPost_ret (v := .agg #[.int .i64 x0, .int .i64 x1, .int .i64 x2, .int .i64 x3, .int .i64 x4, .int .i64 x5, .int .i64 x6, .int .i64 x7, .int .i64 x8, .int .i64 x9, .int .i64 x10, .int .i64 x11]) (by simp [results, Try.results25, go_sem, *]) rfl ⟨rfl, (by repeat (first | with_reducible assumption | with_reducible exact Ext.refl _ | with_reducible apply Ext.alloc | with_reducible apply Ext.drew | with_reducible apply Ext.drewN | (with_reducible refine Ext.setCell ?_ (by simp; omega) _) | (with_reducible refine Ext.setCell ?_ (by simp) _)))⟩

set_option maxRecDepth 20000 in
set_option maxHeartbeats 1600000 in
theorem eqPatch_same (x0 x1 x2 x3 x4 x5 x6 x7 x8 x9 x10 x11 : Int) (w : World) :
    Calls Try.prog 27 #[.agg #[.int .i64 x0, .int .i64 x1, .int .i64 x2, .int .i64 x3, .int .i64 x4, .int .i64 x5, .int .i64 x6, .int .i64 x7, .int .i64 x8, .int .i64 x9, .int .i64 x10, .int .i64 x11], .agg #[.int .i64 x0, .int .i64 x1, .int .i64 x2, .int .i64 x3, .int .i64 x4, .int .i64 x5, .int .i64 x6, .int .i64 x7, .int .i64 x8, .int .i64 x9, .int .i64 x10, .int .i64 x11]] w fun e w' => e = .returned (.bool true) ∧ Ext w w' := by
  go_enter Try.func27, Try.ntmps27
  go_wp2_with fail
  refine (eqVecA4_same x0 x1 x2 x3 x4 x5 x6 x7 x8 x9 x10 x11 _).mono ?_
  rintro e w1 ⟨rfl, h1⟩
  go_wp2
  go_ret
  exact ⟨rfl, Ext.trans (by repeat (with_reducible (first | assumption | exact Ext.refl _ | apply Ext.alloc | apply Ext.drew | apply Ext.drewN))) h1⟩
end Go.Proofs.Yteeclghkfcanlaa
