/- This text proves what the law's helper functions over vectors and transforms compute. -/
import Derived.Test.YteeclghkfcanlaaFlat
import Derived.Test.YteeclghkfcanlaaL04a
namespace Go.Proofs.Yteeclghkfcanlaa
open Go.RowKit

set_option maxHeartbeats 800000 in
theorem toVec_val (x y z : Int) (w : World) : Calls Try.prog 11 #[.agg #[.int .i64 x, .int .i64 y, .int .i64 z]] w fun e w' => e = .returned (.agg #[.int .i64 x, .int .i64 y, .int .i64 z]) ∧ Ext w w' := by
  go_enter Try.func11, Try.ntmps11
  go_wp2
  exact bodyPost_ret (v := .agg #[.int .i64 x, .int .i64 y, .int .i64 z]) (by simp [results, Try.results11, go_sem]) rfl ⟨rfl, (by repeat (first | with_reducible assumption | with_reducible exact Ext.refl _ | with_reducible apply Ext.alloc | with_reducible apply Ext.drew | with_reducible apply Ext.drewN | (with_reducible refine Ext.setCell ?_ (by simp; omega) _) | (with_reducible refine Ext.setCell ?_ (by simp) _)))⟩

set_option maxHeartbeats 800000 in
theorem eqVec_same (x y z : Int) (w : World) : Calls Try.prog 13 #[.agg #[.int .i64 x, .int .i64 y, .int .i64 z], .agg #[.int .i64 x, .int .i64 y, .int .i64 z]] w fun e w' => e = .returned (.bool true) ∧ Ext w w' := by
  go_enter Try.func13, Try.ntmps13
  go_wp2
  go_ret
  exact ⟨rfl, (by repeat (with_reducible (first | assumption | exact Ext.refl _ | apply Ext.alloc | apply Ext.drew | apply Ext.drewN)))⟩

theorem nine {i : Nat} (h : i < 9) : i = 0 ∨ i = 1 ∨ i = 2 ∨ i = 3 ∨ i = 4 ∨ i = 5 ∨ i = 6 ∨ i = 7 ∨ i = 8 := by omega
theorem rowI9_new {w : World} {b : Nat} {t : TypeId} {f : Nat → Int} (hb : w.heap.size = b) : RowI (w.alloc (.cells #[.int .i64 (f 0), .int .i64 (f 1), .int .i64 (f 2), .int .i64 (f 3), .int .i64 (f 4), .int .i64 (f 5), .int .i64 (f 6), .int .i64 (f 7), .int .i64 (f 8)] t)) b t 9 f :=
  hb ▸ World.rowIs_alloc _ _ _ _ fun i hi => by rcases nine hi with h | h | h | h | h | h | h | h | h <;> subst h <;> rfl

set_option maxRecDepth 20000 in
set_option maxHeartbeats 1600000 in
theorem toIntA9_val (x0 x1 x2 x3 x4 x5 x6 x7 x8 : Int) (w : World) :
    Calls Try.prog 91 #[.agg #[.int .i64 x0, .int .i64 x1, .int .i64 x2, .int .i64 x3, .int .i64 x4, .int .i64 x5, .int .i64 x6, .int .i64 x7, .int .i64 x8]] w
      fun e w' => e = .returned (.agg #[.int .i64 x0, .int .i64 x1, .int .i64 x2, .int .i64 x3, .int .i64 x4, .int .i64 x5, .int .i64 x6, .int .i64 x7, .int .i64 x8]) ∧ Ext w w' := by
  obtain ⟨f, hf⟩ : ∃ f : Nat → Int, f = fun i => [x0, x1, x2, x3, x4, x5, x6, x7, x8].getD i 0 := ⟨_, rfl⟩
  have f0 : f 0 = x0 := by subst hf; rfl
  have f1 : f 1 = x1 := by subst hf; rfl
  have f2 : f 2 = x2 := by subst hf; rfl
  have f3 : f 3 = x3 := by subst hf; rfl
  have f4 : f 4 = x4 := by subst hf; rfl
  have f5 : f 5 = x5 := by subst hf; rfl
  have f6 : f 6 = x6 := by subst hf; rfl
  have f7 : f 7 = x7 := by subst hf; rfl
  have f8 : f 8 = x8 := by subst hf; rfl
  clear hf
  rw [← f0, ← f1, ← f2, ← f3, ← f4, ← f5, ← f6, ← f7, ← f8]
  clear f0 f1 f2 f3 f4 f5 f6 f7 f8
  go_enter Try.func91, Try.ntmps91
  go_wp2
  go_loopw [4] (fun i wr => ∃ k : Nat, k ≤ 9 ∧ i = .int .i64 k ∧ Ext w wr ∧ RowI wr w.heap.size 83 9 f ∧ RowI wr (w.heap.size + 1) 83 9 (fun _ => 0) ∧ RowI wr (w.heap.size + 1 + 1) 83 9 (fillI f k)) (fun i _ => 9 - (intOf i).toNat)
  case atStart =>
    refine ⟨0, by omega, rfl, (by repeat (with_reducible (first | assumption | exact Ext.refl _ | apply Ext.alloc | apply Ext.drew | apply Ext.drewN))), ?_, ?_, ?_⟩
    · exact ((rowI9_new rfl).alloc _).alloc _
    · exact (rowI9_new (f := fun _ => 0) (by simp)).alloc _
    · exact RowI.zero (rowI9_new (f := fun _ => 0) (by simp))
  case round =>
    obtain ⟨k, hk, rfl, hE, h1, h2, h3⟩ := hrel
    by_cases hlt : k < 9
    · have c1 := h1.cell hlt
      have c3 := h3.cell hlt
      have g3 := h3.frozen k
      have H1 := hid h1
      have H2 := hid h2
      have H3 := hid h3
      have HE := hid hE
      clear h1 h2 h3 hE
      go_wp2
      go_roundw
      case rel => exact ⟨k + 1, by omega, by go_num, Ext.setCell HE.out (by simp; omega) _, RowI.other H1.out (by simp; omega) _, RowI.other H2.out (by simp) _, RowI.step H3.out rfl rfl⟩
      case measure => simp [intOf]; omega
    · obtain rfl : k = 9 := by omega
      have h3 := h3.full
      have c0 := h3.cell (i := 0) (by decide)
      have d0 := h2.cell (i := 0) (by decide)
      have e0 := h2.frozen 0
      have c1 := h3.cell (i := 1) (by decide)
      have d1 := h2.cell (i := 1) (by decide)
      have e1 := h2.frozen 1
      have c2 := h3.cell (i := 2) (by decide)
      have d2 := h2.cell (i := 2) (by decide)
      have e2 := h2.frozen 2
      have c3 := h3.cell (i := 3) (by decide)
      have d3 := h2.cell (i := 3) (by decide)
      have e3 := h2.frozen 3
      have c4 := h3.cell (i := 4) (by decide)
      have d4 := h2.cell (i := 4) (by decide)
      have e4 := h2.frozen 4
      have c5 := h3.cell (i := 5) (by decide)
      have d5 := h2.cell (i := 5) (by decide)
      have e5 := h2.frozen 5
      have c6 := h3.cell (i := 6) (by decide)
      have d6 := h2.cell (i := 6) (by decide)
      have e6 := h2.frozen 6
      have c7 := h3.cell (i := 7) (by decide)
      have d7 := h2.cell (i := 7) (by decide)
      have e7 := h2.frozen 7
      have c8 := h3.cell (i := 8) (by decide)
      have d8 := h2.cell (i := 8) (by decide)
      have e8 := h2.frozen 8
      have HE := hid hE
      clear h1 h2 h3 hE
      go_wp2
      exact bodyPost_ret (v := .agg #[.int .i64 (f 0), .int .i64 (f 1), .int .i64 (f 2), .int .i64 (f 3), .int .i64 (f 4), .int .i64 (f 5), .int .i64 (f 6), .int .i64 (f 7), .int .i64 (f 8)]) (by simp [results, Try.results91, go_sem, *]) rfl ⟨rfl, by have hE := HE.out; exact (by repeat (first | with_reducible assumption | with_reducible exact Ext.refl _ | with_reducible apply Ext.alloc | with_reducible apply Ext.drew | with_reducible apply Ext.drewN | (with_reducible refine Ext.setCell ?_ (by simp; omega) _) | (with_reducible refine Ext.setCell ?_ (by simp) _)))⟩

set_option maxRecDepth 20000 in
set_option maxHeartbeats 1600000 in
theorem eqIntA9_same (x0 x1 x2 x3 x4 x5 x6 x7 x8 : Int) (w : World) :
    Calls Try.prog 97 #[.agg #[.int .i64 x0, .int .i64 x1, .int .i64 x2, .int .i64 x3, .int .i64 x4, .int .i64 x5, .int .i64 x6, .int .i64 x7, .int .i64 x8], .agg #[.int .i64 x0, .int .i64 x1, .int .i64 x2, .int .i64 x3, .int .i64 x4, .int .i64 x5, .int .i64 x6, .int .i64 x7, .int .i64 x8]] w
      fun e w' => e = .returned (.bool true) ∧ Ext w w' := by
  obtain ⟨f, hf⟩ : ∃ f : Nat → Int, f = fun i => [x0, x1, x2, x3, x4, x5, x6, x7, x8].getD i 0 := ⟨_, rfl⟩
  have f0 : f 0 = x0 := by subst hf; rfl
  have f1 : f 1 = x1 := by subst hf; rfl
  have f2 : f 2 = x2 := by subst hf; rfl
  have f3 : f 3 = x3 := by subst hf; rfl
  have f4 : f 4 = x4 := by subst hf; rfl
  have f5 : f 5 = x5 := by subst hf; rfl
  have f6 : f 6 = x6 := by subst hf; rfl
  have f7 : f 7 = x7 := by subst hf; rfl
  have f8 : f 8 = x8 := by subst hf; rfl
  clear hf
  rw [← f0, ← f1, ← f2, ← f3, ← f4, ← f5, ← f6, ← f7, ← f8]
  clear f0 f1 f2 f3 f4 f5 f6 f7 f8
  go_enter Try.func97, Try.ntmps97
  go_wp2
  go_loopw [5] (fun i wr => ∃ k : Nat, k ≤ 9 ∧ i = .int .i64 k ∧ Ext w wr ∧ RowI wr w.heap.size 83 9 f ∧ RowI wr (w.heap.size + 1) 83 9 f) (fun i _ => 9 - (intOf i).toNat)
  case atStart =>
    exact ⟨0, by omega, rfl, (by repeat (with_reducible (first | assumption | exact Ext.refl _ | apply Ext.alloc | apply Ext.drew | apply Ext.drewN))), (rowI9_new rfl).alloc _, rowI9_new (by simp)⟩
  case round =>
    obtain ⟨k, hk, rfl, hE, h1, h2⟩ := hrel
    by_cases hlt : k < 9
    · have c1 := h1.cell hlt
      have c3 := h2.cell hlt
      have H1 := hid h1
      have H2 := hid h2
      have HE := hid hE
      clear h1 h2 hE
      go_wp2
      go_quiet (fail)
      go_wp2
      go_roundw
      case rel => exact ⟨k + 1, by omega, by go_num, Ext.drewN HE.out _, H1.out.ext ((Ext.refl _).drewN _), H2.out.ext ((Ext.refl _).drewN _)⟩
      case measure => simp [intOf]; omega
    · go_wp2
      go_ret
      exact ⟨rfl, hE⟩

set_option maxRecDepth 20000 in
set_option maxHeartbeats 1600000 in
theorem toTransform_val (m0 m1 m2 m3 m4 m5 m6 m7 m8 o1 o2 o3 : Int) (w : World) :
    Calls Try.prog 44 #[.agg #[.int .i64 m0, .int .i64 m1, .int .i64 m2, .int .i64 m3, .int .i64 m4, .int .i64 m5, .int .i64 m6, .int .i64 m7, .int .i64 m8, .int .i64 o1, .int .i64 o2, .int .i64 o3]] w
      fun e w' => e = .returned (.agg #[.int .i64 m0, .int .i64 m1, .int .i64 m2, .int .i64 m3, .int .i64 m4, .int .i64 m5, .int .i64 m6, .int .i64 m7, .int .i64 m8, .int .i64 o1, .int .i64 o2, .int .i64 o3]) ∧ Ext w w' := by
  go_enter Try.func44, Try.ntmps44
  go_wp2_with fail
  refine (toIntA9_val m0 m1 m2 m3 m4 m5 m6 m7 m8 _).mono ?_
  rintro e w1 ⟨rfl, h1⟩
  obtain ⟨c1, f1⟩ := h1.cells
  have z1 := h1.size
  simp only [World.size_alloc] at z1
  have E1 : Ext w w1 := Ext.trans (by repeat (with_reducible (first | assumption | exact Ext.refl _ | apply Ext.alloc | apply Ext.drew | apply Ext.drewN))) h1
  have k1 : w.heap.size < w1.heap.size := by omega
  have k2 : w.heap.size + 1 < w1.heap.size := by omega
  have k3 : w.heap.size + 1 + 1 < w1.heap.size := by omega
  go_wp2_with fail
  refine (toVec_val o1 o2 o3 _).mono ?_
  rintro e w2 ⟨rfl, h2⟩
  obtain ⟨c2, f2⟩ := h2.cells
  have z2 := h2.size
  simp at z2
  have E2 : Ext w w2 := Ext.trans (by repeat (first | with_reducible assumption | with_reducible exact Ext.refl _ | with_reducible apply Ext.alloc | with_reducible apply Ext.drew | with_reducible apply Ext.drewN | (with_reducible refine Ext.setCell ?_ (by simp; omega) _) | (with_reducible refine Ext.setCell ?_ (by simp) _))) h2
  have k4 : w.heap.size < w2.heap.size := by omega
  have k5 : w.heap.size + 1 < w2.heap.size := by omega
  have k6 : w.heap.size + 1 + 1 < w2.heap.size := by omega
  go_wp2
  exact bodyPost_ret (v := .agg #[.int .i64 m0, .int .i64 m1, .int .i64 m2, .int .i64 m3, .int .i64 m4, .int .i64 m5, .int .i64 m6, .int .i64 m7, .int .i64 m8, .int .i64 o1, .int .i64 o2, .int .i64 o3]) (by simp [results, Try.results44, go_sem, *]) rfl ⟨rfl, (by repeat (first | with_reducible assumption | with_reducible exact Ext.refl _ | with_reducible apply Ext.alloc | with_reducible apply Ext.drew | with_reducible apply Ext.drewN | (with_reducible refine Ext.setCell ?_ (by simp; omega) _) | (with_reducible refine Ext.setCell ?_ (by simp) _)))⟩

set_option maxRecDepth 20000 in
set_option maxHeartbeats 1600000 in
theorem eqTransform_same (m0 m1 m2 m3 m4 m5 m6 m7 m8 o1 o2 o3 : Int) (w : World) :
    Calls Try.prog 46 #[.agg #[.int .i64 m0, .int .i64 m1, .int .i64 m2, .int .i64 m3, .int .i64 m4, .int .i64 m5, .int .i64 m6, .int .i64 m7, .int .i64 m8, .int .i64 o1, .int .i64 o2, .int .i64 o3], .agg #[.int .i64 m0, .int .i64 m1, .int .i64 m2, .int .i64 m3, .int .i64 m4, .int .i64 m5, .int .i64 m6, .int .i64 m7, .int .i64 m8, .int .i64 o1, .int .i64 o2, .int .i64 o3]] w
      fun e w' => e = .returned (.bool true) ∧ Ext w w' := by
  go_enter Try.func46, Try.ntmps46
  go_wp2_with fail
  refine (eqIntA9_same m0 m1 m2 m3 m4 m5 m6 m7 m8 _).mono ?_
  rintro e w1 ⟨rfl, h1⟩
  obtain ⟨c1, f1⟩ := h1.cells
  have z1 := h1.size
  simp only [World.size_alloc] at z1
  have E1 : Ext w w1 := Ext.trans (by repeat (with_reducible (first | assumption | exact Ext.refl _ | apply Ext.alloc | apply Ext.drew | apply Ext.drewN))) h1
  have k1 : w.heap.size < w1.heap.size := by omega
  have k2 : w.heap.size + 1 < w1.heap.size := by omega
  go_wp2_with fail
  refine (eqVec_same o1 o2 o3 _).mono ?_
  rintro e w2 ⟨rfl, h2⟩
  go_wp2
  go_ret
  exact ⟨rfl, E1.trans h2⟩

end Go.Proofs.Yteeclghkfcanlaa
