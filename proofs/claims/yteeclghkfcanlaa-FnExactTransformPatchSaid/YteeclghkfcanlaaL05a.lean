/- This text proves what TransformPatch of both sides hands back. -/
import Derived.Test.YteeclghkfcanlaaL04e
import Derived.Test.YteeclghkfcanlaaTr3
namespace Go.Proofs.Yteeclghkfcanlaa
open Go.RowKit

theorem sApplyAll3 {f : Nat → Int} {n : Nat} {x y z q1 q2 q3 : Int} (hq : appAll f n ⟨x, y, z⟩ = ⟨q1, q2, q3⟩) {lo hi : Nat} {u : Value} {w : World} (hu : Flats 12 lo hi w u n f) (hh : hi ≤ w.heap.size) :
    Calls Try.prog 9 #[u, .agg #[.int .i64 x, .int .i64 y, .int .i64 z]] w fun e w' => e = .returned (.agg #[.int .i64 q1, .int .i64 q2, .int .i64 q3]) ∧ Ext w w' := sApplyAll_val lo hi u n f ⟨x, y, z⟩ ⟨q1, q2, q3⟩ hq w hu hh
theorem iApplyAll3 {f : Nat → Int} {n : Nat} {x y z q1 q2 q3 : Int} (hq : appAll f n ⟨x, y, z⟩ = ⟨q1, q2, q3⟩) {lo hi : Nat} {u : Value} {w : World} (hu : Flats 12 lo hi w u n f) (hh : hi ≤ w.heap.size) :
    Calls Try.prog 12 #[u, .agg #[.int .i64 x, .int .i64 y, .int .i64 z]] w fun e w' => e = .returned (.agg #[.int .i64 q1, .int .i64 q2, .int .i64 q3]) ∧ Ext w w' := iApplyAll_val lo hi u n f ⟨x, y, z⟩ ⟨q1, q2, q3⟩ hq w hu hh

/-- q are the twelve numbers of the patch f after the n transforms F -/
def TPatch (F : Nat → Int) (n : Nat) (f q : Nat → Int) : Prop := ∀ j, j < 4 → appAll F n ⟨f (j * 3), f (j * 3 + 1), f (j * 3 + 2)⟩ = ⟨q (j * 3), q (j * 3 + 1), q (j * 3 + 2)⟩
theorem tPatch_ex (F : Nat → Int) (n : Nat) (f : Nat → Int) : ∃ q, TPatch F n f q := by
  refine ⟨fun i => if i % 3 = 0 then (appAll F n ⟨f (i / 3 * 3), f (i / 3 * 3 + 1), f (i / 3 * 3 + 2)⟩).x else if i % 3 = 1 then (appAll F n ⟨f (i / 3 * 3), f (i / 3 * 3 + 1), f (i / 3 * 3 + 2)⟩).y else (appAll F n ⟨f (i / 3 * 3), f (i / 3 * 3 + 1), f (i / 3 * 3 + 2)⟩).z, fun j hj => ?_⟩
  have h : j = 0 ∨ j = 1 ∨ j = 2 ∨ j = 3 := by omega
  rcases h with h | h | h | h <;> subst h <;> rfl

set_option maxRecDepth 20000 in
set_option maxHeartbeats 6400000 in
theorem iTransformPatch_val (lo hi : Nat) (u : Value) (n : Nat) (g f q : Nat → Int) (hq : TPatch g n f q) (w : World) (hu : Flats 12 lo hi w u n g) (hh : hi ≤ w.heap.size) :
    Calls Try.prog 26 #[u, .agg #[.int .i64 (f 0), .int .i64 (f 1), .int .i64 (f 2), .int .i64 (f 3), .int .i64 (f 4), .int .i64 (f 5), .int .i64 (f 6), .int .i64 (f 7), .int .i64 (f 8), .int .i64 (f 9), .int .i64 (f 10), .int .i64 (f 11)]] w fun e w' => e = .returned (.agg #[.int .i64 (q 0), .int .i64 (q 1), .int .i64 (q 2), .int .i64 (q 3), .int .i64 (q 4), .int .i64 (q 5), .int .i64 (q 6), .int .i64 (q 7), .int .i64 (q 8), .int .i64 (q 9), .int .i64 (q 10), .int .i64 (q 11)]) ∧ Ext w w' := by
  have i0 : ∀ w : World, (Instr.index 53 (.agg #[.int .i64 (f 0), .int .i64 (f 1), .int .i64 (f 2), .int .i64 (f 3), .int .i64 (f 4), .int .i64 (f 5), .int .i64 (f 6), .int .i64 (f 7), .int .i64 (f 8), .int .i64 (f 9), .int .i64 (f 10), .int .i64 (f 11)]) (.int .i64 0)).run Try.prog w = .ok (.agg #[.int .i64 (f 0), .int .i64 (f 1), .int .i64 (f 2)]) w := fun _ => by kernel_rfl
  have i1 : ∀ w : World, (Instr.index 53 (.agg #[.int .i64 (f 0), .int .i64 (f 1), .int .i64 (f 2), .int .i64 (f 3), .int .i64 (f 4), .int .i64 (f 5), .int .i64 (f 6), .int .i64 (f 7), .int .i64 (f 8), .int .i64 (f 9), .int .i64 (f 10), .int .i64 (f 11)]) (.int .i64 1)).run Try.prog w = .ok (.agg #[.int .i64 (f 3), .int .i64 (f 4), .int .i64 (f 5)]) w := fun _ => by kernel_rfl
  have i2 : ∀ w : World, (Instr.index 53 (.agg #[.int .i64 (f 0), .int .i64 (f 1), .int .i64 (f 2), .int .i64 (f 3), .int .i64 (f 4), .int .i64 (f 5), .int .i64 (f 6), .int .i64 (f 7), .int .i64 (f 8), .int .i64 (f 9), .int .i64 (f 10), .int .i64 (f 11)]) (.int .i64 2)).run Try.prog w = .ok (.agg #[.int .i64 (f 6), .int .i64 (f 7), .int .i64 (f 8)]) w := fun _ => by kernel_rfl
  have i3 : ∀ w : World, (Instr.index 53 (.agg #[.int .i64 (f 0), .int .i64 (f 1), .int .i64 (f 2), .int .i64 (f 3), .int .i64 (f 4), .int .i64 (f 5), .int .i64 (f 6), .int .i64 (f 7), .int .i64 (f 8), .int .i64 (f 9), .int .i64 (f 10), .int .i64 (f 11)]) (.int .i64 3)).run Try.prog w = .ok (.agg #[.int .i64 (f 9), .int .i64 (f 10), .int .i64 (f 11)]) w := fun _ => by kernel_rfl
  have A0 := hid (hq 0 (by decide))
  have A1 := hid (hq 1 (by decide))
  have A2 := hid (hq 2 (by decide))
  have A3 := hid (hq 3 (by decide))
  clear hq
  obtain ⟨a, cap, rfl, HU⟩ := hu.open
  have HV := hid hu
  clear hu HU
  go_enter Try.func26, Try.ntmps26
  go_wp2
  go_loopw [9] (fun i wr => ∃ k c : Nat, c = k * 3 ∧ k ≤ 4 ∧ i = .int .i64 k ∧ Ext w wr ∧ RowI wr (w.heap.size + 1) 55 12 (fun _ => 0) ∧ RowI wr w.heap.size 55 12 (mixI f q c)) (fun i _ => 4 - (intOf i).toNat)
  case atStart =>
    refine ⟨0, 0, rfl, by omega, rfl, (by repeat (first | with_reducible assumption | with_reducible exact Ext.refl _ | with_reducible apply Ext.alloc | with_reducible apply Ext.drew | with_reducible apply Ext.drewN | (with_reducible refine Ext.setCell ?_ (by simp; omega) _) | (with_reducible refine Ext.setCell ?_ (by simp) _))), ?_, ?_⟩
    · exact rowI12_new (f := fun _ => 0) (by simp)
    · exact RowI.mix0 ((rowI12_new rfl).alloc _)
  case round =>
    obtain ⟨k, c, hc, hk, rfl, hE, h1, h2⟩ := hrel
    by_cases hlt : k < 4
    · have s0 := h1.lt
      have s1 := h2.lt
      have H1 := hid h1
      have H2 := hid h2
      have HE := hid hE
      clear h1 h2 hE
      have hk4 : k = 0 ∨ k = 1 ∨ k = 2 ∨ k = 3 := by omega
      rcases hk4 with h | h | h | h <;> subst h
      · obtain rfl : c = 0 := by omega
        clear hc
        go_wp2_with fail
        refine (iApplyAll3 A0.out (HV.out.ext hh (Ext.trans HE.out (by repeat (first | with_reducible assumption | with_reducible exact Ext.refl _ | with_reducible apply Ext.alloc | with_reducible apply Ext.drew | with_reducible apply Ext.drewN | (with_reducible refine Ext.setCell ?_ (by simp; omega) _) | (with_reducible refine Ext.setCell ?_ (by simp) _))))) (by have := HE.out.size; simp; omega)).mono ?_
        rintro e w2 ⟨rfl, y2⟩
        have x2 : Ext wr w2 := Ext.trans (by repeat (first | with_reducible assumption | with_reducible exact Ext.refl _ | with_reducible apply Ext.alloc | with_reducible apply Ext.drew | with_reducible apply Ext.drewN | (with_reducible refine Ext.setCell ?_ (by simp; omega) _) | (with_reducible refine Ext.setCell ?_ (by simp) _))) y2
        have h2 := H2.out.ext x2
        have d0 := h2.cell (i := 0) (by decide)
        have e0 := h2.frozen 0
        have d1 := h2.cell (i := 1) (by decide)
        have e1 := h2.frozen 1
        have d2 := h2.cell (i := 2) (by decide)
        have e2 := h2.frozen 2
        have G1 := hid (H1.out.ext x2)
        have G2 := hid h2
        have GE := hid (HE.out.trans x2)
        clear h2 H1 H2 HE x2 y2
        go_wp2
        go_roundw
        case rel =>
          refine ⟨1, 3, rfl, by omega, by go_num, ?_, ?_, ?_⟩
          · have hE := GE.out
            exact (by repeat (first | with_reducible assumption | with_reducible exact Ext.refl _ | with_reducible apply Ext.alloc | with_reducible apply Ext.drew | with_reducible apply Ext.drewN | (with_reducible refine Ext.setCell ?_ (by simp; omega) _) | (with_reducible refine Ext.setCell ?_ (by simp) _)))
          · exact ((G1.out.other (by simp) _).other (by simp) _).other (by simp) _
          · exact RowI.mix (c := 2) (RowI.mix (c := 1) (RowI.mix (c := 0) G2.out rfl rfl) rfl rfl) rfl rfl
        case measure => simp [intOf]
      · obtain rfl : c = 3 := by omega
        clear hc
        go_wp2_with fail
        refine (iApplyAll3 A1.out (HV.out.ext hh (Ext.trans HE.out (by repeat (first | with_reducible assumption | with_reducible exact Ext.refl _ | with_reducible apply Ext.alloc | with_reducible apply Ext.drew | with_reducible apply Ext.drewN | (with_reducible refine Ext.setCell ?_ (by simp; omega) _) | (with_reducible refine Ext.setCell ?_ (by simp) _))))) (by have := HE.out.size; simp; omega)).mono ?_
        rintro e w2 ⟨rfl, y2⟩
        have x2 : Ext wr w2 := Ext.trans (by repeat (first | with_reducible assumption | with_reducible exact Ext.refl _ | with_reducible apply Ext.alloc | with_reducible apply Ext.drew | with_reducible apply Ext.drewN | (with_reducible refine Ext.setCell ?_ (by simp; omega) _) | (with_reducible refine Ext.setCell ?_ (by simp) _))) y2
        have h2 := H2.out.ext x2
        have d0 := h2.cell (i := 3) (by decide)
        have e0 := h2.frozen 3
        have d1 := h2.cell (i := 4) (by decide)
        have e1 := h2.frozen 4
        have d2 := h2.cell (i := 5) (by decide)
        have e2 := h2.frozen 5
        have G1 := hid (H1.out.ext x2)
        have G2 := hid h2
        have GE := hid (HE.out.trans x2)
        clear h2 H1 H2 HE x2 y2
        go_wp2
        go_roundw
        case rel =>
          refine ⟨2, 6, rfl, by omega, by go_num, ?_, ?_, ?_⟩
          · have hE := GE.out
            exact (by repeat (first | with_reducible assumption | with_reducible exact Ext.refl _ | with_reducible apply Ext.alloc | with_reducible apply Ext.drew | with_reducible apply Ext.drewN | (with_reducible refine Ext.setCell ?_ (by simp; omega) _) | (with_reducible refine Ext.setCell ?_ (by simp) _)))
          · exact ((G1.out.other (by simp) _).other (by simp) _).other (by simp) _
          · exact RowI.mix (c := 5) (RowI.mix (c := 4) (RowI.mix (c := 3) G2.out rfl rfl) rfl rfl) rfl rfl
        case measure => simp [intOf]
      · obtain rfl : c = 6 := by omega
        clear hc
        go_wp2_with fail
        refine (iApplyAll3 A2.out (HV.out.ext hh (Ext.trans HE.out (by repeat (first | with_reducible assumption | with_reducible exact Ext.refl _ | with_reducible apply Ext.alloc | with_reducible apply Ext.drew | with_reducible apply Ext.drewN | (with_reducible refine Ext.setCell ?_ (by simp; omega) _) | (with_reducible refine Ext.setCell ?_ (by simp) _))))) (by have := HE.out.size; simp; omega)).mono ?_
        rintro e w2 ⟨rfl, y2⟩
        have x2 : Ext wr w2 := Ext.trans (by repeat (first | with_reducible assumption | with_reducible exact Ext.refl _ | with_reducible apply Ext.alloc | with_reducible apply Ext.drew | with_reducible apply Ext.drewN | (with_reducible refine Ext.setCell ?_ (by simp; omega) _) | (with_reducible refine Ext.setCell ?_ (by simp) _))) y2
        have h2 := H2.out.ext x2
        have d0 := h2.cell (i := 6) (by decide)
        have e0 := h2.frozen 6
        have d1 := h2.cell (i := 7) (by decide)
        have e1 := h2.frozen 7
        have d2 := h2.cell (i := 8) (by decide)
        have e2 := h2.frozen 8
        have G1 := hid (H1.out.ext x2)
        have G2 := hid h2
        have GE := hid (HE.out.trans x2)
        clear h2 H1 H2 HE x2 y2
        go_wp2
        go_roundw
        case rel =>
          refine ⟨3, 9, rfl, by omega, by go_num, ?_, ?_, ?_⟩
          · have hE := GE.out
            exact (by repeat (first | with_reducible assumption | with_reducible exact Ext.refl _ | with_reducible apply Ext.alloc | with_reducible apply Ext.drew | with_reducible apply Ext.drewN | (with_reducible refine Ext.setCell ?_ (by simp; omega) _) | (with_reducible refine Ext.setCell ?_ (by simp) _)))
          · exact ((G1.out.other (by simp) _).other (by simp) _).other (by simp) _
          · exact RowI.mix (c := 8) (RowI.mix (c := 7) (RowI.mix (c := 6) G2.out rfl rfl) rfl rfl) rfl rfl
        case measure => simp [intOf]
      · obtain rfl : c = 9 := by omega
        clear hc
        go_wp2_with fail
        refine (iApplyAll3 A3.out (HV.out.ext hh (Ext.trans HE.out (by repeat (first | with_reducible assumption | with_reducible exact Ext.refl _ | with_reducible apply Ext.alloc | with_reducible apply Ext.drew | with_reducible apply Ext.drewN | (with_reducible refine Ext.setCell ?_ (by simp; omega) _) | (with_reducible refine Ext.setCell ?_ (by simp) _))))) (by have := HE.out.size; simp; omega)).mono ?_
        rintro e w2 ⟨rfl, y2⟩
        have x2 : Ext wr w2 := Ext.trans (by repeat (first | with_reducible assumption | with_reducible exact Ext.refl _ | with_reducible apply Ext.alloc | with_reducible apply Ext.drew | with_reducible apply Ext.drewN | (with_reducible refine Ext.setCell ?_ (by simp; omega) _) | (with_reducible refine Ext.setCell ?_ (by simp) _))) y2
        have h2 := H2.out.ext x2
        have d0 := h2.cell (i := 9) (by decide)
        have e0 := h2.frozen 9
        have d1 := h2.cell (i := 10) (by decide)
        have e1 := h2.frozen 10
        have d2 := h2.cell (i := 11) (by decide)
        have e2 := h2.frozen 11
        have G1 := hid (H1.out.ext x2)
        have G2 := hid h2
        have GE := hid (HE.out.trans x2)
        clear h2 H1 H2 HE x2 y2
        go_wp2
        go_roundw
        case rel =>
          refine ⟨4, 12, rfl, by omega, by go_num, ?_, ?_, ?_⟩
          · have hE := GE.out
            exact (by repeat (first | with_reducible assumption | with_reducible exact Ext.refl _ | with_reducible apply Ext.alloc | with_reducible apply Ext.drew | with_reducible apply Ext.drewN | (with_reducible refine Ext.setCell ?_ (by simp; omega) _) | (with_reducible refine Ext.setCell ?_ (by simp) _)))
          · exact ((G1.out.other (by simp) _).other (by simp) _).other (by simp) _
          · exact RowI.mix (c := 11) (RowI.mix (c := 10) (RowI.mix (c := 9) G2.out rfl rfl) rfl rfl) rfl rfl
        case measure => simp [intOf]
    · obtain rfl : k = 4 := by omega
      obtain rfl : c = 12 := by omega
      clear hc
      have h2 := h2.mixAll
      have c0 := h2.cell (i := 0) (by decide)
      have d0 := h1.cell (i := 0) (by decide)
      have e0 := h1.frozen 0
      have c1 := h2.cell (i := 1) (by decide)
      have d1 := h1.cell (i := 1) (by decide)
      have e1 := h1.frozen 1
      have c2 := h2.cell (i := 2) (by decide)
      have d2 := h1.cell (i := 2) (by decide)
      have e2 := h1.frozen 2
      have c3 := h2.cell (i := 3) (by decide)
      have d3 := h1.cell (i := 3) (by decide)
      have e3 := h1.frozen 3
      have c4 := h2.cell (i := 4) (by decide)
      have d4 := h1.cell (i := 4) (by decide)
      have e4 := h1.frozen 4
      have c5 := h2.cell (i := 5) (by decide)
      have d5 := h1.cell (i := 5) (by decide)
      have e5 := h1.frozen 5
      have c6 := h2.cell (i := 6) (by decide)
      have d6 := h1.cell (i := 6) (by decide)
      have e6 := h1.frozen 6
      have c7 := h2.cell (i := 7) (by decide)
      have d7 := h1.cell (i := 7) (by decide)
      have e7 := h1.frozen 7
      have c8 := h2.cell (i := 8) (by decide)
      have d8 := h1.cell (i := 8) (by decide)
      have e8 := h1.frozen 8
      have c9 := h2.cell (i := 9) (by decide)
      have d9 := h1.cell (i := 9) (by decide)
      have e9 := h1.frozen 9
      have c10 := h2.cell (i := 10) (by decide)
      have d10 := h1.cell (i := 10) (by decide)
      have e10 := h1.frozen 10
      have c11 := h2.cell (i := 11) (by decide)
      have d11 := h1.cell (i := 11) (by decide)
      have e11 := h1.frozen 11
      have HE := hid hE
      clear h1 h2 hE
      go_wp2
      exact bodyPost_ret (v := .agg #[.int .i64 (q 0), .int .i64 (q 1), .int .i64 (q 2), .int .i64 (q 3), .int .i64 (q 4), .int .i64 (q 5), .int .i64 (q 6), .int .i64 (q 7), .int .i64 (q 8), .int .i64 (q 9), .int .i64 (q 10), .int .i64 (q 11)]) (by simp [results, Try.results26, go_sem, *]) rfl ⟨rfl, by have hE := HE.out; exact (by repeat (first | with_reducible assumption | with_reducible exact Ext.refl _ | with_reducible apply Ext.alloc | with_reducible apply Ext.drew | with_reducible apply Ext.drewN | (with_reducible refine Ext.setCell ?_ (by simp; omega) _) | (with_reducible refine Ext.setCell ?_ (by simp) _)))⟩

set_option maxRecDepth 20000 in
set_option maxHeartbeats 6400000 in
theorem sTransformPatch_val (lo hi : Nat) (u : Value) (n : Nat) (g f q : Nat → Int) (hq : TPatch g n f q) (w : World) (hu : Flats 12 lo hi w u n g) (hh : hi ≤ w.heap.size) :
    Calls Try.prog 24 #[u, .agg #[.int .i64 (f 0), .int .i64 (f 1), .int .i64 (f 2), .int .i64 (f 3), .int .i64 (f 4), .int .i64 (f 5), .int .i64 (f 6), .int .i64 (f 7), .int .i64 (f 8), .int .i64 (f 9), .int .i64 (f 10), .int .i64 (f 11)]] w fun e w' => e = .returned (.agg #[.int .i64 (q 0), .int .i64 (q 1), .int .i64 (q 2), .int .i64 (q 3), .int .i64 (q 4), .int .i64 (q 5), .int .i64 (q 6), .int .i64 (q 7), .int .i64 (q 8), .int .i64 (q 9), .int .i64 (q 10), .int .i64 (q 11)]) ∧ Ext w w' := by
  have i0 : ∀ w : World, (Instr.index 53 (.agg #[.int .i64 (f 0), .int .i64 (f 1), .int .i64 (f 2), .int .i64 (f 3), .int .i64 (f 4), .int .i64 (f 5), .int .i64 (f 6), .int .i64 (f 7), .int .i64 (f 8), .int .i64 (f 9), .int .i64 (f 10), .int .i64 (f 11)]) (.int .i64 0)).run Try.prog w = .ok (.agg #[.int .i64 (f 0), .int .i64 (f 1), .int .i64 (f 2)]) w := fun _ => by kernel_rfl
  have i1 : ∀ w : World, (Instr.index 53 (.agg #[.int .i64 (f 0), .int .i64 (f 1), .int .i64 (f 2), .int .i64 (f 3), .int .i64 (f 4), .int .i64 (f 5), .int .i64 (f 6), .int .i64 (f 7), .int .i64 (f 8), .int .i64 (f 9), .int .i64 (f 10), .int .i64 (f 11)]) (.int .i64 1)).run Try.prog w = .ok (.agg #[.int .i64 (f 3), .int .i64 (f 4), .int .i64 (f 5)]) w := fun _ => by kernel_rfl
  have i2 : ∀ w : World, (Instr.index 53 (.agg #[.int .i64 (f 0), .int .i64 (f 1), .int .i64 (f 2), .int .i64 (f 3), .int .i64 (f 4), .int .i64 (f 5), .int .i64 (f 6), .int .i64 (f 7), .int .i64 (f 8), .int .i64 (f 9), .int .i64 (f 10), .int .i64 (f 11)]) (.int .i64 2)).run Try.prog w = .ok (.agg #[.int .i64 (f 6), .int .i64 (f 7), .int .i64 (f 8)]) w := fun _ => by kernel_rfl
  have i3 : ∀ w : World, (Instr.index 53 (.agg #[.int .i64 (f 0), .int .i64 (f 1), .int .i64 (f 2), .int .i64 (f 3), .int .i64 (f 4), .int .i64 (f 5), .int .i64 (f 6), .int .i64 (f 7), .int .i64 (f 8), .int .i64 (f 9), .int .i64 (f 10), .int .i64 (f 11)]) (.int .i64 3)).run Try.prog w = .ok (.agg #[.int .i64 (f 9), .int .i64 (f 10), .int .i64 (f 11)]) w := fun _ => by kernel_rfl
  have A0 := hid (hq 0 (by decide))
  have A1 := hid (hq 1 (by decide))
  have A2 := hid (hq 2 (by decide))
  have A3 := hid (hq 3 (by decide))
  clear hq
  obtain ⟨a, cap, rfl, HU⟩ := hu.open
  have HV := hid hu
  clear hu HU
  go_enter Try.func24, Try.ntmps24
  go_wp2
  go_loopw [11] (fun i wr => ∃ k c : Nat, c = k * 3 ∧ k ≤ 4 ∧ i = .int .i64 k ∧ Ext w wr ∧ RowI wr (w.heap.size + 1) 55 12 (fun _ => 0) ∧ RowI wr (w.heap.size + 1 + 1) 55 12 (mixI f q c)) (fun i _ => 4 - (intOf i).toNat)
  case atStart =>
    refine ⟨0, 0, rfl, by omega, rfl, (by repeat (first | with_reducible assumption | with_reducible exact Ext.refl _ | with_reducible apply Ext.alloc | with_reducible apply Ext.drew | with_reducible apply Ext.drewN | (with_reducible refine Ext.setCell ?_ (by simp; omega) _) | (with_reducible refine Ext.setCell ?_ (by simp) _))), ?_, ?_⟩
    · refine RowI.ext (rowI12_new (w := w.alloc (.cells #[.int .i64 (f 0), .int .i64 (f 1), .int .i64 (f 2), .int .i64 (f 3), .int .i64 (f 4), .int .i64 (f 5), .int .i64 (f 6), .int .i64 (f 7), .int .i64 (f 8), .int .i64 (f 9), .int .i64 (f 10), .int .i64 (f 11)] 55)) (f := fun _ => 0) (by simp)) ?_
      exact (by repeat (first | with_reducible assumption | with_reducible exact Ext.refl _ | with_reducible apply Ext.alloc | with_reducible apply Ext.drew | with_reducible apply Ext.drewN | (with_reducible refine Ext.setCell ?_ (by simp; omega) _) | (with_reducible refine Ext.setCell ?_ (by simp) _)))
    · exact RowI.mix0 (rowI12_new (by simp))
  case round =>
    obtain ⟨k, c, hc, hk, rfl, hE, h1, h2⟩ := hrel
    by_cases hlt : k < 4
    · have s0 := h1.lt
      have s1 := h2.lt
      have H1 := hid h1
      have H2 := hid h2
      have HE := hid hE
      clear h1 h2 hE
      have hk4 : k = 0 ∨ k = 1 ∨ k = 2 ∨ k = 3 := by omega
      rcases hk4 with h | h | h | h <;> subst h
      · obtain rfl : c = 0 := by omega
        clear hc
        go_wp2_with fail
        refine (sApplyAll3 A0.out (HV.out.ext hh (Ext.trans HE.out (by repeat (first | with_reducible assumption | with_reducible exact Ext.refl _ | with_reducible apply Ext.alloc | with_reducible apply Ext.drew | with_reducible apply Ext.drewN | (with_reducible refine Ext.setCell ?_ (by simp; omega) _) | (with_reducible refine Ext.setCell ?_ (by simp) _))))) (by have := HE.out.size; simp; omega)).mono ?_
        rintro e w2 ⟨rfl, y2⟩
        have x2 : Ext wr w2 := Ext.trans (by repeat (first | with_reducible assumption | with_reducible exact Ext.refl _ | with_reducible apply Ext.alloc | with_reducible apply Ext.drew | with_reducible apply Ext.drewN | (with_reducible refine Ext.setCell ?_ (by simp; omega) _) | (with_reducible refine Ext.setCell ?_ (by simp) _))) y2
        have h2 := H2.out.ext x2
        have d0 := h2.cell (i := 0) (by decide)
        have e0 := h2.frozen 0
        have d1 := h2.cell (i := 1) (by decide)
        have e1 := h2.frozen 1
        have d2 := h2.cell (i := 2) (by decide)
        have e2 := h2.frozen 2
        have G1 := hid (H1.out.ext x2)
        have G2 := hid h2
        have GE := hid (HE.out.trans x2)
        clear h2 H1 H2 HE x2 y2
        go_wp2
        go_roundw
        case rel =>
          refine ⟨1, 3, rfl, by omega, by go_num, ?_, ?_, ?_⟩
          · have hE := GE.out
            exact (by repeat (first | with_reducible assumption | with_reducible exact Ext.refl _ | with_reducible apply Ext.alloc | with_reducible apply Ext.drew | with_reducible apply Ext.drewN | (with_reducible refine Ext.setCell ?_ (by simp; omega) _) | (with_reducible refine Ext.setCell ?_ (by simp) _)))
          · exact ((G1.out.other (by simp) _).other (by simp) _).other (by simp) _
          · exact RowI.mix (c := 2) (RowI.mix (c := 1) (RowI.mix (c := 0) G2.out rfl rfl) rfl rfl) rfl rfl
        case measure => simp [intOf]
      · obtain rfl : c = 3 := by omega
        clear hc
        go_wp2_with fail
        refine (sApplyAll3 A1.out (HV.out.ext hh (Ext.trans HE.out (by repeat (first | with_reducible assumption | with_reducible exact Ext.refl _ | with_reducible apply Ext.alloc | with_reducible apply Ext.drew | with_reducible apply Ext.drewN | (with_reducible refine Ext.setCell ?_ (by simp; omega) _) | (with_reducible refine Ext.setCell ?_ (by simp) _))))) (by have := HE.out.size; simp; omega)).mono ?_
        rintro e w2 ⟨rfl, y2⟩
        have x2 : Ext wr w2 := Ext.trans (by repeat (first | with_reducible assumption | with_reducible exact Ext.refl _ | with_reducible apply Ext.alloc | with_reducible apply Ext.drew | with_reducible apply Ext.drewN | (with_reducible refine Ext.setCell ?_ (by simp; omega) _) | (with_reducible refine Ext.setCell ?_ (by simp) _))) y2
        have h2 := H2.out.ext x2
        have d0 := h2.cell (i := 3) (by decide)
        have e0 := h2.frozen 3
        have d1 := h2.cell (i := 4) (by decide)
        have e1 := h2.frozen 4
        have d2 := h2.cell (i := 5) (by decide)
        have e2 := h2.frozen 5
        have G1 := hid (H1.out.ext x2)
        have G2 := hid h2
        have GE := hid (HE.out.trans x2)
        clear h2 H1 H2 HE x2 y2
        go_wp2
        go_roundw
        case rel =>
          refine ⟨2, 6, rfl, by omega, by go_num, ?_, ?_, ?_⟩
          · have hE := GE.out
            exact (by repeat (first | with_reducible assumption | with_reducible exact Ext.refl _ | with_reducible apply Ext.alloc | with_reducible apply Ext.drew | with_reducible apply Ext.drewN | (with_reducible refine Ext.setCell ?_ (by simp; omega) _) | (with_reducible refine Ext.setCell ?_ (by simp) _)))
          · exact ((G1.out.other (by simp) _).other (by simp) _).other (by simp) _
          · exact RowI.mix (c := 5) (RowI.mix (c := 4) (RowI.mix (c := 3) G2.out rfl rfl) rfl rfl) rfl rfl
        case measure => simp [intOf]
      · obtain rfl : c = 6 := by omega
        clear hc
        go_wp2_with fail
        refine (sApplyAll3 A2.out (HV.out.ext hh (Ext.trans HE.out (by repeat (first | with_reducible assumption | with_reducible exact Ext.refl _ | with_reducible apply Ext.alloc | with_reducible apply Ext.drew | with_reducible apply Ext.drewN | (with_reducible refine Ext.setCell ?_ (by simp; omega) _) | (with_reducible refine Ext.setCell ?_ (by simp) _))))) (by have := HE.out.size; simp; omega)).mono ?_
        rintro e w2 ⟨rfl, y2⟩
        have x2 : Ext wr w2 := Ext.trans (by repeat (first | with_reducible assumption | with_reducible exact Ext.refl _ | with_reducible apply Ext.alloc | with_reducible apply Ext.drew | with_reducible apply Ext.drewN | (with_reducible refine Ext.setCell ?_ (by simp; omega) _) | (with_reducible refine Ext.setCell ?_ (by simp) _))) y2
        have h2 := H2.out.ext x2
        have d0 := h2.cell (i := 6) (by decide)
        have e0 := h2.frozen 6
        have d1 := h2.cell (i := 7) (by decide)
        have e1 := h2.frozen 7
        have d2 := h2.cell (i := 8) (by decide)
        have e2 := h2.frozen 8
        have G1 := hid (H1.out.ext x2)
        have G2 := hid h2
        have GE := hid (HE.out.trans x2)
        clear h2 H1 H2 HE x2 y2
        go_wp2
        go_roundw
        case rel =>
          refine ⟨3, 9, rfl, by omega, by go_num, ?_, ?_, ?_⟩
          · have hE := GE.out
            exact (by repeat (first | with_reducible assumption | with_reducible exact Ext.refl _ | with_reducible apply Ext.alloc | with_reducible apply Ext.drew | with_reducible apply Ext.drewN | (with_reducible refine Ext.setCell ?_ (by simp; omega) _) | (with_reducible refine Ext.setCell ?_ (by simp) _)))
          · exact ((G1.out.other (by simp) _).other (by simp) _).other (by simp) _
          · exact RowI.mix (c := 8) (RowI.mix (c := 7) (RowI.mix (c := 6) G2.out rfl rfl) rfl rfl) rfl rfl
        case measure => simp [intOf]
      · obtain rfl : c = 9 := by omega
        clear hc
        go_wp2_with fail
        refine (sApplyAll3 A3.out (HV.out.ext hh (Ext.trans HE.out (by repeat (first | with_reducible assumption | with_reducible exact Ext.refl _ | with_reducible apply Ext.alloc | with_reducible apply Ext.drew | with_reducible apply Ext.drewN | (with_reducible refine Ext.setCell ?_ (by simp; omega) _) | (with_reducible refine Ext.setCell ?_ (by simp) _))))) (by have := HE.out.size; simp; omega)).mono ?_
        rintro e w2 ⟨rfl, y2⟩
        have x2 : Ext wr w2 := Ext.trans (by repeat (first | with_reducible assumption | with_reducible exact Ext.refl _ | with_reducible apply Ext.alloc | with_reducible apply Ext.drew | with_reducible apply Ext.drewN | (with_reducible refine Ext.setCell ?_ (by simp; omega) _) | (with_reducible refine Ext.setCell ?_ (by simp) _))) y2
        have h2 := H2.out.ext x2
        have d0 := h2.cell (i := 9) (by decide)
        have e0 := h2.frozen 9
        have d1 := h2.cell (i := 10) (by decide)
        have e1 := h2.frozen 10
        have d2 := h2.cell (i := 11) (by decide)
        have e2 := h2.frozen 11
        have G1 := hid (H1.out.ext x2)
        have G2 := hid h2
        have GE := hid (HE.out.trans x2)
        clear h2 H1 H2 HE x2 y2
        go_wp2
        go_roundw
        case rel =>
          refine ⟨4, 12, rfl, by omega, by go_num, ?_, ?_, ?_⟩
          · have hE := GE.out
            exact (by repeat (first | with_reducible assumption | with_reducible exact Ext.refl _ | with_reducible apply Ext.alloc | with_reducible apply Ext.drew | with_reducible apply Ext.drewN | (with_reducible refine Ext.setCell ?_ (by simp; omega) _) | (with_reducible refine Ext.setCell ?_ (by simp) _)))
          · exact ((G1.out.other (by simp) _).other (by simp) _).other (by simp) _
          · exact RowI.mix (c := 11) (RowI.mix (c := 10) (RowI.mix (c := 9) G2.out rfl rfl) rfl rfl) rfl rfl
        case measure => simp [intOf]
    · obtain rfl : k = 4 := by omega
      obtain rfl : c = 12 := by omega
      clear hc
      have h2 := h2.mixAll
      have c0 := h2.cell (i := 0) (by decide)
      have d0 := h1.cell (i := 0) (by decide)
      have e0 := h1.frozen 0
      have c1 := h2.cell (i := 1) (by decide)
      have d1 := h1.cell (i := 1) (by decide)
      have e1 := h1.frozen 1
      have c2 := h2.cell (i := 2) (by decide)
      have d2 := h1.cell (i := 2) (by decide)
      have e2 := h1.frozen 2
      have c3 := h2.cell (i := 3) (by decide)
      have d3 := h1.cell (i := 3) (by decide)
      have e3 := h1.frozen 3
      have c4 := h2.cell (i := 4) (by decide)
      have d4 := h1.cell (i := 4) (by decide)
      have e4 := h1.frozen 4
      have c5 := h2.cell (i := 5) (by decide)
      have d5 := h1.cell (i := 5) (by decide)
      have e5 := h1.frozen 5
      have c6 := h2.cell (i := 6) (by decide)
      have d6 := h1.cell (i := 6) (by decide)
      have e6 := h1.frozen 6
      have c7 := h2.cell (i := 7) (by decide)
      have d7 := h1.cell (i := 7) (by decide)
      have e7 := h1.frozen 7
      have c8 := h2.cell (i := 8) (by decide)
      have d8 := h1.cell (i := 8) (by decide)
      have e8 := h1.frozen 8
      have c9 := h2.cell (i := 9) (by decide)
      have d9 := h1.cell (i := 9) (by decide)
      have e9 := h1.frozen 9
      have c10 := h2.cell (i := 10) (by decide)
      have d10 := h1.cell (i := 10) (by decide)
      have e10 := h1.frozen 10
      have c11 := h2.cell (i := 11) (by decide)
      have d11 := h1.cell (i := 11) (by decide)
      have e11 := h1.frozen 11
      have HE := hid hE
      clear h1 h2 hE
      go_wp2
      exact bodyPost_ret (v := .agg #[.int .i64 (q 0), .int .i64 (q 1), .int .i64 (q 2), .int .i64 (q 3), .int .i64 (q 4), .int .i64 (q 5), .int .i64 (q 6), .int .i64 (q 7), .int .i64 (q 8), .int .i64 (q 9), .int .i64 (q 10), .int .i64 (q 11)]) (by simp [results, Try.results24, go_sem, *]) rfl ⟨rfl, by have hE := HE.out; exact (by repeat (first | with_reducible assumption | with_reducible exact Ext.refl _ | with_reducible apply Ext.alloc | with_reducible apply Ext.drew | with_reducible apply Ext.drewN | (with_reducible refine Ext.setCell ?_ (by simp; omega) _) | (with_reducible refine Ext.setCell ?_ (by simp) _)))⟩

end Go.Proofs.Yteeclghkfcanlaa
