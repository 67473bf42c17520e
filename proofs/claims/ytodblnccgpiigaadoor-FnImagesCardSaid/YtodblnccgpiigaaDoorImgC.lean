/- This text proves what the program's CropImage hands back for a valid image and the whole of it. -/
import Derived.Test.YtodblnccgpiigaaDoorImgF
import Derived.Test.YtodblnccgpiigaaDoorPgm2
import Derived.Test.YtodblnccgpiigaaDoorPlan
import Derived.Test.YtodblnccgpiigaaDoorImgW
namespace Go.Proofs.YtodblnccgpiigaaDoor
open Go.RowKit

set_option maxHeartbeats 800000 in
theorem inside_whole (W H : Nat) (w : World) (hW : 1 ≤ W ∧ W ≤ 12) (hH : 1 ≤ H ∧ H ≤ 12) :
    Calls Tryd.prog 34 #[.agg #[.int .i64 0, .int .i64 0, .int .i64 (W : Nat), .int .i64 (H : Nat)], .int .i64 (W : Nat), .int .i64 (H : Nat)] w fun e w' => e = .returned (.bool true) ∧ Ext w w' := by
  obtain ⟨W1, W2⟩ := hW
  obtain ⟨H1, H2⟩ := hH
  have e1 := hid (inB_iff.2 ⟨by omega, by omega⟩ : inB 0 0 ((W : Int) - 1) = true)
  have e2 := hid (inB_iff.2 ⟨by omega, by omega⟩ : inB 0 0 ((H : Int) - 1) = true)
  have e3 := hid (inB_iff.2 ⟨by omega, by omega⟩ : inB (W : Int) 1 (W : Int) = true)
  have e4 := hid (inB_iff.2 ⟨by omega, by omega⟩ : inB (H : Int) 1 (H : Int) = true)
  go_enter Tryd.func34, Tryd.ntmps34
  go_wp2_with (go_at_call 66; with_reducible first
    | (refine (within_val e1.out _).mono ?_; rintro e w1 ⟨rfl, rfl⟩)
    | (refine (within_val e2.out _).mono ?_; rintro e w1 ⟨rfl, rfl⟩)
    | (refine (within_val e3.out _).mono ?_; rintro e w1 ⟨rfl, rfl⟩)
    | (refine (within_val e4.out _).mono ?_; rintro e w1 ⟨rfl, rfl⟩))
  go_ret
  exact ⟨rfl, (by repeat (with_reducible (first | assumption | exact Ext.refl _ | apply Ext.alloc | apply Ext.drew | apply Ext.drewN)))⟩

theorem take_row (W k : Nat) (px : List Int) : px.take (k * W) ++ rowOf px W k = px.take ((k + 1) * W) := by
  rw [Nat.add_mul, Nat.one_mul]
  unfold rowOf
  rw [← List.take_add]

set_option maxRecDepth 10000 in
set_option maxHeartbeats 1600000 in
theorem CropImage_whole (lo hi : Nat) (v : Value) (I : Pic) (w : World) (hv : I.R lo hi w v) (hh : hi ≤ w.heap.size) (hok : I.okB = true) :
    Calls Tryd.prog 9 #[v, .agg #[.int .i64 0, .int .i64 0, .int .i64 I.w, .int .i64 I.h]] w fun e w' => ∃ v', e = .returned (.tuple #[v', .bool true]) ∧ I.Own w.heap.size w' v' ∧ Ext w w' := by
  have HV := hid hv
  have HK := hid hok
  obtain ⟨W, H, b, off, c, hW, hH, hW1, hH1, eW, eH, hl, rfl, hb1, hb2, HU⟩ := hv.shape hok
  have l1 := HU.le
  have l2 := HU.cap
  have hm : H * W ≤ 12 * 12 := Nat.mul_le_mul hH hW
  have hm1 : 1 ≤ H * W := Nat.mul_le_mul hH1 hW1
  obtain ⟨n, hn⟩ : ∃ n, H * W = n := ⟨_, rfl⟩
  rw [hn] at hl hm hm1 HV ⊢
  rw [hl] at l1
  have hl' := hid hl
  replace hn := hid hn
  have hIw := hid eW
  have hIh := hid eH
  rw [eW, eH]
  have hin := hid (fun w => inside_whole W H w ⟨hW1, hW⟩ ⟨hH1, hH⟩)
  clear hv hok eW eH hl
  go_enter Tryd.func9, Tryd.ntmps9
  go_wp2_with fail
  refine (iIsValidImage_any lo hi _ _ _ (HV.out.ext hh (by repeat (with_reducible (first | assumption | exact Ext.refl _ | apply Ext.alloc | apply Ext.drew | apply Ext.drewN)))) (by simp; omega)).mono ?_
  rw [HK.out]
  rintro e w1 ⟨rfl, x1⟩
  have A1 := (Blk.new w 25 [.int .i64 (W : Nat), .int .i64 (H : Nat), .slice (some ⟨b, off, none⟩) n c]).ext (show Ext _ (((w.alloc (.cells #[.int .i64 (W : Nat), .int .i64 (H : Nat), .slice (some ⟨b, off, none⟩) n c] 25)).alloc (.cells #[.int .i64 0, .int .i64 0, .int .i64 (W : Nat), .int .i64 (H : Nat)] 32)).alloc (.cells #[.int .i64 0, .int .i64 0, .slice none 0 0] 25)) from (by repeat (with_reducible (first | assumption | exact Ext.refl _ | apply Ext.alloc | apply Ext.drew | apply Ext.drewN))))
  have A2 := (Blk.new (w.alloc (.cells #[.int .i64 (W : Nat), .int .i64 (H : Nat), .slice (some ⟨b, off, none⟩) n c] 25)) 32 [.int .i64 0, .int .i64 0, .int .i64 (W : Nat), .int .i64 (H : Nat)]).ext (show Ext _ (((w.alloc (.cells #[.int .i64 (W : Nat), .int .i64 (H : Nat), .slice (some ⟨b, off, none⟩) n c] 25)).alloc (.cells #[.int .i64 0, .int .i64 0, .int .i64 (W : Nat), .int .i64 (H : Nat)] 32)).alloc (.cells #[.int .i64 0, .int .i64 0, .slice none 0 0] 25)) from (by repeat (with_reducible (first | assumption | exact Ext.refl _ | apply Ext.alloc | apply Ext.drew | apply Ext.drewN))))
  have A3 := Blk.new ((w.alloc (.cells #[.int .i64 (W : Nat), .int .i64 (H : Nat), .slice (some ⟨b, off, none⟩) n c] 25)).alloc (.cells #[.int .i64 0, .int .i64 0, .int .i64 (W : Nat), .int .i64 (H : Nat)] 32)) 25 [.int .i64 0, .int .i64 0, .slice none 0 0]
  rw [World.size_alloc] at A2
  rw [World.size_alloc, World.size_alloc] at A3
  have B1 := A1.ext x1
  have B2 := A2.ext x1
  have B3 := A3.ext x1
  have X1 : Ext w w1 := Ext.trans (by repeat (with_reducible (first | assumption | exact Ext.refl _ | apply Ext.alloc | apply Ext.drew | apply Ext.drewN))) x1
  clear A1 A2 A3 x1
  have p0 := B1.cell 0 rfl
  have p1 := B1.cell 1 rfl
  have q0 := B2.cell 0 rfl
  have q1 := B2.cell 1 rfl
  have q2 := B2.cell 2 rfl
  have q3 := B2.cell 3 rfl
  have z1 := B1.lt
  have z2 := B2.lt
  go_wp2_with fail
  refine (hin.out _).mono ?_
  rintro e w2 ⟨rfl, x2⟩
  have C1 := B1.ext x2
  have C2 := B2.ext x2
  have C3 := B3.ext x2
  have X2 := X1.trans x2
  clear p0 p1 q0 q1 q2 q3 z1 z2 B1 B2 B3 X1 x2
  have q1 := C2.cell 1 rfl
  have q2 := C2.cell 2 rfl
  have q3 := C2.cell 3 rfl
  have z2 := C2.lt
  have z3 := C3.lt
  have S0 := hid (show RSt w2 (w2.alloc (.cells #[.int .i64 (W : Nat), .int .i64 (H : Nat), .slice none 0 0] 25)) w2.heap.size W H (.slice none 0 0) (I.px.take (0 * W)) from
    ⟨(by repeat (with_reducible (first | assumption | exact Ext.refl _ | apply Ext.alloc | apply Ext.drew | apply Ext.drewN))), Nat.le_refl _, Blk.new w2 _ [.int .i64 (W : Nat), .int .i64 (H : Nat), .slice none 0 0], by rw [Nat.zero_mul, List.take_zero]; exact OwnInts.nil _ _⟩)
  go_wp2
  clear q1 q2 q3
  go_loopw [7] (fun i wr => ∃ (k : Nat) (v : Value), k ≤ H ∧ i = .int .i64 k ∧ RSt w2 wr w2.heap.size W H v (I.px.take (k * W))) (fun i _ => H - (intOf i).toNat)
  case atStart => exact ⟨0, _, by omega, rfl, S0.out⟩
  case round =>
    clear S0
    obtain ⟨k, v, hk, rfl, hst⟩ := hrel
    obtain ⟨av, cv, ev, -⟩ := hst.own.form
    obtain ⟨m, hmm⟩ : ∃ m, (I.px.take (k * W)).length = m := ⟨_, rfl⟩
    rw [hmm] at ev
    subst ev
    have HM := hid hmm
    have m9 : m ≤ n := by rw [← hmm, List.length_take, hl'.out]; omega
    have HST := hid hst
    have D1 := C1.ext hst.ext
    have D2 := C2.ext hst.ext
    have p0 := D1.cell 0 rfl
    have p1 := D1.cell 1 rfl
    have p2 := D1.cell 2 rfl
    have q0 := D2.cell 0 rfl
    have q1 := D2.cell 1 rfl
    have q2 := D2.cell 2 rfl
    have q3 := D2.cell 3 rfl
    have o2 := hst.box.cell 2 rfl
    have zo := hst.box.lt
    clear hst hmm D1 D2
    by_cases hlt : k < H
    · have hrow : (k + 1) * W ≤ n := by rw [← hn.out]; exact Nat.mul_le_mul_right _ hlt
      have hrowl := rowOf_length (px := I.px) (W := W) (y := k) (by rw [hl'.out]; exact hrow)
      have HRow := hid hrow
      have HRL := hid hrowl
      clear hrow hrowl
      have k5 : w.heap.size < w2.heap.size + 1 := by omega
      have k6 : w.heap.size ≤ w2.heap.size := by omega
      have k7 : w.heap.size < w2.heap.size := by omega
      go_wp2
      refine wp_region_stages [([0, 1, 2, 3, 5, 6, 7, 8, 9, 10, 11], 4), ([12], 13), ([14], 15)] 15 (w2.heap.size + 1) (by kernel_rfl) (by kernel_rfl) ?_
      refine wpStages_cons ?_
      simp only [List.filterMap_cons, List.filterMap_nil, List.getElem?_toArray, List.getElem?_cons_zero, List.getElem?_cons_succ]
      show wpQuiet _ _ _ _ [_, _, _, _, _, _, _, _, _, _, _] _
      repeat (go_big_quiet_step (fail))
      refine wpQuiet_nil ⟨_, rfl, fun K hK => ?_⟩
      go_wp2_with fail
      refine (picRow_any b off c n W H k _ (by omega) hW hW1 HRow.out l1).mono ?_
      rintro e w3 ⟨rfl, x3⟩
      have y3 : Ext wr w3 := Ext.trans (by repeat (with_reducible (first | assumption | exact Ext.refl _ | apply Ext.alloc | apply Ext.drew | apply Ext.drewN))) x3
      have S3 := HST.out.to y3
      go_wp2_with fail
      refine hK _ _ (.inr (y3.same (by omega))) ?_
      clear hK K x3
      have hWc : W ≤ c - k * W := by have := HRow.out; rw [Nat.add_mul, Nat.one_mul] at this; omega
      refine wpStages_cons ?_
      simp only [List.filterMap_cons, List.filterMap_nil, List.getElem?_toArray, List.getElem?_cons_zero, List.getElem?_cons_succ]
      show wpQuiet _ _ _ _ [_] _
      try simp only [Act.put, List.getElem_toArray, List.getElem_cons_succ, List.getElem_cons_zero, List.setIfInBounds_toArray, List.set_cons_succ, List.set_cons_zero]
      repeat (go_big_quiet_step (fail))
      refine wpQuiet_nil ⟨_, rfl, fun K hK => ?_⟩
      have hrowi : ∀ y ∈ rowOf I.px W k, I64 y := fun y hy => by
        obtain ⟨i, hi, rfl⟩ := List.getElem_of_mem (show y ∈ I.px from List.mem_of_mem_drop (List.mem_of_mem_take hy))
        exact HU.i64 hi
      have hcell : ∀ j y, (rowOf I.px W k)[j]? = some y → w3.cell? ⟨b, off + k * W + j, none⟩ = some (.int .i64 y) := fun j y hy => by
        have hj : j < W := by have := (List.getElem?_eq_some_iff.1 hy).1; rw [HRL.out] at this; exact this
        rw [rowOf_at hj] at hy
        obtain ⟨_, b', off', e, _, h2, h3⟩ := HU.cell _ y hy
        simp only [Option.some.injEq, Addr.mk.injEq, and_true] at e
        obtain ⟨rfl, rfl⟩ := e
        rw [Nat.add_assoc]
        exact ((X2.trans S3.ext).cells.1 b _ (by omega)).trans h3
      refine wpList_appendN _ rfl _ _ rfl (w2.heap.size + 1) (.slice av m cv) _ rfl S3.own (rowOf I.px W k) b (off + k * W) (c - k * W) (by rw [HRL.out]; rfl) hrowi hcell (by rw [HM.out, HRL.out]; omega) (by have := S3.box.lt; omega) ?_
      intro v' w4 hown hg
      rw [take_row] at hown
      obtain ⟨a4, c4, e4, -⟩ := hown.form
      obtain ⟨m4, hm4⟩ : ∃ m4, (I.px.take ((k + 1) * W)).length = m4 := ⟨_, rfl⟩
      rw [hm4] at e4
      subst e4
      have S4 := hid (S3.push hg hown)
      have B4 := S3.mid hg
      have hv3 : ∀ q, (Value.slice av m cv).ownBlock = some q → w2.heap.size + 1 ≤ q := fun q hq => (S3.own.lt q hq).1
      have X4 : Same 0 (w2.heap.size + 1) wr w4 := fun q _ hq => (hg.block q (by have := S3.box.lt; omega) (fun e => by have := hv3 q e.symm; omega)).trans (y3.block (by omega))
      have c2' := B4.cell 2 rfl
      have f2' := B4.free 2
      have z4 := B4.lt
      clear hg hown B4 hv3 hm4 S3 hrowi hcell
      go_wp2_with fail
      refine hK _ _ (.inr X4) ?_
      clear hK K X4 y3
      refine wpStages_cons ?_
      simp only [List.filterMap_cons, List.filterMap_nil, List.getElem?_toArray, List.getElem?_cons_zero, List.getElem?_cons_succ]
      show wpQuiet _ _ _ _ [_] _
      try simp only [Act.put, List.setIfInBounds_toArray, List.set_cons_succ, List.set_cons_zero]
      repeat (go_big_quiet_step (fail))
      refine wpQuiet_nil ⟨_, rfl, fun K hK => ?_⟩
      go_wp2
      refine hK _ _ (.inl (by trivial)) (wpStages_nil ?_)
      clear hK K
      go_wp2
      go_roundw
      case rel => exact ⟨k + 1, _, by omega, by go_num, S4.out⟩
      case measure => simp [intOf]; omega
    · obtain rfl : k = H := by omega
      have hst := HST.out
      rw [hn.out, List.take_of_length_le (by rw [hl'.out]; exact Nat.le_refl _)] at hst
      have o0 := hst.box.cell 0 rfl
      have o1 := hst.box.cell 1 rfl
      have R3 := C3.ext hst.ext
      have r0 := R3.cell 0 rfl
      have r1 := R3.cell 1 rfl
      have r2 := R3.cell 2 rfl
      have f0 := R3.free 0
      have f1 := R3.free 1
      have f2 := R3.free 2
      have zr := R3.lt
      have iW : I64 (W : Int) := ⟨by omega, by omega⟩
      have iH : I64 (k : Int) := ⟨by omega, by omega⟩
      have HS := hid hst
      have hz2 := X2.size
      have e3 : m = I.px.length := by rw [← HM.out, hn.out, List.take_of_length_le (by rw [hl'.out]; exact Nat.le_refl _)]
      subst e3
      clear hst
      go_wp2
      refine bodyPost_ret (v := .tuple #[.agg #[.int .i64 (W : Nat), .int .i64 (k : Nat), .slice av I.px.length cv], .bool true]) (by simp [results, Tryd.results9, go_sem, *]) rfl ⟨_, rfl, ⟨_, by rw [hIw.out, hIh.out], by rw [hIw.out]; exact iW, by rw [hIh.out]; exact iH, ?_⟩, ?_⟩
      · exact (((HS.out.own.setLow (by simp; omega) _).setLow (by simp; omega) _).setLow (by simp; omega) _).low (by omega)
      · exact (((X2.trans HS.out.ext).setCell (by simp; omega) _).setCell (by simp; omega) _).setCell (by simp; omega) _
end Go.Proofs.YtodblnccgpiigaaDoor
