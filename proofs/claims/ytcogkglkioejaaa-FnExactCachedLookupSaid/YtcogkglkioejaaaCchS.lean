/- This text holds the walk of the reference's CachedLookup. -/
import Derived.Test.YtcogkglkioejaaaCLk
import Derived.Test.YtcogkglkioejaaaUseS
import Derived.Test.YtcogkglkioejaaaL16b
import Derived.Test.YtcogkglkioejaaaL15k
namespace Go.Proofs.Ytcogkglkioejaaa
open Go.RowKit

set_option maxRecDepth 10000 in
set_option maxHeartbeats 3200000 in
theorem sCached_any (lo hi lo2 : Nat) (v cv : Value) (t : Tex) (C : CV) (ua va l : Int) (w : World) (hv : TexR lo hi w v t) (hh : hi ≤ w.heap.size) (hc : CO lo2 w cv C) (hL : C.L.length < 100000000) :
    Calls Try.prog 13 #[v, cv, .int .i64 ua, .int .i64 va, .int .i64 l] w fun e w' => ∃ r, e = .returned (.tuple #[.int .i64 (t.cachedN C ua va l), r]) ∧ CO w.heap.size w' r (t.cachedC C ua va l) ∧ Ext w w' := by
  have HV := hid hv
  obtain ⟨u, rfl, hlog⟩ := hv.shape
  have HC := hid hc
  obtain ⟨tv, rfl, hu, hr, hl⟩ := hc
  have HU := hid hu
  obtain ⟨ta, tc, rfl, _⟩ := hu.form
  rw [TLof_n] at *
  have hI := (ownT_iff.1 hu).2
  clear hu hv
  by_cases hok : (t.okB && C.ok) = true
  · have e1 : t.cachedN C ua va l = t.lookR ua va l := by unfold Tex.cachedN; rw [if_pos hok]
    have e2 : t.cachedC C ua va l = C.uses (t.tiles ua va l) := by unfold Tex.cachedC; rw [if_pos hok]
    rw [e1, e2]
    simp only [Bool.and_eq_true] at hok
    have HT := hid hok.1
    have HK := hid hok.2
    clear e1 e2 hok
    obtain ⟨x, hx⟩ : ∃ x, t.lookR ua va l = x := ⟨_, rfl⟩
    rw [hx]
    have HX := hid hx
    clear hx
    obtain ⟨ts, hts⟩ : ∃ ts, t.tiles ua va l = ts := ⟨_, rfl⟩
    rw [hts]
    have HTS := hid hts
    have hln := t.tiles_len ua va l
    rw [hts] at hln
    clear hts
    go_enter Try.func13, Try.ntmps13
    go_upto_region 1 with fail
    have hub : LB w (((w.alloc (.cells #[.int .i64 t.log, u] 25)).alloc (.cells #[.int .i64 C.room, .slice ta C.L.length tc, .int .i64 C.loads] 29)).alloc (.cells #[.int .i64 0, .slice none 0 0, .int .i64 0] 29)) t.log u C ta tc := by
      constructor
      case ext => exact (by repeat (with_reducible (first | assumption | exact Ext.refl _ | apply Ext.alloc | apply Ext.drew | apply Ext.drewN)))
      all_goals simp [go_sem]
    have hsz : w.heap.size + 3 = (((w.alloc (.cells #[.int .i64 t.log, u] 25)).alloc (.cells #[.int .i64 C.room, .slice ta C.L.length tc, .int .i64 C.loads] 29)).alloc (.cells #[.int .i64 0, .slice none 0 0, .int .i64 0] 29)).heap.size := by simp
    obtain ⟨w0, hw0⟩ : ∃ W, (((w.alloc (.cells #[.int .i64 t.log, u] 25)).alloc (.cells #[.int .i64 C.room, .slice ta C.L.length tc, .int .i64 C.loads] 29)).alloc (.cells #[.int .i64 0, .slice none 0 0, .int .i64 0] 29)) = W := ⟨_, rfl⟩
    rw [hw0] at hub hsz ⊢
    clear hw0
    have HB := hid hub
    have t0 := hub.t0
    have t1 := hub.t1
    have c0 := hub.c0
    have c1 := hub.c1
    have c2 := hub.c2
    have lt := hub.lt
    have s1 : w.heap.size < w0.heap.size := by omega
    have s2 : w.heap.size + 1 < w0.heap.size := by omega
    clear hub
    go_cut [12] from 15 to 23 (fun p wx => ∃ B tv, p = .pointer (some ⟨B, 0, none⟩) ∧ LP w wx t.log u C ta tc B C tv)
    case first =>
      refine wp_region_Z 10 w0.heap.size (by kernel_rfl) ?_
      refine wpZ_stage (fuel := 4) [0, 1, 3, 4, 6, 7] [2, 9] (by kernel_rfl) (fun _ _ _ => rfl) ?_
      try simp only [Act.put, List.setIfInBounds_toArray, List.set_cons_succ, List.set_cons_zero]
      simp only [List.filterMap_cons, List.filterMap_nil, List.getElem?_toArray, List.getElem?_cons_zero, List.getElem?_cons_succ]
      show wpQuiet _ _ _ _ [_, _, _, _, _, _] _
      repeat (go_big_quiet_step (fail))
      refine wpQuiet_nil ?_
      intro e he
      simp only [List.mem_cons, List.not_mem_nil, or_false] at he
      rcases he with rfl | rfl
      · (unfold wpComes; simp only [List.getElem?_toArray, List.getElem?_cons_succ, List.getElem?_cons_zero, Option.some.injEq]; refine ⟨_, rfl, fun K hK => ?_⟩)
        go_wp2_with fail
        have e2 : Ext w0 (w0.alloc (.cells #[] 60)).drew := (by repeat (with_reducible (first | assumption | exact Ext.refl _ | apply Ext.alloc | apply Ext.drew | apply Ext.drewN)))
        have o2 : (TLof []).Own (w.heap.size + 3) (w0.alloc (.cells #[] 60)).drew (.slice (some ⟨w0.heap.size, 0, none⟩) 0 0) := by
          rw [TLof_nil]
          exact (TL.nil_new w0 (w.heap.size + 3) (by omega)).ext (Ext.drew (Ext.refl _))
        have z2 : (w0.alloc (.cells #[] 60)).drew.heap.size = w0.heap.size + 1 := by simp
        obtain ⟨w2, hw2⟩ : ∃ W, (w0.alloc (.cells #[] 60)).drew = W := ⟨_, rfl⟩
        rw [hw2] at e2 o2 z2 ⊢
        refine hK _ _ (.inr (fun b _ hb => e2.block (by omega))) ?_
        clear hK K hw2
        refine wpZ_stage (fuel := 3) [] [5, 9] (by kernel_rfl) (fun b _ hb => e2.block (by omega)) ?_
        refine wpQuiet_nil ?_
        intro e he
        simp only [List.mem_cons, List.not_mem_nil, or_false] at he
        rcases he with rfl | rfl
        · (unfold wpComes; simp only [List.getElem?_toArray, List.getElem?_cons_succ, List.getElem?_cons_zero, Option.some.injEq]; refine ⟨_, rfl, fun K hK => ?_⟩)
          have u2 := HB.out.to e2
          go_wp2_with (at_builtin; refine wpList_append_tiles _ rfl _ _ rfl (w.heap.size + 3) _ [] rfl o2 C.L hI _ rfl (HU.out.ext u2.ext).appd (by simp; omega) (by omega) ?_; intro v' w5 hown hg)
          rw [List.nil_append] at hown
          obtain ⟨va, vc, rfl, _⟩ := hown.form
          rw [TLof_n] at hown ⊢
          have u5 := u2.grown hg (fun k e => (o2.lt k e).1)
          have z5 := hg.size
          refine hK _ _ (.inr (fun b _ hb => (hg.block b (by omega) (fun e => by have := (o2.lt b e.symm).1; omega)).trans (e2.block (by omega)))) ?_
          have hgb : ∀ b, b < w0.heap.size → w5.heap[b]? = w0.heap[b]? := fun b hb => (hg.block b (by omega) (fun e => by have := (o2.lt b e.symm).1; omega)).trans (e2.block (by omega))
          clear hK K u2
          refine wpZ_stage (fuel := 1) [8] [9] (by kernel_rfl) (fun b _ hb => hgb b (by omega)) ?_
          try simp only [Act.put, List.setIfInBounds_toArray, List.set_cons_succ, List.set_cons_zero]
          simp only [List.filterMap_cons, List.filterMap_nil, List.getElem?_toArray, List.getElem?_cons_zero, List.getElem?_cons_succ]
          show wpQuiet _ _ _ _ [_] _
          repeat (go_big_quiet_step (fail))
          refine wpQuiet_nil ?_
          intro e he
          simp only [List.mem_cons, List.not_mem_nil, or_false] at he
          subst he
          (unfold wpComes; simp only [List.getElem?_toArray, List.getElem?_cons_succ, List.getElem?_cons_zero, Option.some.injEq]; refine ⟨_, rfl, fun K hK => ?_⟩)
          go_wp2_with fail
          refine hK _ _ (.inr (fun b _ hb => (Ext.block (w := w5) (by repeat (with_reducible (first | assumption | exact Ext.refl _ | apply Ext.alloc | apply Ext.drew | apply Ext.drewN))) (by omega)).trans (hgb b (by omega)))) ?_
          clear hK K
          refine wpZ_stage (fuel := 0) [] [10] (by kernel_rfl) (fun b _ hb => (Ext.block (w := w5) (by repeat (with_reducible (first | assumption | exact Ext.refl _ | apply Ext.alloc | apply Ext.drew | apply Ext.drewN))) (by omega)).trans (hgb b (by omega))) ?_
          refine wpQuiet_nil ?_
          intro e he
          simp only [List.mem_cons, List.not_mem_nil, or_false] at he
          subst he
          (unfold wpComes; simp only [List.getElem?_toArray, List.getElem?_cons_succ, List.getElem?_cons_zero, Option.some.injEq]; refine ⟨_, rfl, fun K hK => ?_⟩)
          go_wp2_with fail
          refine hK _ _ (.inl (by trivial)) ?_
          clear hK K
          refine wpZ_end (by kernel_rfl) ?_
          go_wp2_with fail
          go_meet
          exact ⟨_, _, rfl, by omega, u5.to (by repeat (with_reducible (first | assumption | exact Ext.refl _ | apply Ext.alloc | apply Ext.drew | apply Ext.drewN))), CBx.made w5 _ _ _, hown.ext (by repeat (with_reducible (first | assumption | exact Ext.refl _ | apply Ext.alloc | apply Ext.drew | apply Ext.drewN)))⟩
        · (unfold wpComes; simp only [List.getElem?_toArray, List.getElem?_cons_succ, List.getElem?_cons_zero, Option.some.injEq]; refine ⟨_, rfl, fun K hK => ?_⟩)
          go_wp2_with fail
          have e9 : Ext w2 (w2.alloc (.cells #[.int .i64 0, .slice none 0 0, .int .i64 0] 29)) := (by repeat (with_reducible (first | assumption | exact Ext.refl _ | apply Ext.alloc | apply Ext.drew | apply Ext.drewN)))
          have cb := (CBx.made w2 0 0 (.slice none 0 0))
          refine hK _ _ (.inr (fun b _ hb => (e9.block (by omega)).trans (e2.block (by omega)))) ?_
          clear hK K
          have E2 := e2.trans e9
          have O2 := o2.ext e9
          have z3 := e9.size
          have z4 : w2.heap.size < (w2.alloc (.cells #[.int .i64 0, .slice none 0 0, .int .i64 0] 29)).heap.size := by simp
          obtain ⟨w3, hw3⟩ : ∃ W, w2.alloc (.cells #[.int .i64 0, .slice none 0 0, .int .i64 0] 29) = W := ⟨_, rfl⟩
          rw [hw3] at cb E2 O2 z3 z4 ⊢
          rw [z2] at cb
          clear e9 hw3 o2 e2
          refine wpZ_stage (fuel := 2) [] [5] (by kernel_rfl) (fun b _ hb => E2.block (by omega)) ?_
          refine wpQuiet_nil ?_
          intro e he
          simp only [List.mem_cons, List.not_mem_nil, or_false] at he
          subst he
          (unfold wpComes; simp only [List.getElem?_toArray, List.getElem?_cons_succ, List.getElem?_cons_zero, Option.some.injEq]; refine ⟨_, rfl, fun K hK => ?_⟩)
          have u2 := HB.out.to E2
          go_wp2_with (at_builtin; refine wpList_append_tiles _ rfl _ _ rfl (w.heap.size + 3) _ [] rfl O2 C.L hI _ rfl (HU.out.ext u2.ext).appd (by simp; omega) (by omega) ?_; intro v' w5 hown hg)
          rw [List.nil_append] at hown
          obtain ⟨va, vc, rfl, _⟩ := hown.form
          rw [TLof_n] at hown ⊢
          have u5 := u2.grown hg (fun k e => (O2.lt k e).1)
          have z5 := hg.size
          have cb5 := cb.grown hg (cb.ne O2)
          refine hK _ _ (.inr (fun b _ hb => (hg.block b (by omega) (fun e => by have := (O2.lt b e.symm).1; omega)).trans (E2.block (by omega)))) ?_
          have hgb : ∀ b, b < w0.heap.size → w5.heap[b]? = w0.heap[b]? := fun b hb => (hg.block b (by omega) (fun e => by have := (O2.lt b e.symm).1; omega)).trans (E2.block (by omega))
          clear hK K u2
          refine wpZ_stage (fuel := 0) [8] [10] (by kernel_rfl) (fun b _ hb => hgb b (by omega)) ?_
          try simp only [Act.put, List.setIfInBounds_toArray, List.set_cons_succ, List.set_cons_zero]
          simp only [List.filterMap_cons, List.filterMap_nil, List.getElem?_toArray, List.getElem?_cons_zero, List.getElem?_cons_succ]
          show wpQuiet _ _ _ _ [_] _
          repeat (go_big_quiet_step (fail))
          refine wpQuiet_nil ?_
          intro e he
          simp only [List.mem_cons, List.not_mem_nil, or_false] at he
          subst he
          (unfold wpComes; simp only [List.getElem?_toArray, List.getElem?_cons_succ, List.getElem?_cons_zero, Option.some.injEq]; refine ⟨_, rfl, fun K hK => ?_⟩)
          obtain ⟨f0, f1, f2⟩ : _ ∧ _ ∧ _ := ⟨cb5.fz 0, cb5.fz 1, cb5.fz 2⟩
          have g0 := cb5.c0
          have g1 := cb5.c1
          have g2 := cb5.c2
          go_wp2_with fail
          refine hK _ _ (.inl (by trivial)) ?_
          clear hK K
          refine wpZ_end (by kernel_rfl) ?_
          go_wp2_with fail
          go_meet
          exact ⟨_, _, rfl, LP.made (D := C) (by omega) u5 cb5 hown⟩
      · (unfold wpComes; simp only [List.getElem?_toArray, List.getElem?_cons_succ, List.getElem?_cons_zero, Option.some.injEq]; refine ⟨_, rfl, fun K hK => ?_⟩)
        go_wp2_with fail
        have e9 : Ext w0 (w0.alloc (.cells #[.int .i64 0, .slice none 0 0, .int .i64 0] 29)).drew := (by repeat (with_reducible (first | assumption | exact Ext.refl _ | apply Ext.alloc | apply Ext.drew | apply Ext.drewN)))
        have cb := (CBx.made w0 0 0 (.slice none 0 0)).ext (Ext.drew (Ext.refl _))
        have z9 : (w0.alloc (.cells #[.int .i64 0, .slice none 0 0, .int .i64 0] 29)).drew.heap.size = w0.heap.size + 1 := by simp
        obtain ⟨w9, hw9⟩ : ∃ W, (w0.alloc (.cells #[.int .i64 0, .slice none 0 0, .int .i64 0] 29)).drew = W := ⟨_, rfl⟩
        rw [hw9] at e9 cb z9 ⊢
        refine hK _ _ (.inr (fun b _ hb => e9.block (by omega))) ?_
        clear hK K hw9
        refine wpZ_stage (fuel := 3) [] [2] (by kernel_rfl) (fun b _ hb => e9.block (by omega)) ?_
        refine wpQuiet_nil ?_
        intro e he
        simp only [List.mem_cons, List.not_mem_nil, or_false] at he
        subst he
        (unfold wpComes; simp only [List.getElem?_toArray, List.getElem?_cons_succ, List.getElem?_cons_zero, Option.some.injEq]; refine ⟨_, rfl, fun K hK => ?_⟩)
        go_wp2_with fail
        have E2 : Ext w0 (w9.alloc (.cells #[] 60)) := e9.alloc _
        have O2 : (TLof []).Own (w.heap.size + 3) (w9.alloc (.cells #[] 60)) (.slice (some ⟨w9.heap.size, 0, none⟩) 0 0) := by
          rw [TLof_nil]
          exact TL.nil_new w9 (w.heap.size + 3) (by omega)
        rw [z9] at O2
        have z2 : (w9.alloc (.cells #[] 60)).heap.size = w9.heap.size + 1 := by simp
        replace cb := cb.ext (W' := w9.alloc (.cells #[] 60)) (by repeat (with_reducible (first | assumption | exact Ext.refl _ | apply Ext.alloc | apply Ext.drew | apply Ext.drewN)))
        obtain ⟨w3, hw3⟩ : ∃ W, w9.alloc (.cells #[] 60) = W := ⟨_, rfl⟩
        rw [hw3] at E2 O2 z2 cb ⊢
        refine hK _ _ (.inr (fun b _ hb => E2.block (by omega))) ?_
        clear hK K hw3
        refine wpZ_stage (fuel := 2) [] [5] (by kernel_rfl) (fun b _ hb => E2.block (by omega)) ?_
        refine wpQuiet_nil ?_
        intro e he
        simp only [List.mem_cons, List.not_mem_nil, or_false] at he
        subst he
        (unfold wpComes; simp only [List.getElem?_toArray, List.getElem?_cons_succ, List.getElem?_cons_zero, Option.some.injEq]; refine ⟨_, rfl, fun K hK => ?_⟩)
        have u2 := HB.out.to E2
        go_wp2_with (at_builtin; refine wpList_append_tiles _ rfl _ _ rfl (w.heap.size + 3) _ [] rfl O2 C.L hI _ rfl (HU.out.ext u2.ext).appd (by simp; omega) (by omega) ?_; intro v' w5 hown hg)
        rw [List.nil_append] at hown
        obtain ⟨va, vc, rfl, _⟩ := hown.form
        rw [TLof_n] at hown ⊢
        have u5 := u2.grown hg (fun k e => (O2.lt k e).1)
        have z5 := hg.size
        have cb5 := cb.grown hg (cb.ne O2)
        refine hK _ _ (.inr (fun b _ hb => (hg.block b (by omega) (fun e => by have := (O2.lt b e.symm).1; omega)).trans (E2.block (by omega)))) ?_
        have hgb : ∀ b, b < w0.heap.size → w5.heap[b]? = w0.heap[b]? := fun b hb => (hg.block b (by omega) (fun e => by have := (O2.lt b e.symm).1; omega)).trans (E2.block (by omega))
        clear hK K u2
        refine wpZ_stage (fuel := 0) [8] [10] (by kernel_rfl) (fun b _ hb => hgb b (by omega)) ?_
        try simp only [Act.put, List.setIfInBounds_toArray, List.set_cons_succ, List.set_cons_zero]
        simp only [List.filterMap_cons, List.filterMap_nil, List.getElem?_toArray, List.getElem?_cons_zero, List.getElem?_cons_succ]
        show wpQuiet _ _ _ _ [_] _
        repeat (go_big_quiet_step (fail))
        refine wpQuiet_nil ?_
        intro e he
        simp only [List.mem_cons, List.not_mem_nil, or_false] at he
        subst he
        (unfold wpComes; simp only [List.getElem?_toArray, List.getElem?_cons_succ, List.getElem?_cons_zero, Option.some.injEq]; refine ⟨_, rfl, fun K hK => ?_⟩)
        obtain ⟨f0, f1, f2⟩ : _ ∧ _ ∧ _ := ⟨cb5.fz 0, cb5.fz 1, cb5.fz 2⟩
        have g0 := cb5.c0
        have g1 := cb5.c1
        have g2 := cb5.c2
        go_wp2_with fail
        refine hK _ _ (.inl (by trivial)) ?_
        clear hK K
        refine wpZ_end (by kernel_rfl) ?_
        go_wp2_with fail
        go_meet
        exact ⟨_, _, rfl, LP.made (D := C) (by omega) u5 cb5 hown⟩
    obtain ⟨B, tv, rfl, hlp⟩ := hcut
    obtain ⟨va', vc, rfl, _⟩ := hlp.2.2.2.form
    rw [TLof_n] at *
    have HP := hid hlp
    clear t0 t1 c0 c1 c2 lt s1 s2 HB hsz
    have t0 := hlp.2.1.t0
    have t1 := hlp.2.1.t1
    have c0 := hlp.2.1.c0
    have c1 := hlp.2.1.c1
    have c2 := hlp.2.1.c2
    have lt := hlp.2.1.lt
    have s1 : w.heap.size < wc.heap.size := by omega
    have s2 : w.heap.size + 1 < wc.heap.size := by omega
    clear hlp
    go_wp2_with fail
    refine (sIsValidTexture_val HT.out lo hi _ _ (HV.out.ext hh HP.out.2.1.ext) (Nat.le_trans hh HP.out.2.1.ext.size)).mono ?_
    rintro e w1 ⟨rfl, x1⟩
    have hlp := HP.out.ext x1
    have H1 := hid hlp
    clear t0 t1 c0 c1 c2 lt s1 s2 HP x1
    have t0 := hlp.2.1.t0
    have t1 := hlp.2.1.t1
    have c0 := hlp.2.1.c0
    have c1 := hlp.2.1.c1
    have c2 := hlp.2.1.c2
    have lt := hlp.2.1.lt
    have s1 : w.heap.size < w1.heap.size := by omega
    have s2 : w.heap.size + 1 < w1.heap.size := by omega
    clear hlp
    go_wp2_with fail
    refine (sIsValidCache_any lo2 _ _ C _ ((HC.out.ext H1.out.2.1.ext).R) (Nat.le_refl _)).mono ?_
    rintro e w2 ⟨rfl, x2⟩
    rw [HK.out]
    have hlp := H1.out.ext x2
    have H2 := hid hlp
    clear t0 t1 c0 c1 c2 lt s1 s2 H1 x2
    have t0 := hlp.2.1.t0
    have t1 := hlp.2.1.t1
    have c0 := hlp.2.1.c0
    have c1 := hlp.2.1.c1
    have c2 := hlp.2.1.c2
    have lt := hlp.2.1.lt
    have s1 : w.heap.size < w2.heap.size := by omega
    have s2 : w.heap.size + 1 < w2.heap.size := by omega
    clear hlp
    go_wp2_with fail
    refine (sTilesFor_any lo hi _ t ua va l _ (HV.out.ext hh H2.out.2.1.ext) (Nat.le_trans hh H2.out.2.1.ext.size)).mono ?_
    rintro e w5 ⟨r5, rfl, ho5, x5⟩
    replace ho5 := tiles_own ho5
    rw [HTS.out] at ho5
    obtain ⟨ra, rc, rfl, _⟩ := ho5.form
    rw [TLof_n] at *
    have hlr : LR w w5 t.log u C ta tc B ts ra rc 0 := ⟨⟨_, _, H2.out.ext x5⟩, ho5.low (by omega), CV.ok_len HK.out, hr, hl⟩
    clear x5 ho5 H2 t0 t1 c0 c1 c2 lt s1 s2
    go_wp2_with fail
    go_loopw [39] (fun i wr => ∃ k : Nat, k ≤ ts.length ∧ i = .int .i64 k ∧ LR w wr t.log u C ta tc B ts ra rc k) (fun i _ => ts.length - (intOf i).toNat)
    case atStart => exact ⟨0, by omega, rfl, hlr⟩
    case round =>
      obtain ⟨k, hk, rfl, hlr⟩ := hrel
      have HL := hid hlr
      obtain ⟨⟨da, dn, hlp⟩, -, -, -, -⟩ := hlr
      have HPX := hid hlp
      have g0 := hlp.2.2.1.c0
      have g1 := hlp.2.2.1.c1
      have g2 := hlp.2.2.1.c2
      have gl := hlp.2.2.1.lt
      have t0 := hlp.2.1.t0
      have t1 := hlp.2.1.t1
      have ltx := hlp.2.1.lt
      have szx : w.heap.size < wr.heap.size := by omega
      clear hlp
      by_cases hlt : k < ts.length
      · have hti : ts[k].I := (ownT_iff.1 HL.out.tl).2 _ (List.getElem_mem hlt)
        obtain ⟨a', cap', e', HF⟩ := Flats.open HL.out.tl.R
        obtain ⟨rfl, -, rfl⟩ : ra = a' ∧ True ∧ rc = cap' := by simp at e'; exact ⟨e'.1, trivial, by omega⟩
        clear e'
        obtain ⟨g, off, rfl, hb1, hb2, hcx⟩ := HF.at hlt (by decide)
        have q0 := hcx 0 (by decide)
        have q1 := hcx 1 (by decide)
        have q2 := hcx 2 (by decide)
        obtain ⟨e0, e1, e2⟩ := TLof_at hlt
        simp only [Nat.add_zero] at q0
        rw [e0] at q0
        rw [e1] at q1
        rw [e2] at q2
        have hle := HF.le
        have hcap := HF.cap
        rw [TLof_n] at hle
        clear e0 e1 e2 hcx HF
        have HXT := hid (show ts[k] = ts[k] from rfl)
        obtain ⟨ty, hty⟩ : ∃ x, ts[k] = x := ⟨_, rfl⟩
        rw [hty] at q0 q1 q2 hti
        have HTY := hid hty
        clear hty HXT
        go_wp2_with fail
        refine (sUseTile_any _ _ _ ty _ ((HL.out.ext (by repeat (with_reducible (first | assumption | exact Ext.refl _ | apply Ext.alloc | apply Ext.drew | apply Ext.drewN)))).co (HPX.out.ext (by repeat (with_reducible (first | assumption | exact Ext.refl _ | apply Ext.alloc | apply Ext.drew | apply Ext.drewN))))) hti (by have := HL.out.len; omega)).mono ?_
        rintro e w4 ⟨r4, rfl, hco, x4⟩
        have X4 : Ext wr w4 := Ext.trans (by repeat (with_reducible (first | assumption | exact Ext.refl _ | apply Ext.alloc | apply Ext.drew | apply Ext.drewN))) x4
        have z4 := x4.size
        simp at z4
        obtain ⟨tv4, rfl, hco1, hco2, hco3⟩ := hco
        obtain ⟨a4, n4, hv4, _⟩ := hco1.form
        rw [TLof_n] at hv4
        subst hv4
        have cb4 := HPX.out.2.2.1.ext X4
        have f0 := cb4.fz 0
        have f1 := cb4.fz 1
        have f2 := cb4.fz 2
        have g0 := cb4.c0
        have g1 := cb4.c1
        have g2 := cb4.c2
        have gl := cb4.lt
        have ho4 := hid (hco1.low (show wr.heap.size ≤ _ by simp))
        clear cb4 x4 hco1
        go_wp2_with fail
        go_roundw
        case rel =>
          refine ⟨k + 1, by omega, by go_num, ?_⟩
          have h := HL.out.next hlt X4 (by omega) (da := a4) (dn := n4) (r := .int .i64 0) (by rw [HTY.out]; exact ⟨_, rfl, ho4.out, hco2, hco3⟩)
          rw [HTY.out] at h
          exact h
        case measure => simp [intOf]; omega
      · obtain rfl : k = ts.length := by omega
        have HI := hid (⟨HL.out.room, HL.out.loads⟩ : I64 (C.uses (ts.take ts.length)).room ∧ I64 (C.uses (ts.take ts.length)).loads)
        rw [List.take_length] at *
        clear HL
        generalize hD : C.uses ts = D at *
        have HD := hid hD
        clear hD
        go_wp2_with fail
        refine wp_region_stages [([0, 1, 2, 3, 5], 4), ([6], 7)] 7 wr.heap.size (by kernel_rfl) (by kernel_rfl) ?_
        refine wpStages_cons ?_
        simp only [List.filterMap_cons, List.filterMap_nil, List.getElem?_toArray, List.getElem?_cons_zero, List.getElem?_cons_succ]
        show wpQuiet _ _ _ _ [_, _, _, _, _] _
        repeat (go_big_quiet_step (fail))
        refine wpQuiet_nil ⟨_, rfl, fun K hK => ?_⟩
        go_wp2_with (go_at_call 41; refine (sLookup_val HX.out lo hi _ _ (HV.out.ext hh (HPX.out.2.1.ext.trans (by repeat (with_reducible (first | assumption | exact Ext.refl _ | apply Ext.alloc | apply Ext.drew | apply Ext.drewN))))) (by have := HPX.out.2.1.ext.size; simp; omega)).mono ?_; rintro e w5 ⟨rfl, x5⟩)
        have X5 : Ext wr w5 := Ext.trans (by repeat (with_reducible (first | assumption | exact Ext.refl _ | apply Ext.alloc | apply Ext.drew | apply Ext.drewN))) x5
        refine hK _ _ (.inr (fun k _ hk => X5.block (by omega))) ?_
        clear hK K x5
        have hcp := HPX.out.ext X5
        clear HPX t0 t1 g0 g1 g2 gl ltx szx X5
        have HPX := hid hcp
        have p0 := HPX.out.2.1.p0
        have p1 := HPX.out.2.1.p1
        have p2 := HPX.out.2.1.p2
        have f0 := HPX.out.2.1.f0
        have f1 := HPX.out.2.1.f1
        have f2 := HPX.out.2.1.f2
        have ltx := HPX.out.2.1.lt
        have szx : w.heap.size + 1 + 1 < w5.heap.size := by omega
        clear hcp
        refine wpStages_cons ?_
        simp only [List.filterMap_cons, List.filterMap_nil, List.getElem?_toArray, List.getElem?_cons_zero, List.getElem?_cons_succ]
        show wpQuiet _ _ _ _ [_] _
        repeat (go_big_quiet_step (fail))
        refine wpQuiet_nil ⟨_, rfl, fun K hK => ?_⟩
        go_wp2
        refine hK _ _ (.inl trivial) ?_
        clear hK K
        refine wpStages_nil ?_
        go_wp2_with fail
        refine bodyPost_ret (v := .tuple #[.int .i64 x, .agg #[.int .i64 D.room, .slice da D.L.length dn, .int .i64 D.loads]]) (by simp [results, Try.results13, go_sem, *]) rfl ⟨_, rfl, ?_, HPX.out.done.2⟩
        rw [HD.out]
        exact ⟨_, rfl, HPX.out.done.1, HI.out.1, HI.out.2⟩
  · have e1 : t.cachedN C ua va l = 0 := by unfold Tex.cachedN; rw [if_neg hok]
    have e2 : t.cachedC C ua va l = C := by unfold Tex.cachedC; rw [if_neg hok]
    rw [e1, e2]
    clear e1 e2
    obtain ⟨b1, hb1⟩ : ∃ b, t.okB = b := ⟨_, rfl⟩
    obtain ⟨b2, hb2⟩ : ∃ b, C.ok = b := ⟨_, rfl⟩
    rw [hb1, hb2] at hok
    have HT := hid hb1
    have HK := hid hb2
    clear hb1 hb2
    go_enter Try.func13, Try.ntmps13
    go_upto_region 1 with fail
    have hub : LB w (((w.alloc (.cells #[.int .i64 t.log, u] 25)).alloc (.cells #[.int .i64 C.room, .slice ta C.L.length tc, .int .i64 C.loads] 29)).alloc (.cells #[.int .i64 0, .slice none 0 0, .int .i64 0] 29)) t.log u C ta tc := by
      constructor
      case ext => exact (by repeat (with_reducible (first | assumption | exact Ext.refl _ | apply Ext.alloc | apply Ext.drew | apply Ext.drewN)))
      all_goals simp [go_sem]
    have hsz : w.heap.size + 3 = (((w.alloc (.cells #[.int .i64 t.log, u] 25)).alloc (.cells #[.int .i64 C.room, .slice ta C.L.length tc, .int .i64 C.loads] 29)).alloc (.cells #[.int .i64 0, .slice none 0 0, .int .i64 0] 29)).heap.size := by simp
    obtain ⟨w0, hw0⟩ : ∃ W, (((w.alloc (.cells #[.int .i64 t.log, u] 25)).alloc (.cells #[.int .i64 C.room, .slice ta C.L.length tc, .int .i64 C.loads] 29)).alloc (.cells #[.int .i64 0, .slice none 0 0, .int .i64 0] 29)) = W := ⟨_, rfl⟩
    rw [hw0] at hub hsz ⊢
    clear hw0
    have HB := hid hub
    have t0 := hub.t0
    have t1 := hub.t1
    have c0 := hub.c0
    have c1 := hub.c1
    have c2 := hub.c2
    have lt := hub.lt
    have s1 : w.heap.size < w0.heap.size := by omega
    have s2 : w.heap.size + 1 < w0.heap.size := by omega
    clear hub
    go_cut [12] from 15 to 23 (fun p wx => ∃ B tv, p = .pointer (some ⟨B, 0, none⟩) ∧ LP w wx t.log u C ta tc B C tv)
    case first =>
      refine wp_region_Z 10 w0.heap.size (by kernel_rfl) ?_
      refine wpZ_stage (fuel := 4) [0, 1, 3, 4, 6, 7] [2, 9] (by kernel_rfl) (fun _ _ _ => rfl) ?_
      try simp only [Act.put, List.setIfInBounds_toArray, List.set_cons_succ, List.set_cons_zero]
      simp only [List.filterMap_cons, List.filterMap_nil, List.getElem?_toArray, List.getElem?_cons_zero, List.getElem?_cons_succ]
      show wpQuiet _ _ _ _ [_, _, _, _, _, _] _
      repeat (go_big_quiet_step (fail))
      refine wpQuiet_nil ?_
      intro e he
      simp only [List.mem_cons, List.not_mem_nil, or_false] at he
      rcases he with rfl | rfl
      · (unfold wpComes; simp only [List.getElem?_toArray, List.getElem?_cons_succ, List.getElem?_cons_zero, Option.some.injEq]; refine ⟨_, rfl, fun K hK => ?_⟩)
        go_wp2_with fail
        have e2 : Ext w0 (w0.alloc (.cells #[] 60)).drew := (by repeat (with_reducible (first | assumption | exact Ext.refl _ | apply Ext.alloc | apply Ext.drew | apply Ext.drewN)))
        have o2 : (TLof []).Own (w.heap.size + 3) (w0.alloc (.cells #[] 60)).drew (.slice (some ⟨w0.heap.size, 0, none⟩) 0 0) := by
          rw [TLof_nil]
          exact (TL.nil_new w0 (w.heap.size + 3) (by omega)).ext (Ext.drew (Ext.refl _))
        have z2 : (w0.alloc (.cells #[] 60)).drew.heap.size = w0.heap.size + 1 := by simp
        obtain ⟨w2, hw2⟩ : ∃ W, (w0.alloc (.cells #[] 60)).drew = W := ⟨_, rfl⟩
        rw [hw2] at e2 o2 z2 ⊢
        refine hK _ _ (.inr (fun b _ hb => e2.block (by omega))) ?_
        clear hK K hw2
        refine wpZ_stage (fuel := 3) [] [5, 9] (by kernel_rfl) (fun b _ hb => e2.block (by omega)) ?_
        refine wpQuiet_nil ?_
        intro e he
        simp only [List.mem_cons, List.not_mem_nil, or_false] at he
        rcases he with rfl | rfl
        · (unfold wpComes; simp only [List.getElem?_toArray, List.getElem?_cons_succ, List.getElem?_cons_zero, Option.some.injEq]; refine ⟨_, rfl, fun K hK => ?_⟩)
          have u2 := HB.out.to e2
          go_wp2_with (at_builtin; refine wpList_append_tiles _ rfl _ _ rfl (w.heap.size + 3) _ [] rfl o2 C.L hI _ rfl (HU.out.ext u2.ext).appd (by simp; omega) (by omega) ?_; intro v' w5 hown hg)
          rw [List.nil_append] at hown
          obtain ⟨va, vc, rfl, _⟩ := hown.form
          rw [TLof_n] at hown ⊢
          have u5 := u2.grown hg (fun k e => (o2.lt k e).1)
          have z5 := hg.size
          refine hK _ _ (.inr (fun b _ hb => (hg.block b (by omega) (fun e => by have := (o2.lt b e.symm).1; omega)).trans (e2.block (by omega)))) ?_
          have hgb : ∀ b, b < w0.heap.size → w5.heap[b]? = w0.heap[b]? := fun b hb => (hg.block b (by omega) (fun e => by have := (o2.lt b e.symm).1; omega)).trans (e2.block (by omega))
          clear hK K u2
          refine wpZ_stage (fuel := 1) [8] [9] (by kernel_rfl) (fun b _ hb => hgb b (by omega)) ?_
          try simp only [Act.put, List.setIfInBounds_toArray, List.set_cons_succ, List.set_cons_zero]
          simp only [List.filterMap_cons, List.filterMap_nil, List.getElem?_toArray, List.getElem?_cons_zero, List.getElem?_cons_succ]
          show wpQuiet _ _ _ _ [_] _
          repeat (go_big_quiet_step (fail))
          refine wpQuiet_nil ?_
          intro e he
          simp only [List.mem_cons, List.not_mem_nil, or_false] at he
          subst he
          (unfold wpComes; simp only [List.getElem?_toArray, List.getElem?_cons_succ, List.getElem?_cons_zero, Option.some.injEq]; refine ⟨_, rfl, fun K hK => ?_⟩)
          go_wp2_with fail
          refine hK _ _ (.inr (fun b _ hb => (Ext.block (w := w5) (by repeat (with_reducible (first | assumption | exact Ext.refl _ | apply Ext.alloc | apply Ext.drew | apply Ext.drewN))) (by omega)).trans (hgb b (by omega)))) ?_
          clear hK K
          refine wpZ_stage (fuel := 0) [] [10] (by kernel_rfl) (fun b _ hb => (Ext.block (w := w5) (by repeat (with_reducible (first | assumption | exact Ext.refl _ | apply Ext.alloc | apply Ext.drew | apply Ext.drewN))) (by omega)).trans (hgb b (by omega))) ?_
          refine wpQuiet_nil ?_
          intro e he
          simp only [List.mem_cons, List.not_mem_nil, or_false] at he
          subst he
          (unfold wpComes; simp only [List.getElem?_toArray, List.getElem?_cons_succ, List.getElem?_cons_zero, Option.some.injEq]; refine ⟨_, rfl, fun K hK => ?_⟩)
          go_wp2_with fail
          refine hK _ _ (.inl (by trivial)) ?_
          clear hK K
          refine wpZ_end (by kernel_rfl) ?_
          go_wp2_with fail
          go_meet
          exact ⟨_, _, rfl, by omega, u5.to (by repeat (with_reducible (first | assumption | exact Ext.refl _ | apply Ext.alloc | apply Ext.drew | apply Ext.drewN))), CBx.made w5 _ _ _, hown.ext (by repeat (with_reducible (first | assumption | exact Ext.refl _ | apply Ext.alloc | apply Ext.drew | apply Ext.drewN)))⟩
        · (unfold wpComes; simp only [List.getElem?_toArray, List.getElem?_cons_succ, List.getElem?_cons_zero, Option.some.injEq]; refine ⟨_, rfl, fun K hK => ?_⟩)
          go_wp2_with fail
          have e9 : Ext w2 (w2.alloc (.cells #[.int .i64 0, .slice none 0 0, .int .i64 0] 29)) := (by repeat (with_reducible (first | assumption | exact Ext.refl _ | apply Ext.alloc | apply Ext.drew | apply Ext.drewN)))
          have cb := (CBx.made w2 0 0 (.slice none 0 0))
          refine hK _ _ (.inr (fun b _ hb => (e9.block (by omega)).trans (e2.block (by omega)))) ?_
          clear hK K
          have E2 := e2.trans e9
          have O2 := o2.ext e9
          have z3 := e9.size
          have z4 : w2.heap.size < (w2.alloc (.cells #[.int .i64 0, .slice none 0 0, .int .i64 0] 29)).heap.size := by simp
          obtain ⟨w3, hw3⟩ : ∃ W, w2.alloc (.cells #[.int .i64 0, .slice none 0 0, .int .i64 0] 29) = W := ⟨_, rfl⟩
          rw [hw3] at cb E2 O2 z3 z4 ⊢
          rw [z2] at cb
          clear e9 hw3 o2 e2
          refine wpZ_stage (fuel := 2) [] [5] (by kernel_rfl) (fun b _ hb => E2.block (by omega)) ?_
          refine wpQuiet_nil ?_
          intro e he
          simp only [List.mem_cons, List.not_mem_nil, or_false] at he
          subst he
          (unfold wpComes; simp only [List.getElem?_toArray, List.getElem?_cons_succ, List.getElem?_cons_zero, Option.some.injEq]; refine ⟨_, rfl, fun K hK => ?_⟩)
          have u2 := HB.out.to E2
          go_wp2_with (at_builtin; refine wpList_append_tiles _ rfl _ _ rfl (w.heap.size + 3) _ [] rfl O2 C.L hI _ rfl (HU.out.ext u2.ext).appd (by simp; omega) (by omega) ?_; intro v' w5 hown hg)
          rw [List.nil_append] at hown
          obtain ⟨va, vc, rfl, _⟩ := hown.form
          rw [TLof_n] at hown ⊢
          have u5 := u2.grown hg (fun k e => (O2.lt k e).1)
          have z5 := hg.size
          have cb5 := cb.grown hg (cb.ne O2)
          refine hK _ _ (.inr (fun b _ hb => (hg.block b (by omega) (fun e => by have := (O2.lt b e.symm).1; omega)).trans (E2.block (by omega)))) ?_
          have hgb : ∀ b, b < w0.heap.size → w5.heap[b]? = w0.heap[b]? := fun b hb => (hg.block b (by omega) (fun e => by have := (O2.lt b e.symm).1; omega)).trans (E2.block (by omega))
          clear hK K u2
          refine wpZ_stage (fuel := 0) [8] [10] (by kernel_rfl) (fun b _ hb => hgb b (by omega)) ?_
          try simp only [Act.put, List.setIfInBounds_toArray, List.set_cons_succ, List.set_cons_zero]
          simp only [List.filterMap_cons, List.filterMap_nil, List.getElem?_toArray, List.getElem?_cons_zero, List.getElem?_cons_succ]
          show wpQuiet _ _ _ _ [_] _
          repeat (go_big_quiet_step (fail))
          refine wpQuiet_nil ?_
          intro e he
          simp only [List.mem_cons, List.not_mem_nil, or_false] at he
          subst he
          (unfold wpComes; simp only [List.getElem?_toArray, List.getElem?_cons_succ, List.getElem?_cons_zero, Option.some.injEq]; refine ⟨_, rfl, fun K hK => ?_⟩)
          obtain ⟨f0, f1, f2⟩ : _ ∧ _ ∧ _ := ⟨cb5.fz 0, cb5.fz 1, cb5.fz 2⟩
          have g0 := cb5.c0
          have g1 := cb5.c1
          have g2 := cb5.c2
          go_wp2_with fail
          refine hK _ _ (.inl (by trivial)) ?_
          clear hK K
          refine wpZ_end (by kernel_rfl) ?_
          go_wp2_with fail
          go_meet
          exact ⟨_, _, rfl, LP.made (D := C) (by omega) u5 cb5 hown⟩
      · (unfold wpComes; simp only [List.getElem?_toArray, List.getElem?_cons_succ, List.getElem?_cons_zero, Option.some.injEq]; refine ⟨_, rfl, fun K hK => ?_⟩)
        go_wp2_with fail
        have e9 : Ext w0 (w0.alloc (.cells #[.int .i64 0, .slice none 0 0, .int .i64 0] 29)).drew := (by repeat (with_reducible (first | assumption | exact Ext.refl _ | apply Ext.alloc | apply Ext.drew | apply Ext.drewN)))
        have cb := (CBx.made w0 0 0 (.slice none 0 0)).ext (Ext.drew (Ext.refl _))
        have z9 : (w0.alloc (.cells #[.int .i64 0, .slice none 0 0, .int .i64 0] 29)).drew.heap.size = w0.heap.size + 1 := by simp
        obtain ⟨w9, hw9⟩ : ∃ W, (w0.alloc (.cells #[.int .i64 0, .slice none 0 0, .int .i64 0] 29)).drew = W := ⟨_, rfl⟩
        rw [hw9] at e9 cb z9 ⊢
        refine hK _ _ (.inr (fun b _ hb => e9.block (by omega))) ?_
        clear hK K hw9
        refine wpZ_stage (fuel := 3) [] [2] (by kernel_rfl) (fun b _ hb => e9.block (by omega)) ?_
        refine wpQuiet_nil ?_
        intro e he
        simp only [List.mem_cons, List.not_mem_nil, or_false] at he
        subst he
        (unfold wpComes; simp only [List.getElem?_toArray, List.getElem?_cons_succ, List.getElem?_cons_zero, Option.some.injEq]; refine ⟨_, rfl, fun K hK => ?_⟩)
        go_wp2_with fail
        have E2 : Ext w0 (w9.alloc (.cells #[] 60)) := e9.alloc _
        have O2 : (TLof []).Own (w.heap.size + 3) (w9.alloc (.cells #[] 60)) (.slice (some ⟨w9.heap.size, 0, none⟩) 0 0) := by
          rw [TLof_nil]
          exact TL.nil_new w9 (w.heap.size + 3) (by omega)
        rw [z9] at O2
        have z2 : (w9.alloc (.cells #[] 60)).heap.size = w9.heap.size + 1 := by simp
        replace cb := cb.ext (W' := w9.alloc (.cells #[] 60)) (by repeat (with_reducible (first | assumption | exact Ext.refl _ | apply Ext.alloc | apply Ext.drew | apply Ext.drewN)))
        obtain ⟨w3, hw3⟩ : ∃ W, w9.alloc (.cells #[] 60) = W := ⟨_, rfl⟩
        rw [hw3] at E2 O2 z2 cb ⊢
        refine hK _ _ (.inr (fun b _ hb => E2.block (by omega))) ?_
        clear hK K hw3
        refine wpZ_stage (fuel := 2) [] [5] (by kernel_rfl) (fun b _ hb => E2.block (by omega)) ?_
        refine wpQuiet_nil ?_
        intro e he
        simp only [List.mem_cons, List.not_mem_nil, or_false] at he
        subst he
        (unfold wpComes; simp only [List.getElem?_toArray, List.getElem?_cons_succ, List.getElem?_cons_zero, Option.some.injEq]; refine ⟨_, rfl, fun K hK => ?_⟩)
        have u2 := HB.out.to E2
        go_wp2_with (at_builtin; refine wpList_append_tiles _ rfl _ _ rfl (w.heap.size + 3) _ [] rfl O2 C.L hI _ rfl (HU.out.ext u2.ext).appd (by simp; omega) (by omega) ?_; intro v' w5 hown hg)
        rw [List.nil_append] at hown
        obtain ⟨va, vc, rfl, _⟩ := hown.form
        rw [TLof_n] at hown ⊢
        have u5 := u2.grown hg (fun k e => (O2.lt k e).1)
        have z5 := hg.size
        have cb5 := cb.grown hg (cb.ne O2)
        refine hK _ _ (.inr (fun b _ hb => (hg.block b (by omega) (fun e => by have := (O2.lt b e.symm).1; omega)).trans (E2.block (by omega)))) ?_
        have hgb : ∀ b, b < w0.heap.size → w5.heap[b]? = w0.heap[b]? := fun b hb => (hg.block b (by omega) (fun e => by have := (O2.lt b e.symm).1; omega)).trans (E2.block (by omega))
        clear hK K u2
        refine wpZ_stage (fuel := 0) [8] [10] (by kernel_rfl) (fun b _ hb => hgb b (by omega)) ?_
        try simp only [Act.put, List.setIfInBounds_toArray, List.set_cons_succ, List.set_cons_zero]
        simp only [List.filterMap_cons, List.filterMap_nil, List.getElem?_toArray, List.getElem?_cons_zero, List.getElem?_cons_succ]
        show wpQuiet _ _ _ _ [_] _
        repeat (go_big_quiet_step (fail))
        refine wpQuiet_nil ?_
        intro e he
        simp only [List.mem_cons, List.not_mem_nil, or_false] at he
        subst he
        (unfold wpComes; simp only [List.getElem?_toArray, List.getElem?_cons_succ, List.getElem?_cons_zero, Option.some.injEq]; refine ⟨_, rfl, fun K hK => ?_⟩)
        obtain ⟨f0, f1, f2⟩ : _ ∧ _ ∧ _ := ⟨cb5.fz 0, cb5.fz 1, cb5.fz 2⟩
        have g0 := cb5.c0
        have g1 := cb5.c1
        have g2 := cb5.c2
        go_wp2_with fail
        refine hK _ _ (.inl (by trivial)) ?_
        clear hK K
        refine wpZ_end (by kernel_rfl) ?_
        go_wp2_with fail
        go_meet
        exact ⟨_, _, rfl, LP.made (D := C) (by omega) u5 cb5 hown⟩
    obtain ⟨B, tv, rfl, hlp⟩ := hcut
    obtain ⟨va', vc, rfl, _⟩ := hlp.2.2.2.form
    rw [TLof_n] at *
    have HP := hid hlp
    clear t0 t1 c0 c1 c2 lt s1 s2 HB hsz
    have t0 := hlp.2.1.t0
    have t1 := hlp.2.1.t1
    have c0 := hlp.2.1.c0
    have c1 := hlp.2.1.c1
    have c2 := hlp.2.1.c2
    have lt := hlp.2.1.lt
    have s1 : w.heap.size < wc.heap.size := by omega
    have s2 : w.heap.size + 1 < wc.heap.size := by omega
    clear hlp
    have hcases : (b1 = false) ∨ (b1 = true ∧ b2 = false) := by cases b1 <;> cases b2 <;> simp_all
    clear hok
    rcases hcases with rfl | ⟨rfl, rfl⟩
    · go_wp2_with fail
      refine (sIsValidTexture_val HT.out lo hi _ _ (HV.out.ext hh HP.out.2.1.ext) (Nat.le_trans hh HP.out.2.1.ext.size)).mono ?_
      rintro e w1 ⟨rfl, x1⟩
      have hlp := HP.out.ext x1
      have H1 := hid hlp
      clear t0 t1 c0 c1 c2 lt s1 s2 HP x1
      have t0 := hlp.2.1.t0
      have t1 := hlp.2.1.t1
      have c0 := hlp.2.1.c0
      have c1 := hlp.2.1.c1
      have c2 := hlp.2.1.c2
      have lt := hlp.2.1.lt
      have s1 : w.heap.size < w1.heap.size := by omega
      have s2 : w.heap.size + 1 < w1.heap.size := by omega
      have g0 := hlp.2.2.1.c0
      have g1 := hlp.2.2.1.c1
      have g2 := hlp.2.2.1.c2
      have gl := hlp.2.2.1.lt
      have p0 := hlp.2.1.p0
      have p1 := hlp.2.1.p1
      have p2 := hlp.2.1.p2
      have f0 := hlp.2.1.f0
      have f1 := hlp.2.1.f1
      have f2 := hlp.2.1.f2
      have s3 : w.heap.size + 1 + 1 < w1.heap.size := by omega
      clear hlp
      go_wp2_with fail
      refine wp_region_stages [([0, 1], 2)] 2 w1.heap.size (by kernel_rfl) (by kernel_rfl) ?_
      refine wpStages_cons ?_
      simp only [List.filterMap_cons, List.filterMap_nil, List.getElem?_toArray, List.getElem?_cons_zero, List.getElem?_cons_succ]
      show wpQuiet _ _ _ _ [_, _] _
      repeat (go_big_quiet_step (fail))
      refine wpQuiet_nil ⟨_, rfl, fun K hK => ?_⟩
      go_wp2
      refine hK _ _ (.inl trivial) ?_
      clear hK K
      refine wpStages_nil ?_
      go_wp2_with fail
      have hd := (H1.out.ext (W' := w1.drew) (by repeat (with_reducible (first | assumption | exact Ext.refl _ | apply Ext.alloc | apply Ext.drew | apply Ext.drewN)))).done
      refine bodyPost_ret (v := .tuple #[.int .i64 0, .agg #[.int .i64 C.room, .slice va' C.L.length vc, .int .i64 C.loads]]) (by simp [results, Try.results13, go_sem, *]) rfl ⟨_, rfl, ⟨_, rfl, hd.1, hr, hl⟩, hd.2⟩
    · go_wp2_with fail
      refine (sIsValidTexture_val HT.out lo hi _ _ (HV.out.ext hh HP.out.2.1.ext) (Nat.le_trans hh HP.out.2.1.ext.size)).mono ?_
      rintro e w1 ⟨rfl, x1⟩
      have hlp := HP.out.ext x1
      have H1 := hid hlp
      clear t0 t1 c0 c1 c2 lt s1 s2 HP x1
      have t0 := hlp.2.1.t0
      have t1 := hlp.2.1.t1
      have c0 := hlp.2.1.c0
      have c1 := hlp.2.1.c1
      have c2 := hlp.2.1.c2
      have lt := hlp.2.1.lt
      have s1 : w.heap.size < w1.heap.size := by omega
      have s2 : w.heap.size + 1 < w1.heap.size := by omega
      clear hlp
      go_wp2_with fail
      refine (sIsValidCache_any lo2 _ _ C _ ((HC.out.ext H1.out.2.1.ext).R) (Nat.le_refl _)).mono ?_
      rintro e w2 ⟨rfl, x2⟩
      rw [HK.out]
      have hlp := H1.out.ext x2
      have H2 := hid hlp
      clear t0 t1 c0 c1 c2 lt s1 s2 H1 x2
      have t0 := hlp.2.1.t0
      have t1 := hlp.2.1.t1
      have c0 := hlp.2.1.c0
      have c1 := hlp.2.1.c1
      have c2 := hlp.2.1.c2
      have lt := hlp.2.1.lt
      have s1 : w.heap.size < w2.heap.size := by omega
      have s2 : w.heap.size + 1 < w2.heap.size := by omega
      have g0 := hlp.2.2.1.c0
      have g1 := hlp.2.2.1.c1
      have g2 := hlp.2.2.1.c2
      have gl := hlp.2.2.1.lt
      have p0 := hlp.2.1.p0
      have p1 := hlp.2.1.p1
      have p2 := hlp.2.1.p2
      have f0 := hlp.2.1.f0
      have f1 := hlp.2.1.f1
      have f2 := hlp.2.1.f2
      have s3 : w.heap.size + 1 + 1 < w2.heap.size := by omega
      clear hlp
      go_wp2_with fail
      refine wp_region_stages [([0, 1], 2)] 2 w2.heap.size (by kernel_rfl) (by kernel_rfl) ?_
      refine wpStages_cons ?_
      simp only [List.filterMap_cons, List.filterMap_nil, List.getElem?_toArray, List.getElem?_cons_zero, List.getElem?_cons_succ]
      show wpQuiet _ _ _ _ [_, _] _
      repeat (go_big_quiet_step (fail))
      refine wpQuiet_nil ⟨_, rfl, fun K hK => ?_⟩
      go_wp2
      refine hK _ _ (.inl trivial) ?_
      clear hK K
      refine wpStages_nil ?_
      go_wp2_with fail
      have hd := (H2.out.ext (W' := w2.drew) (by repeat (with_reducible (first | assumption | exact Ext.refl _ | apply Ext.alloc | apply Ext.drew | apply Ext.drewN)))).done
      refine bodyPost_ret (v := .tuple #[.int .i64 0, .agg #[.int .i64 C.room, .slice va' C.L.length vc, .int .i64 C.loads]]) (by simp [results, Try.results13, go_sem, *]) rfl ⟨_, rfl, ⟨_, rfl, hd.1, hr, hl⟩, hd.2⟩
end Go.Proofs.Ytcogkglkioejaaa
