/- This text holds the walk of the reference's UseTile. -/
import Derived.Test.YtcogkglkioejaaaUBox
import Derived.Test.YtcogkglkioejaaaUseV
namespace Go.Proofs.Ytcogkglkioejaaa
open Go.RowKit

theorem addr_add_add (a : Addr) (m n : Nat) : (a.add m).add n = a.add (m + n) := by
  unfold Addr.add
  split <;> split <;> split <;> simp_all <;> omega

set_option maxRecDepth 10000 in
set_option maxHeartbeats 3200000 in
theorem sUseTile_any (lo : Nat) (v : Value) (C : CV) (t : T3) (w : World) (hv : CO lo w v C) (ht : t.I) (hL : C.L.length < 100000000) :
    Calls Try.prog 40 #[v, t.val] w fun e w' => ∃ r, e = .returned r ∧ CO w.heap.size w' r (C.use t) ∧ Ext w w' := by
  have HV := hid hv
  obtain ⟨tv, rfl, hu, hr, hl⟩ := hv
  have HU := hid hu
  obtain ⟨ta, tc, rfl, _⟩ := hu.form
  rw [TLof_n] at *
  have hI := (ownT_iff.1 hu).2
  clear hu
  unfold T3.val
  go_enter Try.func40, Try.ntmps40
  go_upto_region 1 with fail
  have hub : UB w (((w.alloc (.cells #[.int .i64 C.room, .slice ta C.L.length tc, .int .i64 C.loads] 29)).alloc (.cells #[.int .i64 t.l, .int .i64 t.x, .int .i64 t.y] 60)).alloc (.cells #[.int .i64 0, .slice none 0 0, .int .i64 0] 29)) C t ta tc := by
    constructor
    case ext => exact (by repeat (with_reducible (first | assumption | exact Ext.refl _ | apply Ext.alloc | apply Ext.drew | apply Ext.drewN)))
    all_goals simp [go_sem]
  have hsz : w.heap.size + 3 = (((w.alloc (.cells #[.int .i64 C.room, .slice ta C.L.length tc, .int .i64 C.loads] 29)).alloc (.cells #[.int .i64 t.l, .int .i64 t.x, .int .i64 t.y] 60)).alloc (.cells #[.int .i64 0, .slice none 0 0, .int .i64 0] 29)).heap.size := by simp
  obtain ⟨w1, hw1⟩ : ∃ W, (((w.alloc (.cells #[.int .i64 C.room, .slice ta C.L.length tc, .int .i64 C.loads] 29)).alloc (.cells #[.int .i64 t.l, .int .i64 t.x, .int .i64 t.y] 60)).alloc (.cells #[.int .i64 0, .slice none 0 0, .int .i64 0] 29)) = W := ⟨_, rfl⟩
  rw [hw1] at hub hsz ⊢
  clear hw1
  have HB := hid hub
  have b0 := hub.c0
  have b1 := hub.c1
  have b2 := hub.c2
  have s1 : w.heap.size < w1.heap.size := by omega
  clear hub
  go_cut [5] from 8 to 16 (fun p wx => ∃ B tv, p = .pointer (some ⟨B, 0, none⟩) ∧ CpS w wx C t ta tc B C.L tv C.loads)
  case first =>
    refine wp_region_Z 10 w1.heap.size (by kernel_rfl) ?_
    refine wpZ_stage (fuel := 4) [0, 1, 3, 4, 6, 7] [2, 9] (by kernel_rfl) (fun _ _ _ => rfl) ?_
    try simp only [Act.put, List.setIfInBounds_toArray, List.set_cons_succ, List.set_cons_zero]
    simp only [List.filterMap_cons, List.filterMap_nil, List.getElem?_toArray, List.getElem?_cons_zero, List.getElem?_cons_succ]
    show wpQuiet _ _ _ _ [_, _, _, _, _, _] _
    repeat (go_big_quiet_step (fail))
    refine wpQuiet_nil ?_
    intro e he
    simp only [List.mem_cons, List.not_mem_nil, or_false] at he
    rcases he with rfl | rfl
    · (unfold wpComes; simp only [List.getElem?_toArray, List.getElem?_cons_succ, List.getElem?_cons_zero, Option.some.injEq]; refine ⟨_, rfl, fun K hK => ?_⟩)
      go_wp2_with fail
      have e2 : Ext w1 (w1.alloc (.cells #[] 60)).drew := (by repeat (with_reducible (first | assumption | exact Ext.refl _ | apply Ext.alloc | apply Ext.drew | apply Ext.drewN)))
      have o2 : (TLof []).Own (w.heap.size + 3) (w1.alloc (.cells #[] 60)).drew (.slice (some ⟨w1.heap.size, 0, none⟩) 0 0) := by
        rw [TLof_nil]
        exact (TL.nil_new w1 (w.heap.size + 3) (by omega)).ext (Ext.drew (Ext.refl _))
      have z2 : (w1.alloc (.cells #[] 60)).drew.heap.size = w1.heap.size + 1 := by simp
      obtain ⟨w2, hw2⟩ : ∃ W, (w1.alloc (.cells #[] 60)).drew = W := ⟨_, rfl⟩
      rw [hw2] at e2 o2 z2 ⊢
      refine hK _ _ (.inr (fun b _ hb => e2.block (by omega))) ?_
      clear hK K hw2
      refine wpZ_stage (fuel := 3) [] [5, 9] (by kernel_rfl) (fun b _ hb => e2.block (by omega)) ?_
      refine wpQuiet_nil ?_
      intro e he
      simp only [List.mem_cons, List.not_mem_nil, or_false] at he
      rcases he with rfl | rfl
      · (unfold wpComes; simp only [List.getElem?_toArray, List.getElem?_cons_succ, List.getElem?_cons_zero, Option.some.injEq]; refine ⟨_, rfl, fun K hK => ?_⟩)
        have u2 := HB.out.to e2
        go_wp2_with (at_builtin; refine wpList_append_tiles _ rfl _ _ rfl (w.heap.size + 3) _ [] rfl o2 C.L hI _ rfl (HU.out.ext u2.ext).appd (by simp; omega) (by omega) ?_; intro v' w5 hown hg)
        rw [List.nil_append] at hown
        obtain ⟨va, vc, rfl, _⟩ := hown.form
        rw [TLof_n] at hown ⊢
        have u5 := u2.grown hg (fun k e => (o2.lt k e).1)
        have z5 := hg.size
        refine hK _ _ (.inr (fun b _ hb => (hg.block b (by omega) (fun e => by have := (o2.lt b e.symm).1; omega)).trans (e2.block (by omega)))) ?_
        have hgb : ∀ b, b < w1.heap.size → w5.heap[b]? = w1.heap[b]? := fun b hb => (hg.block b (by omega) (fun e => by have := (o2.lt b e.symm).1; omega)).trans (e2.block (by omega))
        clear hK K u2
        refine wpZ_stage (fuel := 1) [8] [9] (by kernel_rfl) (fun b _ hb => hgb b (by omega)) ?_
        try simp only [Act.put, List.setIfInBounds_toArray, List.set_cons_succ, List.set_cons_zero]
        simp only [List.filterMap_cons, List.filterMap_nil, List.getElem?_toArray, List.getElem?_cons_zero, List.getElem?_cons_succ]
        show wpQuiet _ _ _ _ [_] _
        repeat (go_big_quiet_step (fail))
        refine wpQuiet_nil ?_
        intro e he
        simp only [List.mem_cons, List.not_mem_nil, or_false] at he
        subst he
        (unfold wpComes; simp only [List.getElem?_toArray, List.getElem?_cons_succ, List.getElem?_cons_zero, Option.some.injEq]; refine ⟨_, rfl, fun K hK => ?_⟩)
        go_wp2_with fail
        refine hK _ _ (.inr (fun b _ hb => (Ext.block (w := w5) (by repeat (with_reducible (first | assumption | exact Ext.refl _ | apply Ext.alloc | apply Ext.drew | apply Ext.drewN))) (by omega)).trans (hgb b (by omega)))) ?_
        clear hK K
        refine wpZ_stage (fuel := 0) [] [10] (by kernel_rfl) (fun b _ hb => (Ext.block (w := w5) (by repeat (with_reducible (first | assumption | exact Ext.refl _ | apply Ext.alloc | apply Ext.drew | apply Ext.drewN))) (by omega)).trans (hgb b (by omega))) ?_
        refine wpQuiet_nil ?_
        intro e he
        simp only [List.mem_cons, List.not_mem_nil, or_false] at he
        subst he
        (unfold wpComes; simp only [List.getElem?_toArray, List.getElem?_cons_succ, List.getElem?_cons_zero, Option.some.injEq]; refine ⟨_, rfl, fun K hK => ?_⟩)
        go_wp2_with fail
        refine hK _ _ (.inl (by trivial)) ?_
        clear hK K
        refine wpZ_end (by kernel_rfl) ?_
        go_wp2_with fail
        go_meet
        exact ⟨_, _, rfl, by omega, u5.to (by repeat (with_reducible (first | assumption | exact Ext.refl _ | apply Ext.alloc | apply Ext.drew | apply Ext.drewN))), CBx.made w5 _ _ _, hown.ext (by repeat (with_reducible (first | assumption | exact Ext.refl _ | apply Ext.alloc | apply Ext.drew | apply Ext.drewN)))⟩
      · (unfold wpComes; simp only [List.getElem?_toArray, List.getElem?_cons_succ, List.getElem?_cons_zero, Option.some.injEq]; refine ⟨_, rfl, fun K hK => ?_⟩)
        go_wp2_with fail
        have e9 : Ext w2 (w2.alloc (.cells #[.int .i64 0, .slice none 0 0, .int .i64 0] 29)) := (by repeat (with_reducible (first | assumption | exact Ext.refl _ | apply Ext.alloc | apply Ext.drew | apply Ext.drewN)))
        have cb := (CBx.made w2 0 0 (.slice none 0 0))
        refine hK _ _ (.inr (fun b _ hb => (e9.block (by omega)).trans (e2.block (by omega)))) ?_
        clear hK K
        have E2 := e2.trans e9
        have O2 := o2.ext e9
        have z3 := e9.size
        have z4 : w2.heap.size < (w2.alloc (.cells #[.int .i64 0, .slice none 0 0, .int .i64 0] 29)).heap.size := by simp
        obtain ⟨w3, hw3⟩ : ∃ W, w2.alloc (.cells #[.int .i64 0, .slice none 0 0, .int .i64 0] 29) = W := ⟨_, rfl⟩
        rw [hw3] at cb E2 O2 z3 z4 ⊢
        rw [z2] at cb
        clear e9 hw3 o2 e2
        refine wpZ_stage (fuel := 2) [] [5] (by kernel_rfl) (fun b _ hb => E2.block (by omega)) ?_
        refine wpQuiet_nil ?_
        intro e he
        simp only [List.mem_cons, List.not_mem_nil, or_false] at he
        subst he
        (unfold wpComes; simp only [List.getElem?_toArray, List.getElem?_cons_succ, List.getElem?_cons_zero, Option.some.injEq]; refine ⟨_, rfl, fun K hK => ?_⟩)
        have u2 := HB.out.to E2
        go_wp2_with (at_builtin; refine wpList_append_tiles _ rfl _ _ rfl (w.heap.size + 3) _ [] rfl O2 C.L hI _ rfl (HU.out.ext u2.ext).appd (by simp; omega) (by omega) ?_; intro v' w5 hown hg)
        rw [List.nil_append] at hown
        obtain ⟨va, vc, rfl, _⟩ := hown.form
        rw [TLof_n] at hown ⊢
        have u5 := u2.grown hg (fun k e => (O2.lt k e).1)
        have z5 := hg.size
        have cb5 := cb.grown hg (cb.ne O2)
        refine hK _ _ (.inr (fun b _ hb => (hg.block b (by omega) (fun e => by have := (O2.lt b e.symm).1; omega)).trans (E2.block (by omega)))) ?_
        have hgb : ∀ b, b < w1.heap.size → w5.heap[b]? = w1.heap[b]? := fun b hb => (hg.block b (by omega) (fun e => by have := (O2.lt b e.symm).1; omega)).trans (E2.block (by omega))
        clear hK K u2
        refine wpZ_stage (fuel := 0) [8] [10] (by kernel_rfl) (fun b _ hb => hgb b (by omega)) ?_
        try simp only [Act.put, List.setIfInBounds_toArray, List.set_cons_succ, List.set_cons_zero]
        simp only [List.filterMap_cons, List.filterMap_nil, List.getElem?_toArray, List.getElem?_cons_zero, List.getElem?_cons_succ]
        show wpQuiet _ _ _ _ [_] _
        repeat (go_big_quiet_step (fail))
        refine wpQuiet_nil ?_
        intro e he
        simp only [List.mem_cons, List.not_mem_nil, or_false] at he
        subst he
        (unfold wpComes; simp only [List.getElem?_toArray, List.getElem?_cons_succ, List.getElem?_cons_zero, Option.some.injEq]; refine ⟨_, rfl, fun K hK => ?_⟩)
        obtain ⟨f0, f1, f2⟩ : _ ∧ _ ∧ _ := ⟨cb5.fz 0, cb5.fz 1, cb5.fz 2⟩
        have g0 := cb5.c0
        have g1 := cb5.c1
        have g2 := cb5.c2
        go_wp2_with fail
        refine hK _ _ (.inl (by trivial)) ?_
        clear hK K
        refine wpZ_end (by kernel_rfl) ?_
        go_wp2_with fail
        go_meet
        exact ⟨_, _, rfl, CpS.made (by omega) u5 cb5 hown⟩
    · (unfold wpComes; simp only [List.getElem?_toArray, List.getElem?_cons_succ, List.getElem?_cons_zero, Option.some.injEq]; refine ⟨_, rfl, fun K hK => ?_⟩)
      go_wp2_with fail
      have e9 : Ext w1 (w1.alloc (.cells #[.int .i64 0, .slice none 0 0, .int .i64 0] 29)).drew := (by repeat (with_reducible (first | assumption | exact Ext.refl _ | apply Ext.alloc | apply Ext.drew | apply Ext.drewN)))
      have cb := (CBx.made w1 0 0 (.slice none 0 0)).ext (Ext.drew (Ext.refl _))
      have z9 : (w1.alloc (.cells #[.int .i64 0, .slice none 0 0, .int .i64 0] 29)).drew.heap.size = w1.heap.size + 1 := by simp
      obtain ⟨w9, hw9⟩ : ∃ W, (w1.alloc (.cells #[.int .i64 0, .slice none 0 0, .int .i64 0] 29)).drew = W := ⟨_, rfl⟩
      rw [hw9] at e9 cb z9 ⊢
      refine hK _ _ (.inr (fun b _ hb => e9.block (by omega))) ?_
      clear hK K hw9
      refine wpZ_stage (fuel := 3) [] [2] (by kernel_rfl) (fun b _ hb => e9.block (by omega)) ?_
      refine wpQuiet_nil ?_
      intro e he
      simp only [List.mem_cons, List.not_mem_nil, or_false] at he
      subst he
      (unfold wpComes; simp only [List.getElem?_toArray, List.getElem?_cons_succ, List.getElem?_cons_zero, Option.some.injEq]; refine ⟨_, rfl, fun K hK => ?_⟩)
      go_wp2_with fail
      have E2 : Ext w1 (w9.alloc (.cells #[] 60)) := e9.alloc _
      have O2 : (TLof []).Own (w.heap.size + 3) (w9.alloc (.cells #[] 60)) (.slice (some ⟨w9.heap.size, 0, none⟩) 0 0) := by
        rw [TLof_nil]
        exact TL.nil_new w9 (w.heap.size + 3) (by omega)
      rw [z9] at O2
      have z2 : (w9.alloc (.cells #[] 60)).heap.size = w9.heap.size + 1 := by simp
      replace cb := cb.ext (W' := w9.alloc (.cells #[] 60)) (by repeat (with_reducible (first | assumption | exact Ext.refl _ | apply Ext.alloc | apply Ext.drew | apply Ext.drewN)))
      obtain ⟨w3, hw3⟩ : ∃ W, w9.alloc (.cells #[] 60) = W := ⟨_, rfl⟩
      rw [hw3] at E2 O2 z2 cb ⊢
      refine hK _ _ (.inr (fun b _ hb => E2.block (by omega))) ?_
      clear hK K hw3
      refine wpZ_stage (fuel := 2) [] [5] (by kernel_rfl) (fun b _ hb => E2.block (by omega)) ?_
      refine wpQuiet_nil ?_
      intro e he
      simp only [List.mem_cons, List.not_mem_nil, or_false] at he
      subst he
      (unfold wpComes; simp only [List.getElem?_toArray, List.getElem?_cons_succ, List.getElem?_cons_zero, Option.some.injEq]; refine ⟨_, rfl, fun K hK => ?_⟩)
      have u2 := HB.out.to E2
      go_wp2_with (at_builtin; refine wpList_append_tiles _ rfl _ _ rfl (w.heap.size + 3) _ [] rfl O2 C.L hI _ rfl (HU.out.ext u2.ext).appd (by simp; omega) (by omega) ?_; intro v' w5 hown hg)
      rw [List.nil_append] at hown
      obtain ⟨va, vc, rfl, _⟩ := hown.form
      rw [TLof_n] at hown ⊢
      have u5 := u2.grown hg (fun k e => (O2.lt k e).1)
      have z5 := hg.size
      have cb5 := cb.grown hg (cb.ne O2)
      refine hK _ _ (.inr (fun b _ hb => (hg.block b (by omega) (fun e => by have := (O2.lt b e.symm).1; omega)).trans (E2.block (by omega)))) ?_
      have hgb : ∀ b, b < w1.heap.size → w5.heap[b]? = w1.heap[b]? := fun b hb => (hg.block b (by omega) (fun e => by have := (O2.lt b e.symm).1; omega)).trans (E2.block (by omega))
      clear hK K u2
      refine wpZ_stage (fuel := 0) [8] [10] (by kernel_rfl) (fun b _ hb => hgb b (by omega)) ?_
      try simp only [Act.put, List.setIfInBounds_toArray, List.set_cons_succ, List.set_cons_zero]
      simp only [List.filterMap_cons, List.filterMap_nil, List.getElem?_toArray, List.getElem?_cons_zero, List.getElem?_cons_succ]
      show wpQuiet _ _ _ _ [_] _
      repeat (go_big_quiet_step (fail))
      refine wpQuiet_nil ?_
      intro e he
      simp only [List.mem_cons, List.not_mem_nil, or_false] at he
      subst he
      (unfold wpComes; simp only [List.getElem?_toArray, List.getElem?_cons_succ, List.getElem?_cons_zero, Option.some.injEq]; refine ⟨_, rfl, fun K hK => ?_⟩)
      obtain ⟨f0, f1, f2⟩ : _ ∧ _ ∧ _ := ⟨cb5.fz 0, cb5.fz 1, cb5.fz 2⟩
      have g0 := cb5.c0
      have g1 := cb5.c1
      have g2 := cb5.c2
      go_wp2_with fail
      refine hK _ _ (.inl (by trivial)) ?_
      clear hK K
      refine wpZ_end (by kernel_rfl) ?_
      go_wp2_with fail
      go_meet
      exact ⟨_, _, rfl, CpS.made (by omega) u5 cb5 hown⟩
  obtain ⟨B, tv, rfl, hcp⟩ := hcut
  obtain ⟨va, vc, rfl, _⟩ := hcp.2.2.2.form
  rw [TLof_n] at *
  have HP := hid hcp
  have c0 := hcp.2.1.c0
  have c1 := hcp.2.1.c1
  have c2 := hcp.2.1.c2
  have lt := hcp.2.1.lt
  have sz : w.heap.size < wc.heap.size := by omega
  clear hcp b0 b1 b2 s1 hsz HB
  cases hok : C.ok
  · have hus : C.use t = C := by unfold CV.use; rw [hok]; rfl
    have HK := hid hok
    have HUS := hid hus
    clear hok hus
    go_wp2_with fail
    refine (sIsValidCache_any lo _ _ C _ ((HV.out.ext HP.out.2.1.ext).R) (Nat.le_refl _)).mono ?_
    rintro e w2 ⟨rfl, x2⟩
    rw [HK.out]
    have hp2 := HP.out.ext x2
    have HP2 := hid hp2
    have lt2 := hp2.2.1.lt
    have p0 := hp2.2.1.p0
    have p1 := hp2.2.1.p1
    have p2 := hp2.2.1.p2
    have f0 := hp2.2.1.f0
    have f1 := hp2.2.1.f1
    have f2 := hp2.2.1.f2
    have g0 := hp2.2.2.1.c0
    have g1 := hp2.2.2.1.c1
    have g2 := hp2.2.2.1.c2
    have gl := hp2.2.2.1.lt
    have s2 : w.heap.size + 1 + 1 < w2.heap.size := by omega
    clear hp2 x2 c0 c1 c2 lt
    go_wp2_with fail
    refine bodyPost_ret (v := .agg #[.int .i64 C.room, .slice va C.L.length vc, .int .i64 C.loads]) (by simp [results, Try.results40, go_sem, *]) rfl ⟨_, rfl, ?_, HP2.out.done.2⟩
    rw [HUS.out]
    exact ⟨_, rfl, HP2.out.done.1, hr, hl⟩
  · have HK := hid hok
    clear hok
    obtain ⟨r, hri⟩ : ∃ r, ix C.L ⟨t.l, t.x, t.y⟩ = r := ⟨_, rfl⟩
    go_wp2_with fail
    refine (sIsValidCache_any lo _ _ C _ ((HV.out.ext HP.out.2.1.ext).R) (Nat.le_refl _)).mono ?_
    rintro e w2 ⟨rfl, x2⟩
    rw [HK.out]
    have hp2 := HP.out.ext x2
    have HP2 := hid hp2
    have lt2 := hp2.2.1.lt
    have c0 := hp2.2.1.c0
    have c1 := hp2.2.1.c1
    have c2 := hp2.2.1.c2
    have d0 := hp2.2.1.d0
    have d1 := hp2.2.1.d1
    have d2 := hp2.2.1.d2
    have sz : w.heap.size < w2.heap.size := by omega
    have sz2 : w.heap.size + 1 < w2.heap.size := by omega
    clear hp2 x2 HP
    go_wp2_with fail
    refine (l16Ix_any lo _ _ C.L _ _ _ _ hri (HU.out.ext HP2.out.2.1.ext).R (Nat.le_refl _)).mono ?_
    rintro e w3 ⟨rfl, x3⟩
    have hp3 := HP2.out.ext x3
    have HP3 := hid hp3
    have HRI := hid hri
    clear hp3 c0 c1 c2 d0 d1 d2 sz sz2 lt2 x3 HP2 hri
    have hri := HRI.out
    unfold ix at hri
    by_cases hm : t ∈ C.L
    · rw [if_pos hm] at hri
      have hk := List.idxOf_lt_length_of_mem hm
      have hut : C.use t = ⟨C.room, C.L.take (C.L.idxOf t) ++ C.L.drop (C.L.idxOf t + 1) ++ [t], C.loads⟩ := by
        unfold CV.use
        have hb := CV.ok_bd HK.out
        have hlen : ((C.L.erase t ++ [t]).length : Int) = C.L.length := by
          have := List.length_erase_of_mem hm
          simp
          omega
        rw [if_pos HK.out, if_neg (by rw [hlen]; omega), if_pos hm, List.erase_eq_eraseIdx_of_idxOf rfl, List.eraseIdx_eq_take_drop_succ]
      have HUT := hid hut
      have hri : ((C.L.idxOf t : Nat) : Int) = r := hri
      clear hut
      generalize C.L.idxOf t = k at hk hri HUT
      subst hri
      obtain ⟨⟨e, h0⟩ | ⟨ad, cap, e, hcA⟩⟩ := (⟨HU.out.appd⟩ : PLift _)
      · rw [h0] at hm; simp at hm
      simp only [Value.slice.injEq, true_and] at e
      obtain ⟨rfl, rfl⟩ := e
      have hcap : C.L.length ≤ tc := by
        obtain ⟨a', cap', e', HF⟩ := Flats.open HU.out.R
        simp only [Value.slice.injEq] at e'
        have := HF.le
        rw [TLof_n] at this
        omega
      have c0 := HP3.out.2.1.c1
      have lt := HP3.out.2.1.lt
      have sz : w.heap.size < w3.heap.size := by omega
      have hklen : (C.L.take k).length = k := by simp; omega
      have hdlen : (C.L.drop (k + 1)).length = C.L.length - (k + 1) := by simp
      have hIt : ∀ x ∈ C.L.take k, x.I := fun x hx => hI x (List.mem_of_mem_take hx)
      have hId : ∀ x ∈ C.L.drop (k + 1), x.I := fun x hx => hI x (List.mem_of_mem_drop hx)
      have ad1 : ∀ W : World, Ext w W → (Value.slice (some ad) k tc = .slice none 0 0 ∧ C.L.take k = []) ∨ ∃ a c, Value.slice (some ad) k tc = .slice (some a) (C.L.take k).length c ∧ ∀ i, i < (C.L.take k).length * 3 → W.cell? (a.add i) = some (.int .i64 ((TLof (C.L.take k)).f i)) := fun W e => by
        rcases (HU.out.ext e).appd with ⟨h, _⟩ | ⟨a, c, h, hc⟩
        · cases h
        · simp only [Value.slice.injEq, true_and, Option.some.injEq] at h
          obtain ⟨rfl, rfl⟩ := h
          exact .inr ⟨_, _, by rw [hklen], fun i hi => by rw [hklen] at hi; rw [TLof_take hi]; exact hc i (by omega)⟩
      have o3 : (TLof []).Own (w.heap.size + 3) (w3.alloc (.cells #[] 60)) (.slice (some ⟨w3.heap.size, 0, none⟩) 0 0) := by
        rw [TLof_nil]
        exact TL.nil_new w3 (w.heap.size + 3) (by omega)
      have e3 : Ext w (w3.alloc (.cells #[] 60)) := HP3.out.2.1.ext.alloc _
      go_upto_region 7 with (at_builtin; refine wpList_append_tiles _ rfl _ _ rfl (w.heap.size + 3) _ [] rfl o3 (C.L.take k) hIt _ rfl (ad1 _ e3) (by simp; omega) (by simp; omega) ?_; intro v4 w4 hown4 hg4)
      have hp4 := (HP3.out.ext (W' := w3.alloc (.cells #[] 60)) (by repeat (with_reducible (first | assumption | exact Ext.refl _ | apply Ext.alloc | apply Ext.drew | apply Ext.drewN)))).grown o3 hg4
      rw [List.nil_append] at hown4
      obtain ⟨a4, n4, rfl, _⟩ := hown4.form
      rw [TLof_n, hklen]
      rw [TLof_n, hklen] at hown4
      obtain ⟨hu4, hc4⟩ := hp4
      have hB := HP3.out.1
      have HU4 := hid hu4
      have HC4 := hid hc4
      have HO4 := hid hown4
      have c0 := hu4.c1
      have d0 := hu4.d0
      have d1 := hu4.d1
      have d2 := hu4.d2
      have lt := hu4.lt
      have sz : w.heap.size < w4.heap.size := by omega
      have sz1 : w.heap.size + 1 < w4.heap.size := by omega
      clear hu4 hc4 hown4 hg4 o3 e3 hri HRI
      have ad2 : ∃ a2, (if tc = k + 1 then some ad else some (ad.add ((k + 1) * 3))) = some a2 ∧ ∀ W : World, Ext w W → ∀ i, i < (C.L.drop (k + 1)).length * 3 → W.cell? (a2.add i) = some (.int .i64 ((TLof (C.L.drop (k + 1))).f i)) := by
        by_cases h : tc = k + 1
        · exact ⟨ad, if_pos h, fun W e i hi => by rw [hdlen] at hi; omega⟩
        · refine ⟨_, if_neg h, fun W e i hi => ?_⟩
          rw [hdlen] at hi
          rcases (HU.out.ext e).appd with ⟨h, _⟩ | ⟨a, c, h, hc⟩
          · cases h
          · simp only [Value.slice.injEq, true_and, Option.some.injEq] at h
            obtain ⟨rfl, rfl⟩ := h
            rw [addr_add_add, TLof_drop]
            exact hc _ (by omega)
      obtain ⟨a2, ha2, hc2⟩ := ad2
      have HA2 := hid ha2
      have HC2 := hid hc2
      clear ha2 hc2 ad1 hIt hcA
      go_cut [] from 33 to 43 (fun wx => ∃ tv, CpS w wx C t (some ad) tc B (C.L.take k ++ C.L.drop (k + 1) ++ [t]) tv C.loads)
      case first =>
        refine wp_region_Z 11 (w.heap.size + 3) (by kernel_rfl) ?_
        refine wpZ_stage (fuel := 4) [0, 1, 2, 3, 4, 5, 7] [6, 8] (by kernel_rfl) (fun b _ hb => rfl) ?_
        try simp only [Act.put, List.setIfInBounds_toArray, List.set_cons_succ, List.set_cons_zero]
        simp only [List.filterMap_cons, List.filterMap_nil, List.getElem?_toArray, List.getElem?_cons_zero, List.getElem?_cons_succ]
        show wpQuiet _ _ _ _ [_, _, _, _, _, _, _] _
        repeat (go_big_quiet_step (fail))
        refine wpQuiet_nil ?_
        intro e he
        simp only [List.mem_cons, List.not_mem_nil, or_false] at he
        rcases he with rfl | rfl
        · (unfold wpComes; simp only [List.getElem?_toArray, List.getElem?_cons_succ, List.getElem?_cons_zero, Option.some.injEq]; refine ⟨_, rfl, fun K hK => ?_⟩)
          rw [HA2.out]
          have OX := HO4.out.ext (w' := w4.drew) (by repeat (with_reducible (first | assumption | exact Ext.refl _ | apply Ext.alloc | apply Ext.drew | apply Ext.drewN)))
          have UX := HU4.out.to (W' := w4.drew) (by repeat (with_reducible (first | assumption | exact Ext.refl _ | apply Ext.alloc | apply Ext.drew | apply Ext.drewN)))
          have CX := HC4.out.ext (W' := w4.drew) (by repeat (with_reducible (first | assumption | exact Ext.refl _ | apply Ext.alloc | apply Ext.drew | apply Ext.drewN)))
          go_wp2_with (at_builtin; refine wpList_append_tiles _ rfl _ _ rfl (w.heap.size + 3) _ (C.L.take k) rfl OX (C.L.drop (k + 1)) hId (.slice (some a2) (C.L.length - (k + 1)) (tc - (k + 1))) rfl (.inr ⟨a2, tc - (k + 1), by rw [hdlen], HC2.out _ UX.ext⟩) (by rw [hklen, hdlen]; omega) (by first | omega | (simp; omega)) ?_; intro v6 w6 hown hg)
          obtain ⟨a6, n6, rfl, _⟩ := hown.form
          have u6 := UX.grown hg (fun k e => (OX.lt k e).1)
          have z6 := hg.size
          have cb6 := CX.grown hg (CX.ne OX)
          have hgb : ∀ b, b < w.heap.size + 3 → w6.heap[b]? = w4.heap[b]? := fun b hb => hg.block b (by simp; omega) (fun e => by have := (OX.lt b e.symm).1; omega)
          refine hK _ _ (.inr (fun b _ hb => hgb b hb)) ?_
          simp at z6
          clear hK K OX UX CX hg
          refine wpZ_stage (fuel := 3) [] [8] (by kernel_rfl) (fun b _ hb => hgb b hb) ?_
          refine wpQuiet_nil ?_
          intro e he
          simp only [List.mem_cons, List.not_mem_nil, or_false] at he
          subst he
          (unfold wpComes; simp only [List.getElem?_toArray, List.getElem?_cons_succ, List.getElem?_cons_zero, Option.some.injEq]; refine ⟨_, rfl, fun K hK => ?_⟩)
          go_wp2_with fail
          refine hK _ _ (.inr (fun b _ hb => (Ext.block (w := w6) (by repeat (with_reducible (first | assumption | exact Ext.refl _ | apply Ext.alloc | apply Ext.drew | apply Ext.drewN))) (by omega)).trans (hgb b hb))) ?_
          have O9 := hown.ext (w' := w6.alloc (.cells #[.int .i64 t.l, .int .i64 t.x, .int .i64 t.y] 60)) (by repeat (with_reducible (first | assumption | exact Ext.refl _ | apply Ext.alloc | apply Ext.drew | apply Ext.drewN)))
          have U9 := u6.to (W' := w6.alloc (.cells #[.int .i64 t.l, .int .i64 t.x, .int .i64 t.y] 60)) (by repeat (with_reducible (first | assumption | exact Ext.refl _ | apply Ext.alloc | apply Ext.drew | apply Ext.drewN)))
          have C9 := cb6.ext (W' := w6.alloc (.cells #[.int .i64 t.l, .int .i64 t.x, .int .i64 t.y] 60)) (by repeat (with_reducible (first | assumption | exact Ext.refl _ | apply Ext.alloc | apply Ext.drew | apply Ext.drewN)))
          clear hK K hown u6 cb6
          refine wpZ_stage (fuel := 2) [] [9] (by kernel_rfl) (fun b _ hb => (Ext.block (w := w6) (by repeat (with_reducible (first | assumption | exact Ext.refl _ | apply Ext.alloc | apply Ext.drew | apply Ext.drewN))) (by omega)).trans (hgb b hb)) ?_
          refine wpQuiet_nil ?_
          intro e he
          simp only [List.mem_cons, List.not_mem_nil, or_false] at he
          subst he
          (unfold wpComes; simp only [List.getElem?_toArray, List.getElem?_cons_succ, List.getElem?_cons_zero, Option.some.injEq]; refine ⟨_, rfl, fun K hK => ?_⟩)
          go_wp2_with (at_builtin; refine wpList_append_tile _ rfl _ _ rfl (w.heap.size + 3) (.slice a6 (TLof (C.L.take k ++ C.L.drop (k + 1))).n n6) (TLof (C.L.take k ++ C.L.drop (k + 1))) rfl O9 t ht w6.heap.size rfl (by simp [go_sem]) (by simp [go_sem]) (by simp [go_sem]) (by rw [TLof_n, List.length_append, hklen, hdlen]; omega) (by first | omega | (simp; omega)) ?_; intro v9 w9 hown9 hg9)
          replace hown9 := TLof_snoc_own hown9
          obtain ⟨a9, n9, hv9, _⟩ := hown9.form; generalize (TLof (C.L.take k ++ C.L.drop (k + 1) ++ [t])).n = m9 at hv9; subst hv9
          have u9 := U9.grown hg9 (fun k e => (O9.lt k e).1)
          have cb9 := C9.grown hg9 (C9.ne O9)
          have hgc : ∀ b, b < w.heap.size + 3 → w9.heap[b]? = w4.heap[b]? := fun b hb => (hg9.block b (by first | omega | (simp; omega)) (fun e => by have := (O9.lt b e.symm).1; omega)).trans ((Ext.block (w := w6) (by repeat (with_reducible (first | assumption | exact Ext.refl _ | apply Ext.alloc | apply Ext.drew | apply Ext.drewN))) (by omega)).trans (hgb b hb))
          refine hK _ _ (.inr (fun b _ hb => hgc b hb)) ?_
          clear hK K
          refine wpZ_stage (fuel := 0) [10] [11] (by kernel_rfl) (fun b _ hb => hgc b hb) ?_
          try simp only [Act.put, List.setIfInBounds_toArray, List.set_cons_succ, List.set_cons_zero]
          simp only [List.filterMap_cons, List.filterMap_nil, List.getElem?_toArray, List.getElem?_cons_zero, List.getElem?_cons_succ]
          show wpQuiet _ _ _ _ [_] _
          repeat (go_big_quiet_step (fail))
          refine wpQuiet_nil ?_
          intro e he
          simp only [List.mem_cons, List.not_mem_nil, or_false] at he
          subst he
          (unfold wpComes; simp only [List.getElem?_toArray, List.getElem?_cons_succ, List.getElem?_cons_zero, Option.some.injEq]; refine ⟨_, rfl, fun K hK => ?_⟩)
          have f1 := cb9.fz 1
          have g1 := cb9.c1
          go_wp2_with fail
          refine hK _ _ (.inl (by trivial)) ?_
          clear hK K
          refine wpZ_end (by kernel_rfl) ?_
          go_wp2_with fail
          go_meet
          exact ⟨_, CpS.put hB u9 cb9 hown9⟩
        · (unfold wpComes; simp only [List.getElem?_toArray, List.getElem?_cons_succ, List.getElem?_cons_zero, Option.some.injEq]; refine ⟨_, rfl, fun K hK => ?_⟩)
          rw [HA2.out]
          go_wp2_with fail
          have OX := HO4.out.ext (w' := (w4.alloc (.cells #[.int .i64 t.l, .int .i64 t.x, .int .i64 t.y] 60)).drew) (by repeat (with_reducible (first | assumption | exact Ext.refl _ | apply Ext.alloc | apply Ext.drew | apply Ext.drewN)))
          have UX := HU4.out.to (W' := (w4.alloc (.cells #[.int .i64 t.l, .int .i64 t.x, .int .i64 t.y] 60)).drew) (by repeat (with_reducible (first | assumption | exact Ext.refl _ | apply Ext.alloc | apply Ext.drew | apply Ext.drewN)))
          have CX := HC4.out.ext (W' := (w4.alloc (.cells #[.int .i64 t.l, .int .i64 t.x, .int .i64 t.y] 60)).drew) (by repeat (with_reducible (first | assumption | exact Ext.refl _ | apply Ext.alloc | apply Ext.drew | apply Ext.drewN)))
          have ro : ∀ b, (Value.slice a4 k n4).ownBlock = some b → b < w4.heap.size := fun b e => (HO4.out.lt b (by rw [hklen] at *; exact e)).2
          have h0 : (w4.alloc (.cells #[.int .i64 t.l, .int .i64 t.x, .int .i64 t.y] 60)).drew.cell? ⟨w4.heap.size, 0, none⟩ = some (.int .i64 t.l) := by simp [go_sem]
          have h1 : (w4.alloc (.cells #[.int .i64 t.l, .int .i64 t.x, .int .i64 t.y] 60)).drew.cell? ⟨w4.heap.size, 1, none⟩ = some (.int .i64 t.x) := by simp [go_sem]
          have h2 : (w4.alloc (.cells #[.int .i64 t.l, .int .i64 t.x, .int .i64 t.y] 60)).drew.cell? ⟨w4.heap.size, 2, none⟩ = some (.int .i64 t.y) := by simp [go_sem]
          have z8 : (w4.alloc (.cells #[.int .i64 t.l, .int .i64 t.x, .int .i64 t.y] 60)).drew.heap.size = w4.heap.size + 1 := by simp
          have hgx : ∀ b, b < w.heap.size + 3 → (w4.alloc (.cells #[.int .i64 t.l, .int .i64 t.x, .int .i64 t.y] 60)).drew.heap[b]? = w4.heap[b]? := fun b hb => Ext.block (w := w4) (by repeat (with_reducible (first | assumption | exact Ext.refl _ | apply Ext.alloc | apply Ext.drew | apply Ext.drewN))) (by omega)
          obtain ⟨w8, hw8⟩ : ∃ W, (w4.alloc (.cells #[.int .i64 t.l, .int .i64 t.x, .int .i64 t.y] 60)).drew = W := ⟨_, rfl⟩
          rw [hw8] at OX UX CX h0 h1 h2 z8 hgx ⊢
          refine hK _ _ (.inr (fun b _ hb => hgx b hb)) ?_
          clear hK K hw8
          refine wpZ_stage (fuel := 3) [] [6] (by kernel_rfl) (fun b _ hb => hgx b hb) ?_
          refine wpQuiet_nil ?_
          intro e he
          simp only [List.mem_cons, List.not_mem_nil, or_false] at he
          subst he
          (unfold wpComes; simp only [List.getElem?_toArray, List.getElem?_cons_succ, List.getElem?_cons_zero, Option.some.injEq]; refine ⟨_, rfl, fun K hK => ?_⟩)
          go_wp2_with (at_builtin; refine wpList_append_tiles _ rfl _ _ rfl (w.heap.size + 3) _ (C.L.take k) rfl OX (C.L.drop (k + 1)) hId (.slice (some a2) (C.L.length - (k + 1)) (tc - (k + 1))) rfl (.inr ⟨a2, tc - (k + 1), by rw [hdlen], HC2.out _ UX.ext⟩) (by rw [hklen, hdlen]; omega) (by first | omega | (simp; omega)) ?_; intro v6 w6 hown hg)
          obtain ⟨a6, n6, rfl, _⟩ := hown.form
          have u6 := UX.grown hg (fun k e => (OX.lt k e).1)
          have z6 := hg.size
          have cb6 := CX.grown hg (CX.ne OX)
          have hgb : ∀ b, b < w.heap.size + 3 → w6.heap[b]? = w4.heap[b]? := fun b hb => (hg.block b (by omega) (fun e => by have := (OX.lt b e.symm).1; omega)).trans (hgx b hb)
          refine hK _ _ (.inr (fun b _ hb => hgb b hb)) ?_
          have hg8 : w6.heap[w4.heap.size]? = w8.heap[w4.heap.size]? := hg.block _ (by omega) (fun e => by have := ro _ e.symm; omega)
          have h0 := (World.cell?_of_block hg8).trans h0
          have h1 := (World.cell?_of_block hg8).trans h1
          have h2 := (World.cell?_of_block hg8).trans h2
          have O9 := hown
          have U9 := u6
          have C9 := cb6
          clear hK K OX UX CX hg hown u6 cb6
          refine wpZ_stage (fuel := 2) [] [9] (by kernel_rfl) (fun b _ hb => hgb b hb) ?_
          refine wpQuiet_nil ?_
          intro e he
          simp only [List.mem_cons, List.not_mem_nil, or_false] at he
          subst he
          (unfold wpComes; simp only [List.getElem?_toArray, List.getElem?_cons_succ, List.getElem?_cons_zero, Option.some.injEq]; refine ⟨_, rfl, fun K hK => ?_⟩)
          go_wp2_with (at_builtin; refine wpList_append_tile _ rfl _ _ rfl (w.heap.size + 3) (.slice a6 (TLof (C.L.take k ++ C.L.drop (k + 1))).n n6) (TLof (C.L.take k ++ C.L.drop (k + 1))) rfl O9 t ht w4.heap.size rfl h0 h1 h2 (by rw [TLof_n, List.length_append, hklen, hdlen]; omega) (by first | omega | (simp; omega)) ?_; intro v9 w9 hown9 hg9)
          replace hown9 := TLof_snoc_own hown9
          obtain ⟨a9, n9, hv9, _⟩ := hown9.form; generalize (TLof (C.L.take k ++ C.L.drop (k + 1) ++ [t])).n = m9 at hv9; subst hv9
          have u9 := U9.grown hg9 (fun k e => (O9.lt k e).1)
          have cb9 := C9.grown hg9 (C9.ne O9)
          have hgc : ∀ b, b < w.heap.size + 3 → w9.heap[b]? = w4.heap[b]? := fun b hb => (hg9.block b (by first | omega | (simp; omega)) (fun e => by have := (O9.lt b e.symm).1; omega)).trans (hgb b hb)
          refine hK _ _ (.inr (fun b _ hb => hgc b hb)) ?_
          clear hK K
          refine wpZ_stage (fuel := 0) [10] [11] (by kernel_rfl) (fun b _ hb => hgc b hb) ?_
          try simp only [Act.put, List.setIfInBounds_toArray, List.set_cons_succ, List.set_cons_zero]
          simp only [List.filterMap_cons, List.filterMap_nil, List.getElem?_toArray, List.getElem?_cons_zero, List.getElem?_cons_succ]
          show wpQuiet _ _ _ _ [_] _
          repeat (go_big_quiet_step (fail))
          refine wpQuiet_nil ?_
          intro e he
          simp only [List.mem_cons, List.not_mem_nil, or_false] at he
          subst he
          (unfold wpComes; simp only [List.getElem?_toArray, List.getElem?_cons_succ, List.getElem?_cons_zero, Option.some.injEq]; refine ⟨_, rfl, fun K hK => ?_⟩)
          have f1 := cb9.fz 1
          have g1 := cb9.c1
          go_wp2_with fail
          refine hK _ _ (.inl (by trivial)) ?_
          clear hK K
          refine wpZ_end (by kernel_rfl) ?_
          go_wp2_with fail
          go_meet
          exact ⟨_, CpS.put hB u9 cb9 hown9⟩
      case rest =>
        obtain ⟨tv, hcp⟩ := hcut
        clear c0 d0 d1 d2 lt sz sz1
        obtain ⟨vx, vn, hvx, _⟩ := hcp.2.2.2.form
        generalize (TLof (C.L.take k ++ C.L.drop (k + 1) ++ [t])).n = mx at hvx
        subst hvx
        have HPX := hid hcp
        have p0 := HPX.out.2.1.p0
        have p1 := HPX.out.2.1.p1
        have p2 := HPX.out.2.1.p2
        have f0 := HPX.out.2.1.f0
        have f1 := HPX.out.2.1.f1
        have f2 := HPX.out.2.1.f2
        have g0 := HPX.out.2.2.1.c0
        have g1 := HPX.out.2.2.1.c1
        have g2 := HPX.out.2.2.1.c2
        have gl := HPX.out.2.2.1.lt
        have ltx := HPX.out.2.1.lt
        have szx : w.heap.size + 1 + 1 < wc.heap.size := by omega
        clear hcp
        go_wp2_with fail
        refine bodyPost_ret (v := .agg #[.int .i64 C.room, .slice vx mx vn, .int .i64 C.loads]) (by simp [results, Try.results40, go_sem, *]) rfl ⟨_, rfl, ?_, HPX.out.done.2⟩
        rw [HUT.out]
        exact ⟨_, rfl, HPX.out.done.1, hr, hl⟩
    · rw [if_neg hm] at hri
      have hut : C.use t = ⟨C.room, if C.room < ((C.L ++ [t]).length : Int) then (C.L ++ [t]).tail else C.L ++ [t], C.loads + 1⟩ := by
        unfold CV.use
        rw [if_pos HK.out, if_neg hm, List.erase_of_not_mem hm]
      have HUT := hid hut
      clear hut
      have hri : -1 = r := hri
      subst hri
      have hbd := CV.ok_bd HK.out
      have g0 := HP3.out.2.2.1.c0
      have g1 := HP3.out.2.2.1.c1
      have g2 := HP3.out.2.2.1.c2
      have gl := HP3.out.2.2.1.lt
      have d0 := HP3.out.2.1.d0
      have d1 := HP3.out.2.1.d1
      have d2 := HP3.out.2.1.d2
      have lt := HP3.out.2.1.lt
      have sz1 : w.heap.size + 1 < w3.heap.size := by omega
      have E3 : Ext w3 (w3.alloc (.cells #[.int .i64 t.l, .int .i64 t.x, .int .i64 t.y] 60)) := (by repeat (with_reducible (first | assumption | exact Ext.refl _ | apply Ext.alloc | apply Ext.drew | apply Ext.drewN)))
      go_upto_region 11 with (at_builtin; refine wpList_append_tile _ rfl _ _ rfl (w.heap.size + 3) (.slice va (TLof C.L).n vc) (TLof C.L) rfl (HP3.out.ext E3).2.2.2 t ht w3.heap.size rfl (by simp [go_sem]) (by simp [go_sem]) (by simp [go_sem]) (by rw [TLof_n]; omega) (by simp; omega) ?_; intro v4 w4 hown4 hg4; have hp4 := (HP3.out.ext E3).grown (HP3.out.ext E3).2.2.2 hg4; replace hown4 := TLof_snoc_own hown4; obtain ⟨a4, n4, hv4, _⟩ := hown4.form; rw [TLof_n, List.length_append] at hv4; subst hv4; have h1 := hp4.2.c1; have h2 := hp4.2.c2; have k1 := hp4.2.fz 1; have k2 := hp4.2.fz 2; have l4 := hp4.2.lt)
      have hp5 := (CpS.put HP3.out.1 hp4.1 hp4.2 hown4).load (C.loads + 1)
      obtain ⟨⟨e, h0⟩ | ⟨ad, cap, e, hcA⟩⟩ := (⟨hp5.2.2.2.appd⟩ : PLift _)
      · simp at h0
      simp only [Value.slice.injEq] at e
      obtain ⟨rfl, -, rfl⟩ := e
      clear hcA
      simp only [List.length_cons, List.length_nil, Nat.zero_add] at hp5 ⊢
      obtain ⟨w5, hw5⟩ : ∃ W, ((w4.setCell ⟨B, 1, none⟩ (.slice (some ad) (C.L.length + 1) n4)).setCell ⟨B, 2, none⟩ (.int .i64 (C.loads + 1))) = W := ⟨_, rfl⟩
      rw [hw5] at hp5 ⊢
      have HP := hid hp5
      have g0 := hp5.2.2.1.c0
      have g1 := hp5.2.2.1.c1
      have gl := hp5.2.2.1.lt
      clear hw5 hp5 h1 h2 k1 k2 l4 hown4 hp4 hg4 E3 sz1 lt d0 d1 d2 g2 HP3 c0 c1 c2 sz hri HRI
      by_cases hd : C.room < (C.L.length : Int) + 1
      · have hut : C.use t = ⟨C.room, (C.L ++ [t]).drop 1, C.loads + 1⟩ := by
          rw [HUT.out, if_pos (by simpa using hd), List.drop_one]
        clear HUT
        have HUT := hid hut
        clear hut
        have o5 : (TLof []).Own (w.heap.size + 3) (w5.alloc (.cells #[] 60)) (.slice (some ⟨w5.heap.size, 0, none⟩) 0 0) := by
          rw [TLof_nil]
          have := HP.out.2.1.lt
          exact TL.nil_new w5 (w.heap.size + 3) (by omega)
        have e5 : Ext w5 (w5.alloc (.cells #[] 60)) := (by repeat (with_reducible (first | assumption | exact Ext.refl _ | apply Ext.alloc | apply Ext.drew | apply Ext.drewN)))
        have hdl : ((C.L ++ [t]).drop 1).length = C.L.length := by simp
        have hI2 : ∀ x ∈ (C.L ++ [t]).drop 1, x.I := fun x hx => by
          rcases List.mem_append.1 (List.mem_of_mem_drop hx) with h | h
          · exact hI x h
          · simp at h; exact h ▸ ht
        have hn4 : C.L.length + 1 ≤ n4 := by
          obtain ⟨a', cap', e', HF⟩ := Flats.open HP.out.2.2.2.R
          simp only [Value.slice.injEq] at e'
          have := HF.le
          rw [TLof_n] at this
          simp at this
          omega
        have hc2 : ∀ i, i < ((C.L ++ [t]).drop 1).length * 3 → (w5.alloc (.cells #[] 60)).cell? ((⟨ad.block, ad.off + 3, none⟩ : Addr).add i) = some (.int .i64 ((TLof ((C.L ++ [t]).drop 1)).f i)) := by
          intro i hi
          rw [hdl] at hi
          have ea : (⟨ad.block, ad.off + 3, none⟩ : Addr) = ad.add (1 * 3) := by simp [Addr.add]
          rcases (HP.out.2.2.2.ext e5).appd with ⟨h, _⟩ | ⟨a, c, h, hc⟩
          · cases h
          · simp only [Value.slice.injEq, Option.some.injEq] at h
            obtain ⟨rfl, -, rfl⟩ := h
            rw [ea, addr_add_add, TLof_drop]
            exact hc _ (by simp; omega)
        have HC2 := hid hc2
        clear hc2
        go_upto_region 13 with (at_builtin; refine wpList_append_tiles _ rfl _ _ rfl (w.heap.size + 3) _ [] rfl o5 ((C.L ++ [t]).drop 1) hI2 (.slice (some ⟨ad.block, ad.off + 3, none⟩) C.L.length (n4 - 1)) rfl (.inr ⟨⟨ad.block, ad.off + 3, none⟩, n4 - 1, by rw [hdl], HC2.out⟩) (by rw [hdl]; simp; omega) (by have := HP.out.2.1.lt; simp; omega) ?_; intro v6 w6 hown6 hg6; rw [List.nil_append] at hown6; have hp6 := (HP.out.ext e5).grown o5 hg6; obtain ⟨a6, n6, hv6, _⟩ := hown6.form; rw [TLof_n, hdl] at hv6; subst hv6; have h1 := hp6.2.c1; have k1 := hp6.2.fz 1; have l6 := hp6.2.lt)
        have hcp := CpS.put HP.out.1 hp6.1 hp6.2 hown6
        obtain ⟨w7, hw7⟩ : ∃ W, w6.setCell ⟨B, 1, none⟩ (.slice a6 C.L.length n6) = W := ⟨_, rfl⟩
        rw [hw7] at hcp ⊢
        clear hw7 h1 k1 l6 hp6 hown6 hg6 g0 g1 gl HP HC2 o5 e5 hI2
        have HPX := hid hcp
        have p0 := HPX.out.2.1.p0
        have p1 := HPX.out.2.1.p1
        have p2 := HPX.out.2.1.p2
        have f0 := HPX.out.2.1.f0
        have f1 := HPX.out.2.1.f1
        have f2 := HPX.out.2.1.f2
        have g0 := HPX.out.2.2.1.c0
        have g1 := HPX.out.2.2.1.c1
        have g2 := HPX.out.2.2.1.c2
        have gl := HPX.out.2.2.1.lt
        have ltx := HPX.out.2.1.lt
        have szx : w.heap.size + 1 + 1 < w7.heap.size := by omega
        clear hcp
        go_wp2_with fail
        refine bodyPost_ret (v := .agg #[.int .i64 C.room, .slice a6 C.L.length n6, .int .i64 (C.loads + 1)]) (by simp [results, Try.results40, go_sem, *]) rfl ⟨_, rfl, ?_, HPX.out.done.2⟩
        rw [HUT.out]
        exact ⟨_, rfl, HPX.out.done.1, hr, ⟨by show _ ≤ C.loads + 1; omega, by show C.loads + 1 ≤ _; omega⟩⟩

      · have hut : C.use t = ⟨C.room, C.L ++ [t], C.loads + 1⟩ := by
          rw [HUT.out, if_neg (by simpa using hd)]
        clear HUT
        have HUT := hid hut
        clear hut
        go_upto_region 13 with fail
        have hcp := HP.out
        obtain ⟨vx, vn, mx, hvx⟩ : ∃ vx vn mx, Value.slice (some ad) (C.L.length + 1) n4 = .slice vx mx vn := ⟨_, _, _, rfl⟩
        simp only [Value.slice.injEq] at hvx
        obtain ⟨rfl, rfl, rfl⟩ := hvx
        clear g0 g1 gl HP
        have HPX := hid hcp
        have p0 := HPX.out.2.1.p0
        have p1 := HPX.out.2.1.p1
        have p2 := HPX.out.2.1.p2
        have f0 := HPX.out.2.1.f0
        have f1 := HPX.out.2.1.f1
        have f2 := HPX.out.2.1.f2
        have g0 := HPX.out.2.2.1.c0
        have g1 := HPX.out.2.2.1.c1
        have g2 := HPX.out.2.2.1.c2
        have gl := HPX.out.2.2.1.lt
        have ltx := HPX.out.2.1.lt
        have szx : w.heap.size + 1 + 1 < w5.heap.size := by omega
        clear hcp
        go_wp2_with fail
        refine bodyPost_ret (v := .agg #[.int .i64 C.room, .slice (some ad) (C.L.length + 1) n4, .int .i64 (C.loads + 1)]) (by simp [results, Try.results40, go_sem, *]) rfl ⟨_, rfl, ?_, HPX.out.done.2⟩
        rw [HUT.out]
        exact ⟨_, rfl, HPX.out.done.1, hr, ⟨by show _ ≤ C.loads + 1; omega, by show C.loads + 1 ≤ _; omega⟩⟩
end Go.Proofs.Ytcogkglkioejaaa
