/- This text proves what the reference's mip levels compute, and the program's exported ones. -/
import Derived.Test.YtjfcngbepjdfnaaGreatL15f
namespace Go.Proofs.YtjfcngbepjdfnaaGreat
open Go.RowKit

/-- append of a row of integers to an owned row -/
theorem wpList_append_ints (w : World) {ops : Array Oper} {rest : List Oper} {o : Oper} {a : Act} {Q : Exit → Act → World → Prop} (hg : o.guard = none) (s x : Operand)
    (hop : o.op = Op.call { callee := Callee.builtin Builtin.append, args := #[s, x], argTypes := #[27, 27] }) (lo : Nat) (v : Value) (xs ys : List Int) (hs : a.eval s = v) (hown : OwnInts lo w v xs)
    (b off cap : Nat) (hx : a.eval x = .slice (some ⟨b, off, none⟩) ys.length cap) (hcell : ∀ i y, ys[i]? = some y → I64 y ∧ w.cell? ⟨b, off + i, none⟩ = some (.int .i64 y)) (hlen : xs.length + ys.length < 1000000000) (hlo : lo ≤ w.heap.size)
    (hK : ∀ v' w', OwnInts lo w' v' (xs ++ ys) → w.grownBy w' v.ownBlock → wpList Tryz.prog ops Q rest (a.put o.dst v') w') : wpList Tryz.prog ops Q (o :: rest) a w := by
  obtain ⟨i0, hi0, hz0, hz1, hz2⟩ := info_parts info_int
  refine wpList_append_own w hg s x 27 hop lo 3 i0 (.int .i64 0) 1 8 Tryz.underlying27 hi0 hz0 hz1 hz2 rfl (by decide) v xs.length _ hs hown.1 ⟨b, off, none⟩ ys.length cap (ys.map (Value.int .i64)) hx (by simp) ?_ ?_ ?_ ?_ hlo ?_
  · intro j u hj
    rw [List.getElem?_map] at hj
    cases hyj : ys[j]? with
    | none => rw [hyj] at hj; cases hj
    | some y =>
      rw [hyj] at hj
      simp only [Option.map_some, Option.some.injEq] at hj
      subst hj
      rw [add_none]
      exact (hcell j y hyj).2
  · intro u hu
    obtain ⟨y, _, rfl⟩ := List.mem_map.1 hu
    rfl
  · unfold maxLen; omega
  · omega
  · intro v' w1 hown' hgrow _
    refine hK v' w1 ⟨by simpa using hown', fun z hz => ?_⟩ hgrow
    rcases List.mem_append.1 hz with h | h
    · exact hown.2 z h
    · obtain ⟨i, hi⟩ := List.getElem?_of_mem h
      exact (hcell i z hi).1

theorem heap_alloc_new (w : World) (o : Obj) : (w.alloc o).heap[w.heap.size]? = some o := by show (w.heap.push o)[w.heap.size]? = _; simp
theorem OwnInts.empty {lo : Nat} {w : World} {g : Nat} (hl : lo ≤ g) (hg : w.heap[g]? = some (.cells #[] 3)) : OwnInts lo w (.slice (some ⟨g, 0, none⟩) 0 0) [] :=
  ⟨⟨rfl, .inr ⟨g, 0, #[], rfl, hl, hg, Nat.le_refl _, Nat.zero_le _, rfl, rfl⟩⟩, fun _ h => by cases h⟩
theorem OwnInts.notBox {lo : Nat} {w : World} {v : Value} {xs : List Int} {A : Nat} {cs : Array Value} {T : TypeId} {fr : Nat × Nat} (h : OwnInts lo w v xs) (hA : w.heap[A]? = some (.cells cs T fr)) (hT : T ≠ 3) : v.ownBlock ≠ some A := by
  intro e
  rcases h.1.2 with ⟨rfl, _⟩ | ⟨g, cap, cur, rfl, _, hg, _⟩
  · cases e
  · simp only [Value.ownBlock, Option.some.injEq] at e
    subst e
    rw [hg] at hA
    simp only [Option.some.injEq, Obj.cells.injEq] at hA
    exact hT hA.2.1.symm

set_option maxRecDepth 10000 in
set_option maxHeartbeats 1600000 in
theorem sMip_valid (lo hi : Nat) (v : Value) (t : Tex) (k : Nat) (w : World) (hv : TexR lo hi w v t) (hh : hi ≤ w.heap.size) (ht : t.Ok) (hk : k ≤ t.log) :
    Calls Tryz.prog 117 #[v, .int .i64 k] w fun e w' => ∃ v', e = .returned (.tuple #[v', .bool true]) ∧ OwnTex w.heap.size w' v' (t.mip k) ∧ Ext w w' := by
  have HV := hid hv
  obtain ⟨b, off, cap, rfl, hcap, hlo, hhi, hcell⟩ := hv.ok ht
  have hl2 : t.px.length ≤ 256 := by rw [ht.len]; exact Nat.mul_le_mul ht.n_le ht.n_le
  have hk4 : k ≤ 4 := by have := ht.log4; omega
  have HB := hid (inB_iff.2 ⟨by omega, hk⟩ : inB k 0 t.log = true)
  have H1 := hid (Tex.okB_iff.2 ht)
  have HT := hid ht
  have HC := hid hcap
  have HH := hid hcell
  have hb0 : b < w.heap.size := by omega
  clear hv ht hcap hcell
  go_enter Tryz.func117, Tryz.ntmps117
  go_upto_region 3 with (first
    | (go_at_call 64; refine (sIsValidTexture_val H1.out lo hi _ _ (HV.out.ext hh (by repeat (with_reducible (first | assumption | exact Ext.refl _ | apply Ext.alloc | apply Ext.drew | apply Ext.drewN)))) (by simp; omega)).mono ?_; rintro e w1 ⟨rfl, hx⟩; obtain ⟨c1, f1⟩ := hx.cells; have z1 := hx.size; simp only [World.size_alloc] at z1; have q0 : w.heap.size < w1.heap.size := (by omega); have q1 : w.heap.size + 1 < w1.heap.size := (by omega))
    | (go_at_call 20; refine (l01In_val HB.out _).mono ?_; rintro e w2 ⟨rfl, rfl⟩))
  have E1 : Ext w w1 := Ext.trans (by repeat (with_reducible (first | assumption | exact Ext.refl _ | apply Ext.alloc | apply Ext.drew | apply Ext.drewN))) hx
  go_cut [6] from 18 to 24 (fun p wx => ∃ A a c, p = .pointer (some ⟨A, 0, none⟩) ∧ MSt w wx t A a c)
  case first =>
    refine wp_region_Z 8 w1.heap.size (by kernel_rfl) ?_
    refine wpZ_stage (fuel := 4) [0, 1, 3, 4] [2, 7] (by kernel_rfl) (fun _ _ _ => rfl) ?_
    simp only [List.filterMap_cons, List.filterMap_nil, List.getElem?_toArray, List.getElem?_cons_zero, List.getElem?_cons_succ]
    show wpQuiet _ _ _ _ [_, _, _, _] _
    repeat (go_big_quiet_step (fail))
    refine wpQuiet_nil ?_
    intro e he
    simp only [List.mem_cons, List.not_mem_nil, or_false] at he
    rcases he with rfl | rfl
    · (unfold wpComes; simp only [List.getElem?_toArray, List.getElem?_cons_succ, List.getElem?_cons_zero, Option.some.injEq]; refine ⟨_, rfl, fun K hK => ?_⟩)
      go_wp2
      refine hK _ _ (.inr (fun b _ hb => Ext.block (by repeat (with_reducible (first | assumption | exact Ext.refl _ | apply Ext.alloc | apply Ext.drew | apply Ext.drewN))) hb)) ?_
      clear hK K
      refine wpZ_stage (fuel := 3) [] [5, 7] (by kernel_rfl) (fun b _ hb => Ext.block (by repeat (with_reducible (first | assumption | exact Ext.refl _ | apply Ext.alloc | apply Ext.drew | apply Ext.drewN))) hb) ?_
      refine wpQuiet_nil ?_
      intro e he
      simp only [List.mem_cons, List.not_mem_nil, or_false] at he
      rcases he with rfl | rfl
      · (unfold wpComes; simp only [List.getElem?_toArray, List.getElem?_cons_succ, List.getElem?_cons_zero, Option.some.injEq]; refine ⟨_, rfl, fun K hK => ?_⟩)
        refine wpList_append_ints _ rfl _ _ rfl (w.heap.size + 1 + 1) (.slice (some ⟨w1.heap.size, 0, none⟩) 0 0) [] t.px rfl (OwnInts.empty (by omega) (heap_alloc_new w1 _)) b off cap rfl ?_ (by simp; omega) (by simp; omega) ?_
        · intro i y hy
          obtain ⟨_, _, _, h4⟩ := HT.out
          have h5 := h4 y (List.mem_of_getElem? hy)
          exact ⟨⟨by omega, by omega⟩, (((E1.alloc _).drew).cells.1 _ _ hb0).trans (HH.out _ _ hy)⟩
        intro v2 w2 hown hg
        rw [List.nil_append] at hown
        have hs2 : ∀ b, b < w1.heap.size → w2.heap[b]? = w1.heap[b]? := fun b hb => (hg.block b (by simp; omega) (by simp [Value.ownBlock]; omega)).trans (Ext.block (by repeat (with_reducible (first | assumption | exact Ext.refl _ | apply Ext.alloc | apply Ext.drew | apply Ext.drewN))) hb)
        have z2 := hg.size
        simp at z2
        have E2 : Ext w w2 := Ext.grown (w1 := (w1.alloc _).drew) (E1.alloc _).drew hg (by simp [Value.ownBlock]; omega)
        clear hg
        obtain ⟨a2, n2, rfl, _⟩ := hown.form
        go_wp2
        refine hK _ _ (.inr (fun b _ hb => hs2 b hb)) ?_
        clear hK K
        refine wpZ_stage (fuel := 1) [6] [7] (by kernel_rfl) (fun b _ hb => hs2 b hb) ?_
        simp only [Act.put, List.setIfInBounds_toArray, List.set_cons_succ, List.set_cons_zero, List.filterMap_cons, List.filterMap_nil, List.getElem?_toArray, List.getElem?_cons_zero, List.getElem?_cons_succ]
        show wpQuiet _ _ _ _ [_] _
        repeat (go_big_quiet_step (fail))
        refine wpQuiet_nil ?_
        intro e he
        simp only [List.mem_cons, List.not_mem_nil, or_false] at he
        subst he
        (unfold wpComes; simp only [List.getElem?_toArray, List.getElem?_cons_succ, List.getElem?_cons_zero, Option.some.injEq]; refine ⟨_, rfl, fun K hK => ?_⟩)
        go_wp2
        refine hK _ _ (.inr (fun b _ hb => (Ext.block (w := w2) (by repeat (with_reducible (first | assumption | exact Ext.refl _ | apply Ext.alloc | apply Ext.drew | apply Ext.drewN))) (by omega)).trans (hs2 b hb))) ?_
        clear hK K
        refine wpZ_stage (fuel := 0) [] [8] (by kernel_rfl) (fun b _ hb => (Ext.block (w := w2) (by repeat (with_reducible (first | assumption | exact Ext.refl _ | apply Ext.alloc | apply Ext.drew | apply Ext.drewN))) (by omega)).trans (hs2 b hb)) ?_
        refine wpQuiet_nil ?_
        intro e he
        simp only [List.mem_cons, List.not_mem_nil, or_false] at he
        subst he
        (unfold wpComes; simp only [List.getElem?_toArray, List.getElem?_cons_succ, List.getElem?_cons_zero, Option.some.injEq]; refine ⟨_, rfl, fun K hK => ?_⟩)
        go_wp2
        refine hK _ _ (.inl (by trivial)) ?_
        clear hK K
        refine wpZ_end (by kernel_rfl) ?_
        go_wp2_with fail
        go_meet
        have hc2 : ∀ b o, b < w1.heap.size → w2.cell? ⟨b, o, none⟩ = w1.cell? ⟨b, o, none⟩ := fun b o hb => World.cell?_of_block (w := w1) (hs2 b hb)
        have hf2 : ∀ b o, b < w1.heap.size → w2.frozen? ⟨b, o, none⟩ = w1.frozen? ⟨b, o, none⟩ := fun b o hb => World.frozen?_of_block (w := w1) (hs2 b hb)
        have q2 : w.heap.size + 1 < w2.heap.size := by omega
        refine ⟨_, _, _, rfl, ⟨E2.alloc _, q2, TBox.made _ _ _ _, by simp [go_sem], by simp [go_sem], ⟨by simp; omega, by simp [go_sem, *], by simp [go_sem, *]⟩, by simp [go_sem, *], by simp [go_sem, *], hown.alloc _, ?_⟩⟩
        intro g hg
        have h2 := (hown.lt g hg).2
        omega
      · (unfold wpComes; simp only [List.getElem?_toArray, List.getElem?_cons_succ, List.getElem?_cons_zero, Option.some.injEq]; refine ⟨_, rfl, fun K hK => ?_⟩)
        go_wp2
        refine hK _ _ (.inr (fun b _ hb => Ext.block (by repeat (with_reducible (first | assumption | exact Ext.refl _ | apply Ext.alloc | apply Ext.drew | apply Ext.drewN))) hb)) ?_
        clear hK K
        refine wpZ_stage (fuel := 2) [] [5] (by kernel_rfl) (fun b _ hb => Ext.block (by repeat (with_reducible (first | assumption | exact Ext.refl _ | apply Ext.alloc | apply Ext.drew | apply Ext.drewN))) hb) ?_
        refine wpQuiet_nil ?_
        intro e he
        simp only [List.mem_cons, List.not_mem_nil, or_false] at he
        subst he
        (unfold wpComes; simp only [List.getElem?_toArray, List.getElem?_cons_succ, List.getElem?_cons_zero, Option.some.injEq]; refine ⟨_, rfl, fun K hK => ?_⟩)
        refine wpList_append_ints _ rfl _ _ rfl (w.heap.size + 1 + 1) (.slice (some ⟨w1.heap.size, 0, none⟩) 0 0) [] t.px rfl (OwnInts.empty (g := w1.heap.size) (by omega) ((Ext.block (w := w1.alloc (.cells #[] 3)) (by repeat (with_reducible (first | assumption | exact Ext.refl _ | apply Ext.alloc | apply Ext.drew | apply Ext.drewN))) (by simp)).trans (heap_alloc_new w1 _))) b off cap rfl ?_ (by simp; omega) (by simp; omega) ?_
        · intro i y hy
          obtain ⟨_, _, _, h4⟩ := HT.out
          have h5 := h4 y (List.mem_of_getElem? hy)
          exact ⟨⟨by omega, by omega⟩, ((Ext.trans E1 (by repeat (with_reducible (first | assumption | exact Ext.refl _ | apply Ext.alloc | apply Ext.drew | apply Ext.drewN)))).cells.1 _ _ hb0).trans (HH.out _ _ hy)⟩
        intro v2 w2 hown hg
        rw [List.nil_append] at hown
        have hs2 : ∀ b, b < w1.heap.size → w2.heap[b]? = w1.heap[b]? := fun b hb => (hg.block b (by simp; omega) (by simp [Value.ownBlock]; omega)).trans (Ext.block (by repeat (with_reducible (first | assumption | exact Ext.refl _ | apply Ext.alloc | apply Ext.drew | apply Ext.drewN))) hb)
        have hA := hg.block (w1.heap.size + 1) (by simp) (by simp [Value.ownBlock])
        have z2 := hg.size
        simp at z2
        have E2 : Ext w w2 := Ext.grown (Ext.trans E1 (by repeat (with_reducible (first | assumption | exact Ext.refl _ | apply Ext.alloc | apply Ext.drew | apply Ext.drewN)))) hg (by simp [Value.ownBlock]; omega)
        clear hg
        obtain ⟨a2, n2, rfl, _⟩ := hown.form
        have hc2 : ∀ b o, b < w1.heap.size → w2.cell? ⟨b, o, none⟩ = w1.cell? ⟨b, o, none⟩ := fun b o hb => World.cell?_of_block (w := w1) (hs2 b hb)
        have hf2 : ∀ b o, b < w1.heap.size → w2.frozen? ⟨b, o, none⟩ = w1.frozen? ⟨b, o, none⟩ := fun b o hb => World.frozen?_of_block (w := w1) (hs2 b hb)
        have hA2 : w2.heap[w1.heap.size + 1]? = some (.cells #[.int .i64 0, .slice none 0 0] 41) := hA.trans (by rw [← World.size_alloc w1 (.cells #[] 3)]; exact heap_alloc_new _ _)
        have hA3 := hown.notBox hA2 (by decide)
        have hcA : ∀ o, w2.cell? ⟨w1.heap.size + 1, o, none⟩ = #[Value.int .i64 0, .slice none 0 0][o]? := fun o => by simp [World.cell?, hA2]
        have hfA : ∀ o, w2.frozen? ⟨w1.heap.size + 1, o, none⟩ = false := fun o => by simp [World.frozen?, hA2]
        clear hA
        go_wp2
        refine hK _ _ (.inr (fun b _ hb => hs2 b hb)) ?_
        clear hK K
        refine wpZ_stage (fuel := 0) [6] [8] (by kernel_rfl) (fun b _ hb => hs2 b hb) ?_
        simp only [Act.put, List.setIfInBounds_toArray, List.set_cons_succ, List.set_cons_zero, List.filterMap_cons, List.filterMap_nil, List.getElem?_toArray, List.getElem?_cons_zero, List.getElem?_cons_succ]
        show wpQuiet _ _ _ _ [_] _
        repeat (go_big_quiet_step (fail))
        refine wpQuiet_nil ?_
        intro e he
        simp only [List.mem_cons, List.not_mem_nil, or_false] at he
        subst he
        (unfold wpComes; simp only [List.getElem?_toArray, List.getElem?_cons_succ, List.getElem?_cons_zero, Option.some.injEq]; refine ⟨_, rfl, fun K hK => ?_⟩)
        go_wp2
        refine hK _ _ (.inl (by trivial)) ?_
        clear hK K
        refine wpZ_end (by kernel_rfl) ?_
        go_wp2_with fail
        go_meet
        refine ⟨_, a2, n2, rfl, ⟨(E2.setCell (by simp; omega) _).setCell (by simp; omega) _, by omega, ⟨by simp; omega, by simp [go_sem, *], by simp [go_sem, *]⟩, by simp [go_sem, *], by simp [go_sem, *], ⟨by simp; omega, by simp [go_sem, *], by simp [go_sem, *]⟩, by simp [go_sem, *], by simp [go_sem, *], ?_, ?_⟩⟩
        · exact (hown.keptAt (fun g hg => Below.heap_setCell _ _ _ _ (fun e => hA3 (hg.trans (congrArg some e))))).keptAt (fun g hg => Below.heap_setCell _ _ _ _ (fun e => hA3 (hg.trans (congrArg some e))))
        · intro g hg e
          exact hA3 (hg.trans (congrArg some e))
    · (unfold wpComes; simp only [List.getElem?_toArray, List.getElem?_cons_succ, List.getElem?_cons_zero, Option.some.injEq]; refine ⟨_, rfl, fun K hK => ?_⟩)
      go_wp2
      refine hK _ _ (.inr (fun b _ hb => Ext.block (by repeat (with_reducible (first | assumption | exact Ext.refl _ | apply Ext.alloc | apply Ext.drew | apply Ext.drewN))) hb)) ?_
      clear hK K
      refine wpZ_stage (fuel := 3) [] [2] (by kernel_rfl) (fun b _ hb => Ext.block (by repeat (with_reducible (first | assumption | exact Ext.refl _ | apply Ext.alloc | apply Ext.drew | apply Ext.drewN))) hb) ?_
      refine wpQuiet_nil ?_
      intro e he
      simp only [List.mem_cons, List.not_mem_nil, or_false] at he
      subst he
      (unfold wpComes; simp only [List.getElem?_toArray, List.getElem?_cons_succ, List.getElem?_cons_zero, Option.some.injEq]; refine ⟨_, rfl, fun K hK => ?_⟩)
      go_wp2
      refine hK _ _ (.inr (fun b _ hb => Ext.block (by repeat (with_reducible (first | assumption | exact Ext.refl _ | apply Ext.alloc | apply Ext.drew | apply Ext.drewN))) hb)) ?_
      clear hK K
      refine wpZ_stage (fuel := 2) [] [5] (by kernel_rfl) (fun b _ hb => Ext.block (by repeat (with_reducible (first | assumption | exact Ext.refl _ | apply Ext.alloc | apply Ext.drew | apply Ext.drewN))) hb) ?_
      refine wpQuiet_nil ?_
      intro e he
      simp only [List.mem_cons, List.not_mem_nil, or_false] at he
      subst he
      (unfold wpComes; simp only [List.getElem?_toArray, List.getElem?_cons_succ, List.getElem?_cons_zero, Option.some.injEq]; refine ⟨_, rfl, fun K hK => ?_⟩)
      refine wpList_append_ints _ rfl _ _ rfl (w.heap.size + 1 + 1) (.slice (some ⟨w1.heap.size + 1, 0, none⟩) 0 0) [] t.px rfl (OwnInts.empty (g := w1.heap.size + 1) (by omega) (by rw [← World.size_alloc w1 (.cells #[.int .i64 0, .slice none 0 0] 41)]; exact heap_alloc_new _ _)) b off cap rfl ?_ (by simp; omega) (by simp; omega) ?_
      · intro i y hy
        obtain ⟨_, _, _, h4⟩ := HT.out
        have h5 := h4 y (List.mem_of_getElem? hy)
        exact ⟨⟨by omega, by omega⟩, ((Ext.trans E1 (by repeat (with_reducible (first | assumption | exact Ext.refl _ | apply Ext.alloc | apply Ext.drew | apply Ext.drewN)))).cells.1 _ _ hb0).trans (HH.out _ _ hy)⟩
      intro v2 w2 hown hg
      rw [List.nil_append] at hown
      have hs2 : ∀ b, b < w1.heap.size → w2.heap[b]? = w1.heap[b]? := fun b hb => (hg.block b (by simp; omega) (by simp [Value.ownBlock]; omega)).trans (Ext.block (by repeat (with_reducible (first | assumption | exact Ext.refl _ | apply Ext.alloc | apply Ext.drew | apply Ext.drewN))) hb)
      have hA := hg.block w1.heap.size (by simp; omega) (by simp [Value.ownBlock])
      have z2 := hg.size
      simp at z2
      have E2 : Ext w w2 := Ext.grown (Ext.trans E1 (by repeat (with_reducible (first | assumption | exact Ext.refl _ | apply Ext.alloc | apply Ext.drew | apply Ext.drewN)))) hg (by simp [Value.ownBlock]; omega)
      clear hg
      obtain ⟨a2, n2, rfl, _⟩ := hown.form
      have hc2 : ∀ b o, b < w1.heap.size → w2.cell? ⟨b, o, none⟩ = w1.cell? ⟨b, o, none⟩ := fun b o hb => World.cell?_of_block (w := w1) (hs2 b hb)
      have hf2 : ∀ b o, b < w1.heap.size → w2.frozen? ⟨b, o, none⟩ = w1.frozen? ⟨b, o, none⟩ := fun b o hb => World.frozen?_of_block (w := w1) (hs2 b hb)
      have hA2 : w2.heap[w1.heap.size]? = some (.cells #[.int .i64 0, .slice none 0 0] 41) := hA.trans ((Ext.block (w := w1.alloc (.cells #[.int .i64 0, .slice none 0 0] 41)) (by repeat (with_reducible (first | assumption | exact Ext.refl _ | apply Ext.alloc | apply Ext.drew | apply Ext.drewN))) (by simp)).trans (heap_alloc_new w1 _))
      have hA3 := hown.notBox hA2 (by decide)
      have hcA : ∀ o, w2.cell? ⟨w1.heap.size, o, none⟩ = #[Value.int .i64 0, .slice none 0 0][o]? := fun o => by simp [World.cell?, hA2]
      have hfA : ∀ o, w2.frozen? ⟨w1.heap.size, o, none⟩ = false := fun o => by simp [World.frozen?, hA2]
      clear hA
      go_wp2
      refine hK _ _ (.inr (fun b _ hb => hs2 b hb)) ?_
      clear hK K
      refine wpZ_stage (fuel := 0) [6] [8] (by kernel_rfl) (fun b _ hb => hs2 b hb) ?_
      simp only [Act.put, List.setIfInBounds_toArray, List.set_cons_succ, List.set_cons_zero, List.filterMap_cons, List.filterMap_nil, List.getElem?_toArray, List.getElem?_cons_zero, List.getElem?_cons_succ]
      show wpQuiet _ _ _ _ [_] _
      repeat (go_big_quiet_step (fail))
      refine wpQuiet_nil ?_
      intro e he
      simp only [List.mem_cons, List.not_mem_nil, or_false] at he
      subst he
      (unfold wpComes; simp only [List.getElem?_toArray, List.getElem?_cons_succ, List.getElem?_cons_zero, Option.some.injEq]; refine ⟨_, rfl, fun K hK => ?_⟩)
      go_wp2
      refine hK _ _ (.inl (by trivial)) ?_
      clear hK K
      refine wpZ_end (by kernel_rfl) ?_
      go_wp2_with fail
      go_meet
      refine ⟨_, a2, n2, rfl, ⟨(E2.setCell (by simp; omega) _).setCell (by simp; omega) _, by omega, ⟨by simp; omega, by simp [go_sem, *], by simp [go_sem, *]⟩, by simp [go_sem, *], by simp [go_sem, *], ⟨by simp; omega, by simp [go_sem, *], by simp [go_sem, *]⟩, by simp [go_sem, *], by simp [go_sem, *], ?_, ?_⟩⟩
      · exact (hown.keptAt (fun g hg => Below.heap_setCell _ _ _ _ (fun e => hA3 (hg.trans (congrArg some e))))).keptAt (fun g hg => Below.heap_setCell _ _ _ _ (fun e => hA3 (hg.trans (congrArg some e))))
      · intro g hg e
        exact hA3 (hg.trans (congrArg some e))
  case rest =>
    obtain ⟨A, a, c, rfl, hm⟩ := hcut
    have HS := hid hm
    clear hm c1 f1
    go_wp2_with fail
    go_loopw [1] (fun i wr => ∃ (j : Nat) (a : Option Addr) (c : Nat), j ≤ k ∧ i = .int .i64 ((k : Int) - j) ∧ MSt w wr (t.mip j) A a c) (fun i _ => (intOf i).toNat)
    case atStart => exact ⟨0, _, _, by omega, by simp, HS.out⟩
    case round =>
      clear HS
      obtain ⟨j, a, c, hj, rfl, hst⟩ := hrel
      have HS := hid hst
      have m0 := hst.box.lt
      have m1 := hst.box.c0
      have m2 := hst.box.c1
      have f0 := hst.f0
      have f1 := hst.f1
      have hp := hst.pos
      have r0 := hst.res.c0
      have r1 := hst.res.c1
      have r2 := hst.r0
      have r3 := hst.r1
      clear hst
      by_cases hjk : j < k
      · obtain ⟨hok, hlg⟩ := HT.out.mip j (by omega)
        have hl1 : 1 ≤ (t.mip j).log := by omega
        have HK := hid hok
        have HL := hid hl1
        clear hok hlg hl1
        go_wp2_with fail
        refine (sHalf_valid _ _ _ (t.mip j) _ (HK.out.tex HS.out.own).tex (Nat.le_refl _) HK.out HL.out).mono ?_
        rintro e w3 ⟨v3, rfl, O3, x3⟩
        obtain ⟨a3, c3, rfl, _⟩ := O3.form
        have HS3 := hid (HS.out.step x3 O3)
        obtain ⟨c4, f4⟩ := x3.cells
        have z3 := x3.size
        have z4 : A < w3.heap.size := by omega
        go_wp2
        go_roundw
        case rel => exact ⟨j + 1, a3, c3, by omega, by go_num, HS3.out⟩
        case measure => simp [intOf]; omega
      · obtain rfl : j = k := by omega
        have z4 : w.heap.size + 1 < wr.heap.size := by omega
        obtain ⟨hok, hlg⟩ := HT.out.mip j (by omega)
        have HK := hid hok
        clear hok hlg
        go_wp2
        have hown := HS.out.own
        have hext := HS.out.ext
        refine bodyPost_ret (v := .tuple #[.agg #[.int .i64 (t.mip j).log, .slice a (t.mip j).px.length c], .bool true]) (by simp [results, Tryz.results117, go_sem, *]) rfl ⟨_, rfl, HK.out.tex (((hown.setLow (by simp) _).setLow (by simp) _).low (by omega)), (hext.setCell (by simp) _).setCell (by simp) _⟩
end Go.Proofs.YtjfcngbepjdfnaaGreat
