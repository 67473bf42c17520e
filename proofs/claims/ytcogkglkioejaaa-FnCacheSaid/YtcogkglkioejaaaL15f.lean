/- This text proves what the program's mip levels compute. -/
import Derived.Test.YtcogkglkioejaaaLawKit
import Derived.Deep.Cut
import Derived.Deep.CutRange
import Derived.Laws.CopyOwn
namespace Go.Proofs.Ytcogkglkioejaaa
open Go.RowKit

/-- k levels down -/
def Tex.mip (t : Tex) : Nat → Tex
  | 0 => t
  | k + 1 => (t.mip k).half
theorem Tex.Ok.mip {t : Tex} (h : t.Ok) : ∀ k : Nat, k ≤ t.log → (t.mip k).Ok ∧ (t.mip k).log = t.log - k
  | 0, _ => ⟨h, by simp [Tex.mip]⟩
  | k + 1, hk => by
    obtain ⟨h1, h2⟩ := h.mip k (by omega)
    refine ⟨h1.half (by omega), ?_⟩
    show (t.mip k).log - 1 = _
    omega

theorem OwnInts.keptAt {lo : Nat} {w w' : World} {v : Value} {xs : List Int} (h : OwnInts lo w v xs) (s : ∀ g, v.ownBlock = some g → w'.heap[g]? = w.heap[g]?) : OwnInts lo w' v xs := by
  obtain ⟨⟨h1, h2⟩, h3⟩ := h
  refine ⟨⟨h1, ?_⟩, h3⟩
  rcases h2 with hn | ⟨g, cap, cur, hv, hb, hg, r⟩
  · exact .inl hn
  · exact .inr ⟨g, cap, cur, hv, hb, by rw [s g (by rw [hv]; rfl)]; exact hg, r⟩

theorem add_none (b o j : Nat) : (⟨b, o, none⟩ : Addr).add j = ⟨b, o + j, none⟩ := by
  unfold Addr.add
  split
  · rename_i e; subst e; rfl
  · rfl

/-- copy of as many integers as the owned row holds -/
theorem wpList_copy_ints {w : World} {ops : Array Oper} {rest : List Oper} {o : Oper} {a : Act} {Q : Exit → Act → World → Prop} (hgd : o.guard = none) (d s : Operand)
    (hop : o.op = Op.call { callee := Callee.builtin Builtin.copy, args := #[d, s], argTypes := #[23, 23] }) (lo B b off n m cap : Nat) (xs zs : List Int)
    (hd : a.eval d = .slice (some ⟨B, 0, none⟩) n m) (hs : a.eval s = .slice (some ⟨b, off, none⟩) n cap) (hn : xs.length = n) (hz : zs.length = n) (hown : OwnInts lo w (.slice (some ⟨B, 0, none⟩) n m) zs)
    (hx : ∀ i x, xs[i]? = some x → I64 x ∧ w.cell? ⟨b, off + i, none⟩ = some (.int .i64 x))
    (h : ∀ w', OwnInts lo w' (.slice (some ⟨B, 0, none⟩) n m) xs → (∀ k, k ≠ B → w'.heap[k]? = w.heap[k]?) → Below lo w w' → wpList Try.prog ops Q rest (a.put o.dst (goInt n)) w') :
    wpList Try.prog ops Q (o :: rest) a w := by
  obtain ⟨⟨hl, h2⟩, h3⟩ := hown
  obtain ⟨i0, hi0, hz0, hz1, hz2⟩ := info_parts info_int
  rcases h2 with ⟨h1, _⟩ | ⟨g, cap', cur, h1, hb, hg, hc, hm, hsz, ht⟩
  · simp at h1
  simp only [Value.slice.injEq, Option.some.injEq, Addr.mk.injEq, and_true] at h1
  obtain ⟨rfl, _, rfl⟩ := h1
  subst hn
  have hcs : (xs.map (Value.int .i64)).length = Nat.min xs.length xs.length := by simp
  refine wpList_copy_own hgd d s 23 23 hop 3 Try.underlying23 (by rw [hi0]; simp [hz1]) B 0 xs.length m ⟨b, off, none⟩ xs.length cap hd hs cur 3 hg (xs.map (Value.int .i64)) hcs ?_ ?_ ?_ ?_
  · intro j v hj
    rw [List.getElem?_map] at hj
    cases hxj : xs[j]? with
    | none => rw [hxj] at hj; cases hj
    | some x =>
      rw [hxj] at hj
      simp only [Option.map_some, Option.some.injEq] at hj
      subst hj
      rw [add_none]
      exact (hx j x hxj).2
  · simp; omega
  · intro v hv
    obtain ⟨x, _, rfl⟩ := List.mem_map.1 hv
    rfl
  · have hlen : (xs.map (Value.int .i64)).length = xs.length := by simp
    rw [hlen]
    refine h _ ⟨⟨by simp, .inr ⟨B, m, _, rfl, hb, setRow_heap w B _ _ _ _ hg, by omega, hm, ?_, ?_⟩⟩, fun x hx' => ?_⟩ (fun k hk => setRow_other w B k _ hk) (below_setRow (Below.refl _ _) hb _)
    · simp; omega
    · simp
    · obtain ⟨i, hi⟩ := List.getElem?_of_mem hx'
      exact (hx i x hi).1

/-- the boxes of the program's mip: the texture is at t -/
structure MSt (w wr : World) (t : Tex) (A : Nat) (a : Option Addr) (c : Nat) : Prop where
  ext : Ext w wr
  pos : w.heap.size + 1 < A
  box : TBox wr A (.int .i64 t.log) (.slice a t.px.length c)
  f0 : wr.frozen? ⟨A, 0, none⟩ = false
  f1 : wr.frozen? ⟨A, 1, none⟩ = false
  res : TBox wr (w.heap.size + 1) (.int .i64 0) (.slice none 0 0)
  r0 : wr.frozen? ⟨w.heap.size + 1, 0, none⟩ = false
  r1 : wr.frozen? ⟨w.heap.size + 1, 1, none⟩ = false
  own : OwnInts (w.heap.size + 1 + 1) wr (.slice a t.px.length c) t.px
  ne : ∀ g, (Value.slice a t.px.length c).ownBlock = some g → g ≠ A

theorem MSt.fill {w wr w2 : World} {l : Int} {px zs : List Int} {A B n : Nat} (h : MSt w wr ⟨l, zs⟩ A (some ⟨B, 0, none⟩) n) (hz : zs.length = px.length) (hown : OwnInts (w.heap.size + 1 + 1) w2 (.slice (some ⟨B, 0, none⟩) px.length n) px)
    (ho : ∀ k, k ≠ B → w2.heap[k]? = wr.heap[k]?) (hb : Below (w.heap.size + 1 + 1) wr w2) : MSt w w2 ⟨l, px⟩ A (some ⟨B, 0, none⟩) n := by
  have h1 := h.own.lt
  have hB : w.heap.size + 1 + 1 ≤ B := (h1 B rfl).1
  have hne : A ≠ B := fun e => h.ne B rfl e.symm
  have hz' := hb.size
  have b1 := h.box.at hz' (ho A hne)
  simp only [hz] at b1
  refine ⟨Below.trans h.ext (Below.mono hb (by omega)), h.pos, b1, (World.frozen?_of_block (w := wr) (ho A hne)).trans h.f0, (World.frozen?_of_block (w := wr) (ho A hne)).trans h.f1, h.res.at hz' (ho _ (by omega)),
    (World.frozen?_of_block (w := wr) (ho (w.heap.size + 1) (by omega))).trans h.r0, (World.frozen?_of_block (w := wr) (ho (w.heap.size + 1) (by omega))).trans h.r1, hown, fun g hg => ?_⟩
  exact h.ne g hg
theorem MSt.step {w wr w1 : World} {t t2 : Tex} {A : Nat} {a a2 : Option Addr} {c c2 : Nat} (h : MSt w wr t A a c) (e : Ext wr w1) (hown : OwnTex wr.heap.size w1 (.agg #[.int .i64 t2.log, .slice a2 t2.px.length c2]) t2) :
    MSt w ((w1.setCell ⟨A, 0, none⟩ (.int .i64 t2.log)).setCell ⟨A, 1, none⟩ (.slice a2 t2.px.length c2)) t2 A a2 c2 := by
  obtain ⟨u, hu, _, hown⟩ := hown
  obtain rfl : Value.slice a2 t2.px.length c2 = u := by simpa using hu
  have hA := h.box.lt
  have hz := e.size
  have hp := h.pos
  have hk : ∀ b o, b ≠ A → ((w1.setCell ⟨A, 0, none⟩ (.int .i64 t2.log)).setCell ⟨A, 1, none⟩ (.slice a2 t2.px.length c2)).cell? ⟨b, o, none⟩ = w1.cell? ⟨b, o, none⟩ := fun b o hb => by
    rw [World.cell?_setCell_other _ _ _ _ (fun e => by simp only [Addr.mk.injEq] at e; omega), World.cell?_setCell_other _ _ _ _ (fun e => by simp only [Addr.mk.injEq] at e; omega)]
  have b1 := h.box.ext e
  have r1 := h.res.ext e
  obtain ⟨_, hf⟩ := e.cells
  refine ⟨((h.ext.trans e).setCell (by show w.heap.size ≤ A; omega) _).setCell (by show w.heap.size ≤ A; omega) _, hp, ⟨by simp; omega, ?_, ?_⟩, ?_, ?_, ⟨by simp; omega, by rw [hk _ _ (by omega)]; exact r1.c0, by rw [hk _ _ (by omega)]; exact r1.c1⟩, ?_, ?_, ?_, ?_⟩
  · rw [World.cell?_setCell_other _ _ _ _ (by simp)]
    exact World.cell?_setCell_same _ _ _ b1.c0
  · refine World.cell?_setCell_same _ _ _ (?_ : _ = some (Value.slice a t.px.length c))
    rw [World.cell?_setCell_other _ _ _ _ (by simp)]
    exact b1.c1
  · rw [World.frozen?_setCell, World.frozen?_setCell, hf _ _ hA]; exact h.f0
  · rw [World.frozen?_setCell, World.frozen?_setCell, hf _ _ hA]; exact h.f1
  · rw [World.frozen?_setCell, World.frozen?_setCell, hf _ _ (by omega)]; exact h.r0
  · rw [World.frozen?_setCell, World.frozen?_setCell, hf _ _ (by omega)]; exact h.r1
  · exact ((hown.setLow (by exact hA) _).setLow (by exact hA) _).low (by omega)
  · intro g hg
    have := (hown.lt g hg).1
    omega
theorem Tex.Ok.tex {lo : Nat} {w : World} {t : Tex} {a : Option Addr} {c : Nat} (h : t.Ok) (hown : OwnInts lo w (.slice a t.px.length c) t.px) : OwnTex lo w (.agg #[.int .i64 t.log, .slice a t.px.length c]) t :=
  ⟨_, rfl, ⟨by have := h.log0; omega, by have := h.log4; omega⟩, hown⟩

set_option maxRecDepth 10000 in
set_option maxHeartbeats 1600000 in
theorem mip_any (lo hi : Nat) (v : Value) (t : Tex) (k : Nat) (w : World) (hv : TexR lo hi w v t) (hh : hi ≤ w.heap.size) (ht : t.Ok) (hk : k ≤ t.log) :
    Calls Try.prog 30 #[v, .int .i64 k] w fun e w' => ∃ v', e = .returned v' ∧ OwnTex w.heap.size w' v' (t.mip k) ∧ Ext w w' := by
  obtain ⟨b, off, cap, rfl, hcap, hlo, hhi, hcell⟩ := hv.ok ht
  obtain ⟨i0, hi0, hz0, hz1, hz2⟩ := info_parts info_int
  have hl2 : t.px.length ≤ 256 := by rw [ht.len]; exact Nat.mul_le_mul ht.n_le ht.n_le
  have hk4 : k ≤ 4 := by have := ht.log4; omega
  have HT := hid ht
  have HC := hid hcap
  have HH := hid hcell
  have hb0 : b < w.heap.size := by omega
  have hlog := hid (⟨hv.shape.choose_spec.2.1, hv.shape.choose_spec.2.2⟩ : I64 t.log)
  clear hv ht hcap hcell
  go_enter Try.func30, Try.ntmps30
  go_upto_region 1 with fail
  go_cut [5] from 6 to 12 (fun p wx => ∃ A B, p = .pointer (some ⟨A, 0, none⟩) ∧ MSt w wx ⟨t.log, List.replicate t.px.length 0⟩ A (some ⟨B, 0, none⟩) t.px.length ∧ TBox wx w.heap.size (.int .i64 t.log) (.slice (some ⟨b, off, none⟩) t.px.length cap))
  case first =>
    refine wp_region_Z 8 (w.heap.size + 1 + 1) (by kernel_rfl) ?_
    refine wpZ_stage (fuel := 3) [0, 1, 2, 3, 4] [5, 7] (by kernel_rfl) (fun _ _ _ => rfl) ?_
    simp only [List.filterMap_cons, List.filterMap_nil, List.getElem?_toArray, List.getElem?_cons_zero, List.getElem?_cons_succ]
    show wpQuiet _ _ _ _ [_, _, _, _, _] _
    repeat (go_big_quiet_step (fail))
    refine wpQuiet_nil ?_
    intro e he
    simp only [List.mem_cons, List.not_mem_nil, or_false] at he
    rcases he with rfl | rfl
    · (unfold wpComes; simp only [List.getElem?_toArray, List.getElem?_cons_succ, List.getElem?_cons_zero, Option.some.injEq]; refine ⟨_, rfl, fun K hK => ?_⟩)
      refine wpList_make_full _ rfl _ _ 23 rfl (w.heap.size + 1 + 1) 3 i0 (.int .i64 0) 1 Try.underlying23 hi0 hz0 hz1 _ _ _ _ t.px.length rfl rfl rfl rfl (by rw [hz2]; omega) (by unfold maxLen; omega) (by simp) ?_
      intro w1 hown hgrow
      have e1 := (Ext.refl _).grown hgrow (fun k h => by cases h)
      have ze := e1.size
      simp at ze
      go_wp2
      refine hK _ _ (.inr (fun b _ hb => e1.block (by simp; omega))) ?_
      clear hK K
      have hown' : OwnInts (w.heap.size + 1 + 1) w1 (.slice (some ⟨w.heap.size + 1 + 1, 0, none⟩) t.px.length t.px.length) (List.replicate t.px.length 0) := by
        simp only [Value.cells, Nat.mul_one, World.size_drew, World.size_alloc] at hown
        rw [made_ints] at hown
        exact ⟨by simpa using hown, fun x hx => by rw [List.eq_of_mem_replicate hx]; exact ⟨by decide, by decide⟩⟩
      refine wpZ_stage (fuel := 1) [6] [7] (by kernel_rfl) (fun b _ hb => e1.block (by simp; omega)) ?_
      simp only [Act.put, List.setIfInBounds_toArray, List.set_cons_succ, List.set_cons_zero, List.filterMap_cons, List.filterMap_nil, List.getElem?_toArray, List.getElem?_cons_zero, List.getElem?_cons_succ]
      show wpQuiet _ _ _ _ [_] _
      repeat (go_big_quiet_step (fail))
      refine wpQuiet_nil ?_
      intro e he
      simp only [List.mem_cons, List.not_mem_nil, or_false] at he
      subst he
      (unfold wpComes; simp only [List.getElem?_toArray, List.getElem?_cons_succ, List.getElem?_cons_zero, Option.some.injEq]; refine ⟨_, rfl, fun K hK => ?_⟩)
      go_wp2
      refine hK _ _ (.inr (fun b _ hb => (Ext.block (w := w1) (by repeat (with_reducible (first | assumption | exact Ext.refl _ | apply Ext.alloc | apply Ext.drew | apply Ext.drewN))) (by omega)).trans (e1.block (by simp; omega)))) ?_
      clear hK K
      refine wpZ_stage (fuel := 0) [] [8] (by kernel_rfl) (fun b _ hb => (Ext.block (w := w1) (by repeat (with_reducible (first | assumption | exact Ext.refl _ | apply Ext.alloc | apply Ext.drew | apply Ext.drewN))) (by omega)).trans (e1.block (by simp; omega))) ?_
      refine wpQuiet_nil ?_
      intro e he
      simp only [List.mem_cons, List.not_mem_nil, or_false] at he
      subst he
      (unfold wpComes; simp only [List.getElem?_toArray, List.getElem?_cons_succ, List.getElem?_cons_zero, Option.some.injEq]; refine ⟨_, rfl, fun K hK => ?_⟩)
      go_wp2
      refine hK _ _ (.inl (by trivial)) ?_
      clear hK K
      refine wpZ_end (by kernel_rfl) ?_
      go_wp2_with fail
      go_meet
      obtain ⟨c1, f1⟩ := e1.cells
      have q0 : w.heap.size < w1.heap.size := by omega
      have q1 : w.heap.size + 1 < w1.heap.size := by omega
      have E1 : Ext w w1 := Ext.trans (by repeat (with_reducible (first | assumption | exact Ext.refl _ | apply Ext.alloc | apply Ext.drew | apply Ext.drewN))) e1
      refine ⟨_, w.heap.size + 1 + 1, rfl, ⟨E1.alloc _, q1, ?_, by simp [go_sem], by simp [go_sem], ⟨by simp; omega, by simp [go_sem, *], by simp [go_sem, *]⟩, by simp [go_sem, *], by simp [go_sem, *], ?_, ?_⟩, ⟨by simp; omega, by simp [go_sem, *], by simp [go_sem, *]⟩⟩
      · simp only [List.length_replicate]
        exact TBox.made _ _ _ _
      · simp only [List.length_replicate]
        exact hown'.alloc _
      · intro g hg
        have h2 := (hown'.lt g hg).2
        omega
    · (unfold wpComes; simp only [List.getElem?_toArray, List.getElem?_cons_succ, List.getElem?_cons_zero, Option.some.injEq]; refine ⟨_, rfl, fun K hK => ?_⟩)
      go_wp2
      refine hK _ _ (.inr (fun b _ hb => Ext.block (by repeat (with_reducible (first | assumption | exact Ext.refl _ | apply Ext.alloc | apply Ext.drew | apply Ext.drewN))) (by simp; omega))) ?_
      clear hK K
      refine wpZ_stage (fuel := 2) [] [5] (by kernel_rfl) (fun b _ hb => Ext.block (by repeat (with_reducible (first | assumption | exact Ext.refl _ | apply Ext.alloc | apply Ext.drew | apply Ext.drewN))) (by simp; omega)) ?_
      refine wpQuiet_nil ?_
      intro e he
      simp only [List.mem_cons, List.not_mem_nil, or_false] at he
      subst he
      (unfold wpComes; simp only [List.getElem?_toArray, List.getElem?_cons_succ, List.getElem?_cons_zero, Option.some.injEq]; refine ⟨_, rfl, fun K hK => ?_⟩)
      refine wpList_make_full _ rfl _ _ 23 rfl (w.heap.size + 1 + 1 + 1) 3 i0 (.int .i64 0) 1 Try.underlying23 hi0 hz0 hz1 _ _ _ _ t.px.length rfl rfl rfl rfl (by rw [hz2]; omega) (by unfold maxLen; omega) (by simp) ?_
      intro w1 hown hgrow
      have e1 := (Ext.refl _).grown hgrow (fun k h => by cases h)
      have ze := e1.size
      simp at ze
      go_wp2
      refine hK _ _ (.inr (fun b _ hb => (e1.block (by simp; omega)).trans (Ext.block (by repeat (with_reducible (first | assumption | exact Ext.refl _ | apply Ext.alloc | apply Ext.drew | apply Ext.drewN))) (by simp; omega)))) ?_
      clear hK K
      have hown' : OwnInts (w.heap.size + 1 + 1 + 1) w1 (.slice (some ⟨w.heap.size + 1 + 1 + 1, 0, none⟩) t.px.length t.px.length) (List.replicate t.px.length 0) := by
        simp only [Value.cells, Nat.mul_one, World.size_drew, World.size_alloc] at hown
        rw [made_ints] at hown
        exact ⟨by simpa using hown, fun x hx => by rw [List.eq_of_mem_replicate hx]; exact ⟨by decide, by decide⟩⟩
      obtain ⟨c1, f1⟩ := e1.cells
      have q0 : w.heap.size < w1.heap.size := by omega
      have q1 : w.heap.size + 1 < w1.heap.size := by omega
      have q2 : w.heap.size + 1 + 1 < w1.heap.size := by omega
      refine wpZ_stage (fuel := 0) [6] [8] (by kernel_rfl) (fun b _ hb => (e1.block (by simp; omega)).trans (Ext.block (by repeat (with_reducible (first | assumption | exact Ext.refl _ | apply Ext.alloc | apply Ext.drew | apply Ext.drewN))) (by simp; omega))) ?_
      simp only [Act.put, List.setIfInBounds_toArray, List.set_cons_succ, List.set_cons_zero, List.filterMap_cons, List.filterMap_nil, List.getElem?_toArray, List.getElem?_cons_zero, List.getElem?_cons_succ]
      show wpQuiet _ _ _ _ [_] _
      repeat (go_big_quiet_step (fail))
      refine wpQuiet_nil ?_
      intro e he
      simp only [List.mem_cons, List.not_mem_nil, or_false] at he
      subst he
      (unfold wpComes; simp only [List.getElem?_toArray, List.getElem?_cons_succ, List.getElem?_cons_zero, Option.some.injEq]; refine ⟨_, rfl, fun K hK => ?_⟩)
      go_wp2
      refine hK _ _ (.inl (by trivial)) ?_
      clear hK K
      refine wpZ_end (by kernel_rfl) ?_
      go_wp2_with fail
      go_meet
      have E1 : Ext w w1 := Ext.trans (by repeat (with_reducible (first | assumption | exact Ext.refl _ | apply Ext.alloc | apply Ext.drew | apply Ext.drewN))) e1
      refine ⟨_, w.heap.size + 1 + 1 + 1, rfl, ⟨(E1.setCell (by simp; omega) _).setCell (by simp; omega) _, by omega, ?_, by simp [go_sem, *], by simp [go_sem, *], ⟨by simp; omega, by simp [go_sem, *], by simp [go_sem, *]⟩, by simp [go_sem, *], by simp [go_sem, *], ?_, ?_⟩, ⟨by simp; omega, by simp [go_sem, *], by simp [go_sem, *]⟩⟩
      · simp only [List.length_replicate]
        exact ⟨by simp; omega, by simp [go_sem, *], by simp [go_sem, *]⟩
      · simp only [List.length_replicate]
        exact ((hown'.setLow (by simp) _).setLow (by simp) _).low (by omega)
      · intro g hg
        have h2 := (hown'.lt g hg).1
        omega
  case rest =>
    obtain ⟨A, B, rfl, hm, hp⟩ := hcut
    have HM := hid hm
    have m0 := hm.box.lt
    have m1 := hm.box.c1
    simp only [List.length_replicate] at m1
    have q0 := hp.lt
    have q1 := hp.c1
    have e0 := hm.ext.size
    have hown := hm.own
    simp only [List.length_replicate] at hown
    have HO := hid hown
    have HE := hid hm.ext.cells.1
    have hneA := hid hm.ne
    clear hm hp hown
    go_wp2_with (with_reducible refine wpList_copy_ints rfl _ _ rfl (w.heap.size + 1 + 1) B b off t.px.length t.px.length cap t.px (List.replicate t.px.length 0) rfl rfl rfl (List.length_replicate ..) HO.out (fun i x hx => ?_) ?_)
    case refine_1 =>
      obtain ⟨_, _, _, h4⟩ := HT.out
      have h5 := h4 x (List.mem_of_getElem? hx)
      exact ⟨⟨by omega, by omega⟩, (HE.out _ _ hb0).trans (HH.out _ _ hx)⟩
    case refine_2 =>
      intro w2 hown2 ho hb
      have HS := hid (HM.out.fill (List.length_replicate ..) hown2 ho hb)
      clear HM HO HE hneA ho hb hown2 m0 m1 q0 q1 e0
      go_wp2
      go_loopw [19] (fun i wr => ∃ (j : Nat) (a : Option Addr) (c : Nat), j ≤ k ∧ i = .int .i64 j ∧ MSt w wr (t.mip j) A a c) (fun i _ => k - (intOf i).toNat)
      case atStart => exact ⟨0, _, _, by omega, rfl, HS.out⟩
      case round =>
        clear HS
        obtain ⟨j, a, c, hj, rfl, hst⟩ := hrel
        have HS := hid hst
        have m0 := hst.box.lt
        have m1 := hst.box.c0
        have m2 := hst.box.c1
        have f0 := hst.f0
        have f1 := hst.f1
        have hp := hst.pos
        have r0 := hst.res.c0
        have r1 := hst.res.c1
        have r2 := hst.r0
        have r3 := hst.r1
        clear hst
        by_cases hjk : j < k
        · obtain ⟨hok, hlg⟩ := HT.out.mip j (by omega)
          have hl1 : 1 ≤ (t.mip j).log := by omega
          have HK := hid hok
          have HL := hid hl1
          clear hok hlg hl1
          go_wp2_with fail
          refine (half_any _ _ _ (t.mip j) _ (HK.out.tex HS.out.own).tex (Nat.le_refl _) HK.out HL.out).mono ?_
          rintro e w3 ⟨v3, rfl, O3, x3⟩
          obtain ⟨a3, c3, rfl, _⟩ := O3.form
          have HS3 := hid (HS.out.step x3 O3)
          obtain ⟨c4, f4⟩ := x3.cells
          have z3 := x3.size
          have z4 : A < w3.heap.size := by omega
          go_wp2
          go_roundw
          case rel => exact ⟨j + 1, a3, c3, by omega, by go_num, HS3.out⟩
          case measure => simp [intOf]; omega
        · obtain rfl : j = k := by omega
          have z4 : w.heap.size + 1 < wr.heap.size := by omega
          obtain ⟨hok, hlg⟩ := HT.out.mip j (by omega)
          have HK := hid hok
          clear hok hlg
          go_wp2
          have hown := HS.out.own
          have hext := HS.out.ext
          refine bodyPost_ret (v := .agg #[.int .i64 (t.mip j).log, .slice a (t.mip j).px.length c]) (by simp [results, Try.results30, go_sem, *]) rfl ⟨_, rfl, HK.out.tex (((hown.setLow (by simp) _).setLow (by simp) _).low (by omega)), (hext.setCell (by simp) _).setCell (by simp) _⟩
end Go.Proofs.Ytcogkglkioejaaa
