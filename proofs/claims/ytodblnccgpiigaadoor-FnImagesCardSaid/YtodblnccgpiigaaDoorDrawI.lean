/- This text proves that the reference draws valid images. -/
import Derived.Test.YtodblnccgpiigaaDoorDraw
import Derived.Test.YtodblnccgpiigaaDoorPlanX
import Derived.Test.YtodblnccgpiigaaDoorImgW
import Derived.Deep.LoopGhost
namespace Go.Proofs.YtodblnccgpiigaaDoor
open Go.RowKit

/-- the drawer's state: the box of the image under way, its row of pixels, the cursor -/
structure DSt (hi B : Nat) (wa wr : World) (g : Nat) (W H : Int) (v : Value) (px : List Int) : Prop where
  gr : Gr B wa wr
  low : wa.heap.size ≤ g
  cur : Cur hi wr B
  box : Blk wr g 25 [.int .i64 W, .int .i64 H, v]
  own : OwnInts (g + 1) wr v px
  all : ∀ p ∈ px, 0 ≤ p ∧ p ≤ 256

set_option maxRecDepth 10000 in
set_option maxHeartbeats 1600000 in
theorem l30Draw_any (hi B : Nat) (w : World) (hc : Cur hi w B) :
    Calls Tryd.prog 25 #[.pointer (some ⟨B, 0, none⟩)] w fun e w' => ∃ (v : Value) (I : Pic), e = .returned v ∧ I.Own w.heap.size w' v ∧ I.okB = true ∧ Cur hi w' B ∧ Gr B w w' := by
  have HC := hid hc
  have hB := hc.lt
  clear hc
  go_enter Tryd.func25, Tryd.ntmps25
  go_wp2_with fail
  refine (l01Below_any hi B 4 _ (HC.out.ext (by repeat (with_reducible (first | assumption | exact Ext.refl _ | apply Ext.alloc | apply Ext.drew | apply Ext.drewN)))) (by decide) ⟨by decide, by decide⟩).mono ?_
  rintro e w1 ⟨x, rfl, ⟨x0, x1⟩, C1, G1⟩
  go_wp2_with fail
  refine (l01Below_any hi B 4 _ C1 (by decide) ⟨by decide, by decide⟩).mono ?_
  rintro e w2 ⟨y, rfl, ⟨y0, y1⟩, C2, G2⟩
  obtain ⟨W, hW⟩ : ∃ W, 1 + x = W := ⟨_, rfl⟩
  obtain ⟨H, hH⟩ : ∃ H, 1 + y = H := ⟨_, rfl⟩
  have W0 : 1 ≤ W := by omega
  have W4 : W ≤ 4 := by omega
  have H0 : 1 ≤ H := by omega
  have H4 : H ≤ 4 := by omega
  have wW : wrap64 (1 + x) = W := hW ▸ I64.wrap ⟨by omega, by omega⟩
  have wH : wrap64 (1 + y) = H := hH ▸ I64.wrap ⟨by omega, by omega⟩
  have hp := prod_bd (a := W) (b := H) (by rw [inB_iff]; omega) (by rw [inB_iff]; omega)
  obtain ⟨P, hP⟩ : ∃ P : Nat, W * H = P := ⟨(W * H).toNat, by omega⟩
  rw [hP] at hp
  have hPw := I64.wrap (n := (P : Int)) ⟨by omega, by omega⟩
  have S0 : DSt hi B (w.alloc (.cells #[.int .i64 0, .int .i64 0, .slice none 0 0] 25)) (w2.alloc (.cells #[.int .i64 W, .int .i64 H, .slice none 0 0] 25)) w2.heap.size W H (.slice none 0 0) [] :=
    ⟨(G1.trans G2).ext (by repeat (with_reducible (first | assumption | exact Ext.refl _ | apply Ext.alloc | apply Ext.drew | apply Ext.drewN))), Nat.le_trans G1.size G2.size, C2.ext (by repeat (with_reducible (first | assumption | exact Ext.refl _ | apply Ext.alloc | apply Ext.drew | apply Ext.drewN))), Blk.new w2 _ [.int .i64 W, .int .i64 H, .slice none 0 0], OwnInts.nil _ _, fun p h => by cases h⟩
  have S0 := hid S0
  have HP := hid hP
  clear hP wW wH C1 C2 G1 G2
  go_wp2
  clear hW hH x0 x1 y0 y1
  go_loopg [] P (fun k wr => ∃ (v : Value) (px : List Int), k = P - px.length ∧ px.length ≤ P ∧ DSt hi B (w.alloc (.cells #[.int .i64 0, .int .i64 0, .slice none 0 0] 25)) wr w2.heap.size W H v px)
  case atStart => exact ⟨_, [], by simp, by simp, S0.out⟩
  case round =>
    obtain ⟨v, px, hk, hl, hst⟩ := hrel
    obtain ⟨av, cv, ev, -⟩ := hst.own.form
    obtain ⟨n, hn⟩ : ∃ n, px.length = n := ⟨_, rfl⟩
    rw [hn] at ev hk hl
    subst ev
    have b0 := hst.box.cell 0 rfl
    have b1 := hst.box.cell 1 rfl
    have b2 := hst.box.cell 2 rfl
    have z0 := hst.box.lt
    have HN := hid hn
    have HST := hid hst
    have hw := hid hPw
    have PW : wrap64 (W * H) = (P : Int) := by rw [HP.out]; exact hPw
    have hgB : w2.heap.size ≠ B := by have := hst.low; simp at this; omega
    clear hst hn hPw
    by_cases hlt : n < P
    · go_wp2
      refine wp_region_stagesX [([0, 1, 2], 3), ([], 4), ([], 5), ([6], 7)] 7 (w2.heap.size + 1) B (by kernel_rfl) (by kernel_rfl) ?_
      refine wpStagesX_cons ?_
      simp only [List.filterMap_cons, List.filterMap_nil, List.getElem?_toArray, List.getElem?_cons_zero, List.getElem?_cons_succ]
      show wpQuiet _ _ _ _ [_, _, _] _
      repeat (go_big_quiet_step (fail))
      refine wpQuiet_nil ⟨_, rfl, fun K hK => ?_⟩
      go_wp2_with fail
      refine (l01Below_any hi B 257 _ (HST.out.cur.ext (by repeat (with_reducible (first | assumption | exact Ext.refl _ | apply Ext.alloc | apply Ext.drew | apply Ext.drewN)))) (by decide) ⟨by decide, by decide⟩).mono ?_
      rintro e w3 ⟨p, rfl, ⟨p0, p1⟩, C3, G3⟩
      have G3' : Gr B wr w3 := ((Gr.refl B wr).ext (by repeat (with_reducible (first | assumption | exact Ext.refl _ | apply Ext.alloc | apply Ext.drew | apply Ext.drewN)))).trans G3
      go_wp2_with fail
      have X3' : ∀ b, w2.heap.size + 1 ≤ b → b < wr.heap.size → w3.heap[b]? = wr.heap[b]? := fun b h1 h2 => G3'.block b h2 (fun e => by have := hgB; have hl := HST.out.low; simp only [World.size_alloc] at hl; simp only [Option.some.injEq] at e; omega)
      refine hK _ _ (.inr (SameX.gr G3' (by omega))) ?_
      clear hK K
      refine wpStagesX_cons ?_
      simp only [List.filterMap_nil]
      show wpQuiet _ _ _ _ [] _
      try simp only [Act.put, List.getElem_toArray, List.getElem_cons_succ, List.getElem_cons_zero, List.setIfInBounds_toArray, List.set_cons_succ, List.set_cons_zero]
      refine wpQuiet_nil ⟨_, rfl, fun K hK => ?_⟩
      go_wp2_with fail
      have X3 : SameX (w2.heap.size + 1) B wr w3 := SameX.gr G3' (by omega)
      have z3 := G3'.size
      have y4 : Ext w3 (w3.alloc (.cells #[.int .i64 p] 3)) := (by repeat (with_reducible (first | assumption | exact Ext.refl _ | apply Ext.alloc | apply Ext.drew | apply Ext.drewN)))
      refine hK _ _ (.inr (X3.trans (SameX.of (y4.same (by omega))))) ?_
      clear hK K
      refine wpStagesX_cons ?_
      simp only [List.filterMap_nil]
      show wpQuiet _ _ _ _ [] _
      try simp only [Act.put, List.getElem_toArray, List.getElem_cons_succ, List.getElem_cons_zero, List.setIfInBounds_toArray, List.set_cons_succ, List.set_cons_zero]
      refine wpQuiet_nil ⟨_, rfl, fun K hK => ?_⟩
      have own3 : OwnInts (w2.heap.size + 1) w3 (.slice av n cv) px := HST.out.own.kept (fun b hb hb' => X3' b hb hb')
      refine wpList_append1 _ rfl _ _ rfl (w2.heap.size + 1) (.slice av n cv) px rfl (own3.alloc _) p ⟨by omega, by omega⟩ w3.heap.size rfl (by simp [go_sem]) (by rw [HN.out]; omega) (by simp; omega) ?_
      intro v' w4 hown hg
      obtain ⟨a4, c4, e4, -⟩ := hown.form
      rw [show (px ++ [p]).length = n + 1 by rw [List.length_append, HN.out]; rfl] at e4
      subst e4
      have hlow := HST.out.low
      rw [World.size_alloc] at hlow
      have hz4 := hg.size
      rw [World.size_alloc] at hz4
      have hv3 : ∀ k, (Value.slice av n cv).ownBlock = some k → w2.heap.size + 1 ≤ k := fun k hk => (own3.lt k hk).1
      have hkeep : ∀ b, b < w2.heap.size + 1 → w4.heap[b]? = w3.heap[b]? := fun b hb => (hg.block b (by simp; omega) (fun e => by have := hv3 b e.symm; omega)).trans (y4.block (by omega))
      have X4 : SameX (w2.heap.size + 1) B wr w4 := X3.trans (SameX.of (fun b _ hb => hkeep b hb))
      have B3 := G3'.blk HST.out.box hgB
      have B4 := B3.of (hkeep _ (by omega))
      have C4 : Cur hi w4 B := C3.keep (fun b hb => hkeep b (by omega))
      have Gw4 : Gr B (w.alloc (.cells #[.int .i64 0, .int .i64 0, .slice none 0 0] 25)) w4 := (((HST.out.gr.trans G3').ext y4).step hg (fun k hk => by have := hv3 k hk; simp; omega))
      have HC4 := hid C4
      have HG4 := hid Gw4
      have HO4 := hid hown
      have c2' := B4.cell 2 rfl
      have f2' := B4.free 2
      have z4 := B4.lt
      have HB4 := hid B4
      clear hg hown own3 C4 Gw4 B4 B3 hv3 hkeep X3'
      go_wp2_with fail
      refine hK _ _ (.inr X4) ?_
      clear hK K X4 X3
      refine wpStagesX_cons ?_
      simp only [List.filterMap_cons, List.filterMap_nil, List.getElem?_toArray, List.getElem?_cons_zero, List.getElem?_cons_succ]
      show wpQuiet _ _ _ _ [_] _
      try simp only [Act.put, List.getElem_toArray, List.getElem_cons_succ, List.getElem_cons_zero, List.setIfInBounds_toArray, List.set_cons_succ, List.set_cons_zero]
      repeat (go_big_quiet_step (fail))
      refine wpQuiet_nil ⟨_, rfl, fun K hK => ?_⟩
      go_wp2
      refine hK _ _ (.inl (by trivial)) (wpStagesX_nil ?_)
      clear hK K
      go_wp2
      go_roundg (P - (n + 1))
      case measure => omega
      case rel =>
        refine ⟨_, px ++ [p], by rw [List.length_append, HN.out]; rfl, by rw [List.length_append, HN.out]; simp; omega, ⟨?_, HST.out.low, ?_, HB4.out.set 2 _, HO4.out.setLow (by simp) _, ?_⟩⟩
        · exact HG4.out.setNew (by simp; omega) _ _
        · exact HC4.out.setNew (by omega) _ _
        · intro q hq
          rcases List.mem_append.1 hq with h | h
          · exact HST.out.all q h
          · simp at h; subst h; exact ⟨p0, by omega⟩
    · have R0 := HST.out.gr.blk (Blk.new w 25 [.int .i64 0, .int .i64 0, .slice none 0 0]) (by omega)
      have r0 := R0.cell 0 rfl
      have r1 := R0.cell 1 rfl
      have r2 := R0.cell 2 rfl
      have f0 := R0.free 0
      have f1 := R0.free 1
      have f2 := R0.free 2
      have z1 := R0.lt
      obtain rfl : n = P := by omega
      go_wp2
      have iW : I64 W := ⟨by omega, by omega⟩
      have iH : I64 H := ⟨by omega, by omega⟩
      have hgl := HST.out.low
      rw [World.size_alloc] at hgl
      refine bodyPost_ret (v := .agg #[.int .i64 W, .int .i64 H, .slice av n cv]) (by simp [results, Tryd.results25, go_sem, *]) rfl ⟨_, ⟨W, H, px⟩, rfl, ⟨_, rfl, iW, iH, ?_⟩, ?_, ?_, ?_⟩
      · exact (((HST.out.own.setLow (by simp; omega) _).setLow (by simp; omega) _).setLow (by simp; omega) _).low (by omega)
      · unfold Pic.okB
        have a1 : px.all (fun n => inB n 0 256) = true := List.all_eq_true.2 fun q hq => inB_iff.2 (HST.out.all q hq)
        have a2 : inB W 1 12 = true := by rw [inB_iff]; omega
        have a3 : inB H 1 12 = true := by rw [inB_iff]; omega
        rw [a1, a2, a3, HP.out, HN.out]
        simp
      · exact ((HST.out.cur.setNew (by omega) _ _).setNew (by omega) _ _).setNew (by omega) _ _
      · exact (((((Gr.refl B w).ext (show Ext w (w.alloc (.cells #[.int .i64 0, .int .i64 0, .slice none 0 0] 25)) from (by repeat (with_reducible (first | assumption | exact Ext.refl _ | apply Ext.alloc | apply Ext.drew | apply Ext.drewN))))).trans HST.out.gr).setNew (Nat.le_refl _) _ _).setNew (Nat.le_refl _) _ _).setNew (Nat.le_refl _) _ _

set_option maxHeartbeats 800000 in
theorem MakeImage_any (hi : Nat) (v : Value) (n m : Nat) (w : World) (hv : Byts hi w v n) (hh : hi ≤ w.heap.size) (hn : n ≤ 1048576) (hm : m ≤ 100) :
    Calls Tryd.prog 6 #[v, .int .i64 m] w fun e w' => ∃ (v : Value) (I : Pic), e = .returned v ∧ I.Own w.heap.size w' v ∧ I.okB = true ∧ Ext w w' := by
  have HV := hid hv
  obtain ⟨a, cap, rfl, k1, k2⟩ := hv.open
  have em : (2 : Int) * m = ((2 * m : Nat) : Int) := by omega
  replace em := hid em
  clear hv
  go_enter Tryd.func6, Tryd.ntmps6
  go_wp2_with fail
  rw [em.out]
  refine (l32New_any hi _ n (2 * m) _ (HV.out.ext hh (by repeat (with_reducible (first | assumption | exact Ext.refl _ | apply Ext.alloc | apply Ext.drew | apply Ext.drewN)))) (by simp; omega) hn (by omega)).mono ?_
  rintro e w1 ⟨B, rfl, hB, C1, x1⟩
  go_wp2_with fail
  refine (l30Draw_any hi B _ C1).mono ?_
  rintro e w2 ⟨v2, I, rfl, O2, hok, C2, G2⟩
  obtain ⟨a2, c2, rfl⟩ := O2.form
  rw [World.size_alloc] at hB
  have x1' : Ext w w1 := Ext.trans (by repeat (with_reducible (first | assumption | exact Ext.refl _ | apply Ext.alloc | apply Ext.drew | apply Ext.drewN))) x1
  have R0 := G2.blk ((Blk.new w 25 [.int .i64 0, .int .i64 0, .slice none 0 0]).ext x1) (by omega)
  have r0 := R0.cell 0 rfl
  have r1 := R0.cell 1 rfl
  have r2 := R0.cell 2 rfl
  have f0 := R0.free 0
  have f1 := R0.free 1
  have f2 := R0.free 2
  have z1 := R0.lt
  have zz := x1.size
  rw [World.size_alloc] at zz
  go_wp2
  obtain ⟨u, e, i1, i2, h3⟩ := O2
  have e' := e
  simp only [Value.agg.injEq] at e'
  obtain rfl : Value.slice a2 I.px.length c2 = u := by simpa using e'
  refine bodyPost_ret (v := .agg #[.int .i64 I.w, .int .i64 I.h, .slice a2 I.px.length c2]) (by simp [results, Tryd.results6, go_sem, *]) rfl ⟨_, I, rfl, ⟨_, rfl, i1, i2, ?_⟩, hok, ?_⟩
  · exact (((h3.setLow (by simp; omega) _).setLow (by simp; omega) _).setLow (by simp; omega) _).low (by omega)
  · exact (((G2.up x1' (by omega)).setCell (Nat.le_refl _) _).setCell (Nat.le_refl _) _).setCell (Nat.le_refl _) _
end Go.Proofs.YtodblnccgpiigaaDoor
