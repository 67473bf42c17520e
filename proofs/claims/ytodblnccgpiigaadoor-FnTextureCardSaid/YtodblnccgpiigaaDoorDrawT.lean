/- This text proves that the reference draws valid textures. -/
import Derived.Test.YtodblnccgpiigaaDoorDraw
import Derived.Test.YtodblnccgpiigaaDoorPlanX
import Derived.Test.YtodblnccgpiigaaDoorL15e
import Derived.Deep.LoopGhost
namespace Go.Proofs.YtodblnccgpiigaaDoor
open Go.RowKit

set_option maxHeartbeats 800000 in
theorem l01Pick_any (hi B g n : Nat) (xs : List Int) (w : World) (hc : Cur hi w B) (hg : Blk w g 3 (xs.map (Value.int .i64))) (hne : g ≠ B) (hn : xs.length = n) (h1 : 1 ≤ n) (h2 : n ≤ 1000) :
    Calls Tryd.prog 72 #[.pointer (some ⟨B, 0, none⟩), .slice (some ⟨g, 0, none⟩) n n] w fun e w' => ∃ x : Int, e = .returned (.int .i64 x) ∧ x ∈ xs ∧ Cur hi w' B ∧ Gr B w w' := by
  have HC := hid hc
  have HG := hid hg
  have HN := hid hn
  clear hc hg hn
  go_enter Tryd.func72, Tryd.ntmps72
  go_wp2_with fail
  refine (l01Below_any hi B n _ HC.out (by omega) ⟨by omega, by omega⟩).mono ?_
  rintro e w1 ⟨x, rfl, ⟨x0, x1⟩, C1, G1⟩
  obtain ⟨k, rfl⟩ : ∃ k : Nat, x = k := ⟨x.toNat, by omega⟩
  have B1 := G1.blk HG.out hne
  have hk : k < xs.length := by rw [HN.out]; omega
  have c0 := B1.cell k (v := .int .i64 xs[k]) (by simp [hk])
  have hm : xs[k] ∈ xs := List.getElem_mem hk
  obtain ⟨y, hy⟩ : ∃ y, xs[k] = y := ⟨_, rfl⟩
  rw [hy] at c0 hm
  have z1 := B1.lt
  have hkn : k < n := by omega
  clear hy hk
  go_wp2
  go_ret
  exact ⟨y, rfl, hm, C1, G1⟩

/-- the drawer's state: the box of the texture under way, its row of texels, the cursor -/
structure TSt (hi B : Nat) (wa wr : World) (g : Nat) (L : Int) (v : Value) (px : List Int) : Prop where
  gr : Gr B wa wr
  low : wa.heap.size ≤ g
  cur : Cur hi wr B
  box : Blk wr g 42 [.int .i64 L, v]
  own : OwnInts (g + 1) wr v px
  all : ∀ p ∈ px, 0 ≤ p ∧ p ≤ 256
theorem TSt.to {hi B : Nat} {wa wr w' : World} {g : Nat} {L : Int} {v : Value} {px : List Int} (h : TSt hi B wa wr g L v px) (e : Ext wr w') : TSt hi B wa w' g L v px :=
  ⟨h.gr.ext e, h.low, h.cur.ext e, h.box.ext e, h.own.ext e, h.all⟩

set_option maxRecDepth 10000 in
set_option maxHeartbeats 1600000 in
theorem l15Draw_any (hi B : Nat) (w : World) (hc : Cur hi w B) :
    Calls Tryd.prog 47 #[.pointer (some ⟨B, 0, none⟩)] w fun e w' => ∃ (v : Value) (t : Tex), e = .returned v ∧ OwnTex w.heap.size w' v t ∧ t.Ok ∧ Cur hi w' B ∧ Gr B w w' := by
  have HC := hid hc
  have hB := hc.lt
  clear hc
  go_enter Tryd.func47, Tryd.ntmps47
  go_wp2_with fail
  refine (l01Below_any hi B 4 _ (HC.out.ext (by repeat (with_reducible (first | assumption | exact Ext.refl _ | apply Ext.alloc | apply Ext.drew | apply Ext.drewN)))) (by decide) ⟨by decide, by decide⟩).mono ?_
  rintro e w1 ⟨L, rfl, ⟨L0, L1⟩, C1, G1⟩
  have hL4 : L ≤ 4 := by omega
  obtain ⟨m, hm⟩ : ∃ m : Nat, 2 ^ L.toNat = m := ⟨_, rfl⟩
  have hm16 : m ≤ 8 := by
    have : L = 0 ∨ L = 1 ∨ L = 2 ∨ L = 3 := by omega
    rcases this with h | h | h | h <;> subst h <;> simp at hm <;> omega
  have hm1 : 1 ≤ m := hm ▸ Nat.one_le_two_pow
  obtain ⟨P, hP⟩ : ∃ P : Nat, m * m = P := ⟨_, rfl⟩
  have hP64 : P ≤ 64 := by rw [← hP]; exact Nat.mul_le_mul hm16 hm16
  have hP1 : 1 ≤ P := by rw [← hP]; exact Nat.mul_le_mul hm1 hm1
  have hmm : wrap64 ((m : Int) * (m : Int)) = (P : Int) := by rw [← Int.natCast_mul, hP]; exact I64.wrap ⟨by omega, by omega⟩
  have S0 : TSt hi B (w.alloc (.cells #[.int .i64 0, .slice none 0 0] 42)) (w1.alloc (.cells #[.int .i64 L, .slice none 0 0] 42)) w1.heap.size L (.slice none 0 0) [] :=
    ⟨G1.ext (by repeat (with_reducible (first | assumption | exact Ext.refl _ | apply Ext.alloc | apply Ext.drew | apply Ext.drewN))), G1.size, C1.ext (by repeat (with_reducible (first | assumption | exact Ext.refl _ | apply Ext.alloc | apply Ext.drew | apply Ext.drewN))), Blk.new w1 _ [.int .i64 L, .slice none 0 0], OwnInts.nil _ _, fun p h => by cases h⟩
  have hsz := hid (fun w => hm ▸ l15Size_tex (t := ⟨L, []⟩) L0 hL4 w : ∀ w, Calls Tryd.prog 71 #[.int .i64 L] w fun e w' => e = .returned (.int .i64 (m : Nat)) ∧ w = w')
  replace S0 := hid S0
  replace hm := hid hm
  replace hP := hid hP
  have c0 := S0.out.box.cell 0 rfl
  have z0 := S0.out.box.lt
  clear C1 G1 hm16 hm1
  go_wp2
  go_quiet ((go_at_call 71; exact quiet_same (hsz.out _)))
  go_wp2
  rw [hmm]
  clear c0 z0 hmm
  go_loopg [4] P (fun k p wr => ∃ (v : Value) (px : List Int), p = .int .i64 k ∧ px.length + k = P ∧ TSt hi B (w.alloc (.cells #[.int .i64 0, .slice none 0 0] 42)) wr w1.heap.size L v px)
  case atStart => exact ⟨_, [], rfl, by simp, S0.out.to (by repeat (with_reducible (first | assumption | exact Ext.refl _ | apply Ext.alloc | apply Ext.drew | apply Ext.drewN)))⟩
  case round =>
    obtain ⟨v, px, rfl, hk, hst⟩ := hrel
    obtain ⟨av, cv, ev, -⟩ := hst.own.form
    obtain ⟨n, hn⟩ : ∃ n, px.length = n := ⟨_, rfl⟩
    rw [hn] at ev hk
    subst ev
    have b1 := hst.box.cell 1 rfl
    have z0 := hst.box.lt
    have HN := hid hn
    have HST := hid hst
    have hgB : w1.heap.size ≠ B := by have := hst.low; simp at this; omega
    clear hst hn
    by_cases hlt : 0 < gk
    · go_wp2
      refine wp_region_stagesX [([0, 1, 2, 3], 4), ([], 5), ([], 6), ([], 7), ([], 8), ([9], 10)] 10 (w1.heap.size + 1) B (by kernel_rfl) (by kernel_rfl) ?_
      refine wpStagesX_cons ?_
      simp only [List.filterMap_cons, List.filterMap_nil, List.getElem?_toArray, List.getElem?_cons_zero, List.getElem?_cons_succ]
      show wpQuiet _ _ _ _ [_, _, _, _] _
      repeat (go_big_quiet_step (fail))
      refine wpQuiet_nil ⟨_, rfl, fun K hK => ?_⟩
      go_wp2_with fail
      refine (l01Below_any hi B 257 _ (HST.out.cur.ext (by repeat (with_reducible (first | assumption | exact Ext.refl _ | apply Ext.alloc | apply Ext.drew | apply Ext.drewN)))) (by decide) ⟨by decide, by decide⟩).mono ?_
      rintro e w3 ⟨p, rfl, ⟨p0, p1⟩, C3, G3⟩
      have G3' : Gr B wr w3 := ((Gr.refl B wr).ext (by repeat (with_reducible (first | assumption | exact Ext.refl _ | apply Ext.alloc | apply Ext.drew | apply Ext.drewN)))).trans G3
      go_wp2_with fail
      refine hK _ _ (.inr (SameX.gr G3' (by omega))) ?_
      clear hK K
      refine wpStagesX_cons ?_
      simp only [List.filterMap_nil]
      show wpQuiet _ _ _ _ [] _
      try simp only [Act.put, List.getElem_toArray, List.getElem_cons_succ, List.getElem_cons_zero, List.setIfInBounds_toArray, List.set_cons_succ, List.set_cons_zero]
      refine wpQuiet_nil ⟨_, rfl, fun K hK => ?_⟩
      go_wp2_with fail
      have y4 : Ext w3 (w3.alloc (.cells #[.int .i64 0, .int .i64 256, .int .i64 p] 3)) := (by repeat (with_reducible (first | assumption | exact Ext.refl _ | apply Ext.alloc | apply Ext.drew | apply Ext.drewN)))
      have G4 := G3'.ext y4
      have C4 := C3.ext y4
      have B4 := Blk.new w3 3 ([0, 256, p].map (Value.int .i64))
      have z3 := G3'.size
      refine hK _ _ (.inr (SameX.gr G4 (by omega))) ?_
      clear hK K
      refine wpStagesX_cons ?_
      simp only [List.filterMap_nil]
      show wpQuiet _ _ _ _ [] _
      try simp only [Act.put, List.getElem_toArray, List.getElem_cons_succ, List.getElem_cons_zero, List.setIfInBounds_toArray, List.set_cons_succ, List.set_cons_zero]
      refine wpQuiet_nil ⟨_, rfl, fun K hK => ?_⟩
      go_wp2_with fail
      refine (l01Pick_any hi B _ 3 [0, 256, p] _ C4 B4 (by have := HST.out.low; simp at this; omega) rfl (by decide) (by decide)).mono ?_
      rintro e w5 ⟨q, rfl, hq, C5, G5⟩
      have hq256 : 0 ≤ q ∧ q ≤ 256 := by
        simp only [List.mem_cons, List.not_mem_nil, or_false] at hq
        rcases hq with rfl | rfl | rfl <;> omega
      have G5' := G4.trans G5
      go_wp2_with fail
      refine hK _ _ (.inr (SameX.gr G5' (by omega))) ?_
      clear hK K hq
      refine wpStagesX_cons ?_
      simp only [List.filterMap_nil]
      show wpQuiet _ _ _ _ [] _
      try simp only [Act.put, List.getElem_toArray, List.getElem_cons_succ, List.getElem_cons_zero, List.setIfInBounds_toArray, List.set_cons_succ, List.set_cons_zero]
      refine wpQuiet_nil ⟨_, rfl, fun K hK => ?_⟩
      go_wp2_with fail
      have y6 : Ext w5 (w5.alloc (.cells #[.int .i64 q] 3)) := (by repeat (with_reducible (first | assumption | exact Ext.refl _ | apply Ext.alloc | apply Ext.drew | apply Ext.drewN)))
      have z5 := G5'.size
      refine hK _ _ (.inr (SameX.gr (G5'.ext y6) (by omega))) ?_
      clear hK K
      refine wpStagesX_cons ?_
      simp only [List.filterMap_nil]
      show wpQuiet _ _ _ _ [] _
      try simp only [Act.put, List.getElem_toArray, List.getElem_cons_succ, List.getElem_cons_zero, List.setIfInBounds_toArray, List.set_cons_succ, List.set_cons_zero]
      refine wpQuiet_nil ⟨_, rfl, fun K hK => ?_⟩
      have hlow := HST.out.low
      rw [World.size_alloc] at hlow
      have own5 : OwnInts (w1.heap.size + 1) w5 (.slice av n cv) px := HST.out.own.kept (fun b hb hb' => G5'.block b hb' (fun e => by simp only [Option.some.injEq] at e; omega))
      refine wpList_append1 _ rfl _ _ rfl (w1.heap.size + 1) (.slice av n cv) px rfl (own5.alloc _) q ⟨by omega, by omega⟩ w5.heap.size rfl (by simp [go_sem]) (by rw [HN.out]; omega) (by simp; omega) ?_
      intro v' w6 hown hg
      obtain ⟨a4, c4, e4, -⟩ := hown.form
      rw [show (px ++ [q]).length = n + 1 by rw [List.length_append, HN.out]; rfl] at e4
      subst e4
      have hz4 := hg.size
      rw [World.size_alloc] at hz4
      have hv3 : ∀ k, (Value.slice av n cv).ownBlock = some k → w1.heap.size + 1 ≤ k := fun k hk => (own5.lt k hk).1
      have hkeep : ∀ b, b < w1.heap.size + 1 → w6.heap[b]? = w5.heap[b]? := fun b hb => (hg.block b (by simp; omega) (fun e => by have := hv3 b e.symm; omega)).trans (y6.block (by omega))
      have X6 : SameX (w1.heap.size + 1) B wr w6 := (SameX.gr G5' (by omega)).trans (SameX.of (fun b _ hb => hkeep b hb))
      have B6 := (G5'.blk HST.out.box hgB).of (hkeep _ (by omega))
      have HC6 := hid (C5.keep (fun b hb => hkeep b (by omega)) : Cur hi w6 B)
      have HG6 := hid (((HST.out.gr.trans G5').ext y6).step hg (fun k hk => by have := hv3 k hk; simp; omega) : Gr B (w.alloc (.cells #[.int .i64 0, .slice none 0 0] 42)) w6)
      have HO6 := hid hown
      have c2' := B6.cell 1 rfl
      have f2' := B6.free 1
      have z4 := B6.lt
      have HB6 := hid B6
      clear hg hown own5 B6 hv3 hkeep C3 G3 G3' C4 G4 B4 y4 C5 G5 G5' y6
      go_wp2_with fail
      refine hK _ _ (.inr X6) ?_
      clear hK K X6
      refine wpStagesX_cons ?_
      simp only [List.filterMap_cons, List.filterMap_nil, List.getElem?_toArray, List.getElem?_cons_zero, List.getElem?_cons_succ]
      show wpQuiet _ _ _ _ [_] _
      try simp only [Act.put, List.getElem_toArray, List.getElem_cons_succ, List.getElem_cons_zero, List.setIfInBounds_toArray, List.set_cons_succ, List.set_cons_zero]
      repeat (go_big_quiet_step (fail))
      refine wpQuiet_nil ⟨_, rfl, fun K hK => ?_⟩
      go_wp2
      refine hK _ _ (.inl (by trivial)) (wpStagesX_nil ?_)
      clear hK K
      go_wp2
      go_roundg (gk - 1)
      case measure => omega
      case rel =>
        refine ⟨_, px ++ [q], by go_num, by rw [List.length_append, HN.out]; simp; omega, ⟨HG6.out.setNew (by simp; omega) _ _, HST.out.low, HC6.out.setNew (by omega) _ _, HB6.out.set 1 _, HO6.out.setLow (by simp) _, ?_⟩⟩
        intro y hy
        rcases List.mem_append.1 hy with h | h
        · exact HST.out.all y h
        · simp at h; subst h; exact hq256
    · have hst := HST.out
      have R0 := hst.gr.blk (Blk.new w 42 [.int .i64 0, .slice none 0 0]) (by omega)
      have r0 := R0.cell 0 rfl
      have r1 := R0.cell 1 rfl
      have f0 := R0.free 0
      have f1 := R0.free 1
      have zr := R0.lt
      have b0 := hst.box.cell 0 rfl
      have hgl := hst.low
      rw [World.size_alloc] at hgl
      have iL : I64 L := ⟨by omega, by omega⟩
      obtain rfl : n = px.length := HN.out.symm
      have hgk : gk = 0 := by omega
      have HK := hid hgk
      have HPx := hid (by omega : px.length = P)
      clear hst hgk hk
      go_wp2
      refine bodyPost_ret (v := .agg #[.int .i64 L, .slice av px.length cv]) (by simp [results, Tryd.results47, go_sem, *]) rfl ⟨_, rfl, ⟨L, px⟩, ⟨_, rfl, iL, ?_⟩, ⟨L0, hL4, ?_, HST.out.all⟩, ?_, ?_⟩
      · exact ((HST.out.own.setLow (by simp; omega) _).setLow (by simp; omega) _).low (by omega)
      · show px.length = 2 ^ L.toNat * 2 ^ L.toNat
        rw [hm.out, hP.out, HPx.out]
      · exact (HST.out.cur.setNew (by omega) _ _).setNew (by omega) _ _
      · exact ((((Gr.refl B w).ext (show Ext w (w.alloc (.cells #[.int .i64 0, .slice none 0 0] 42)) from (by repeat (with_reducible (first | assumption | exact Ext.refl _ | apply Ext.alloc | apply Ext.drew | apply Ext.drewN))))).trans HST.out.gr).setNew (Nat.le_refl _) _ _).setNew (Nat.le_refl _) _ _

set_option maxHeartbeats 800000 in
theorem MakeTexture_any (hi : Nat) (v : Value) (n : Nat) (w : World) (hv : Byts hi w v n) (hh : hi ≤ w.heap.size) (hn : n ≤ 1048576) :
    Calls Tryd.prog 18 #[v] w fun e w' => ∃ (v : Value) (t : Tex), e = .returned v ∧ OwnTex w.heap.size w' v t ∧ t.Ok ∧ Ext w w' := by
  have HV := hid hv
  obtain ⟨a, cap, rfl, k1, k2⟩ := hv.open
  clear hv
  go_enter Tryd.func18, Tryd.ntmps18
  go_wp2_with fail
  refine (l01New_any hi _ n _ (HV.out.ext hh (by repeat (with_reducible (first | assumption | exact Ext.refl _ | apply Ext.alloc | apply Ext.drew | apply Ext.drewN)))) (by simp; omega) hn).mono ?_
  rintro e w1 ⟨B, rfl, hB, C1, x1⟩
  go_wp2_with fail
  refine (l15Draw_any hi B _ C1).mono ?_
  rintro e w2 ⟨v2, t, rfl, O2, hok, C2, G2⟩
  obtain ⟨u, rfl, hlog, o2⟩ := O2
  obtain ⟨a2, c2, rfl, -⟩ := o2.form
  obtain ⟨m, hm⟩ : ∃ m, t.px.length = m := ⟨_, rfl⟩
  rw [World.size_alloc] at hB
  have x1' : Ext w w1 := Ext.trans (by repeat (with_reducible (first | assumption | exact Ext.refl _ | apply Ext.alloc | apply Ext.drew | apply Ext.drewN))) x1
  have R0 := G2.blk ((Blk.new w 42 [.int .i64 0, .slice none 0 0]).ext x1) (by omega)
  have r0 := R0.cell 0 rfl
  have r1 := R0.cell 1 rfl
  have f0 := R0.free 0
  have f1 := R0.free 1
  have z1 := R0.lt
  have zz := x1.size
  rw [World.size_alloc] at zz
  clear hm
  go_wp2
  refine bodyPost_ret (v := .agg #[.int .i64 t.log, .slice a2 t.px.length c2]) (by simp [results, Tryd.results18, go_sem, *]) rfl ⟨_, t, rfl, ⟨_, rfl, hlog, ?_⟩, hok, ?_⟩
  · exact ((o2.setLow (by simp; omega) _).setLow (by simp; omega) _).low (by omega)
  · exact ((G2.up x1' (by omega)).setCell (Nat.le_refl _) _).setCell (Nat.le_refl _) _
end Go.Proofs.YtodblnccgpiigaaDoor
