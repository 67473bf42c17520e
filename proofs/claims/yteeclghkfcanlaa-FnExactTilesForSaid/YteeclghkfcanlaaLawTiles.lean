/- This text walks the law FnExactTilesFor. -/
import Derived.Test.YteeclghkfcanlaaLawKit
import Derived.Test.YteeclghkfcanlaaL16c
import Derived.Test.YteeclghkfcanlaaTileS3
namespace Go.Proofs.Yteeclghkfcanlaa
open Go.RowKit

theorem tilesR_n (t : Tex) (u v l : Int) : (t.tilesR u v l).n ≤ 4 := by
  unfold Tex.tilesR
  split
  · exact tilesTo_n _ _ _ _ 4
  · exact Nat.zero_le _
theorem markTileS_in {r : Int} (lo M : Nat) (u : Value) (s : TL) (w : World) (hr : 1 + ((s.n * 3 : Nat) : Int) = r) (hv : s.Own lo w u) (hM : ∀ k, u.ownBlock = some k → k < M) (hlo : lo ≤ w.heap.size) (hn : s.n ≤ 4) :
    Calls Try.prog 35 #[u, .int .i64 1] w fun e w' => e = .returned (.int .i64 r) ∧ (s.mark 1 (s.n * 3)).Own lo w' u ∧ Part lo M w w' := by
  refine (markTileS_any lo u s 1 w hv ⟨by decide, by omega⟩).mono ?_
  rintro e w' ⟨rfl, h1, hg⟩
  have hlt := hv.lt
  refine ⟨by rw [hr], h1, hg.size, ⟨hg.os, hg.tape, hg.output, hg.size, fun k hk => ?_⟩, fun b hb hlt' => hg.block b hlt' (fun hk => by have := hM _ hk.symm; omega)⟩
  exact hg.block k (by omega) (fun e => by have := (hlt k e.symm).1; omega)
theorem heldTileS_val {r : Int} (lo hi : Nat) (u : Value) (s : TL) (w : World) (hr : 1 + ((s.n * 3 : Nat) : Int) = r) (hu : (s.mark 1 (s.n * 3)).R lo hi w u) (hn : s.n ≤ 4) :
    Calls Try.prog 36 #[u, .int .i64 1] w fun e w' => e = .returned (.int .i64 r) ∧ Ext w w' := hr ▸ heldTileS_mark lo hi u s 1 w hu ⟨by decide, by omega⟩
theorem TL.R.same {s : TL} {lo hi : Nat} {w w' : World} {v : Value} (h : s.R lo hi w v) (k : Same lo hi w w') : s.R lo hi w' v := Flats.same h k
theorem TL.R.ext {s : TL} {lo hi : Nat} {w w' : World} {v : Value} (h : s.R lo hi w v) (hh : hi ≤ w.heap.size) (e : Ext w w') : s.R lo hi w' v := Flats.ext h hh e

set_option maxRecDepth 10000 in
set_option maxHeartbeats 4000000 in
theorem lawTiles (v : Value) (t : Tex) (ua va l : Int) (W : World) (hv : TexR 0 W.heap.size W v t) (_hu : I64 ua) (_hw : I64 va) (_hl : I64 l) :
    Calls Try.prog 6 #[v, .int .i64 ua, .int .i64 va, .int .i64 l] W fun e w' => e = .returned (.bool true) ∧ Ext W w' := by
  obtain ⟨u, rfl, hlog⟩ := hv.shape
  have HV := hid hv
  clear hv
  have hn := tilesR_n t ua va l
  have HS := fun (lo hi : Nat) (v : Value) (w : World) (hv : TexR lo hi w v t) (hh : hi ≤ w.heap.size) => sTilesFor_any lo hi v t ua va l w hv hh
  have HI := fun (lo hi : Nat) (v : Value) (w : World) (hv : TexR lo hi w v t) (hh : hi ≤ w.heap.size) => iTilesFor_any lo hi v t ua va l w hv hh
  obtain ⟨s, hs0⟩ : ∃ s, t.tilesR ua va l = s := ⟨_, rfl⟩
  rw [hs0] at hn
  simp only [hs0] at HS HI
  obtain ⟨r, hr⟩ : ∃ r : Int, 1 + ((s.n * 3 : Nat) : Int) = r := ⟨_, rfl⟩
  have hr0 : 1 ≤ r := by omega
  have hr1 : r ≤ 100 := by omega
  have HR := hid hr
  have HS := hid HS
  have HI := hid HI
  clear hs0 hr
  by_cases hlen : t.px.length ≤ 1048576
  · have hs := hid (show szRes 1048576 t.px.length = 1048576 - t.px.length by unfold szRes; rw [if_neg (by omega)])
    go_enter Try.func6, Try.ntmps6
    go_wp2_with fail
    refine (szTexture_val hs.out 0 W.heap.size _ _ (HV.out.ext (Nat.le_refl _) (by repeat (with_reducible (first | assumption | exact Ext.refl _ | apply Ext.alloc | apply Ext.drew | apply Ext.drewN)))) (by simp) (by decide) (by decide)).mono ?_
    rintro e w1 ⟨rfl, x1⟩
    have P1 := (TBox.made W (.int .i64 t.log) u _).ext x1
    have E1 : Ext W w1 := Ext.trans (by repeat (with_reducible (first | assumption | exact Ext.refl _ | apply Ext.alloc | apply Ext.drew | apply Ext.drewN))) x1
    have p0 := P1.lt
    have p1 := P1.c0
    have p2 := P1.c1
    go_wp2_with fail
    refine (toTexture_any 0 W.heap.size _ t _ (HV.out.ext (Nat.le_refl _) E1) E1.size hlen).mono ?_
    rintro e w2 ⟨v2, rfl, O2, x2⟩
    go_wp2_with fail
    refine (HS.out _ _ _ _ O2.tex (Nat.le_refl _)).mono ?_
    rintro e w3 ⟨v3, rfl, O3, x3⟩
    have P3 := (P1.ext x2).ext x3
    have E3 := (E1.trans x2).trans x3
    have z3 := E3.size
    have lt1 := P1.lt
    have z2 := (x2.trans x3).size
    obtain ⟨a3, c3, rfl, _⟩ := O3.form
    have R3 := O3.R
    clear p0 p1 p2 P1 O2 O3
    have p0 := P3.lt
    have p1 := P3.c0
    have p2 := P3.c1
    go_wp2_with fail
    refine (toTexture_any 0 W.heap.size _ t _ (HV.out.ext (Nat.le_refl _) E3) E3.size hlen).mono ?_
    rintro e w4 ⟨v4, rfl, O4, x4⟩
    have P4 := P3.ext x4
    have R4 := R3.ext (Nat.le_refl _) x4
    have E4 := E3.trans x4
    have z4 := x4.size
    obtain ⟨a4, c4, rfl, _⟩ := O4.form
    clear p0 p1 p2 P3 R3
    have p0 := P4.lt
    have p1 := P4.c0
    have p2 := P4.c1
    go_wp2_with fail
    refine (HI.out _ _ _ _ (O4.tex.ext (Nat.le_refl _) (by repeat (with_reducible (first | assumption | exact Ext.refl _ | apply Ext.alloc | apply Ext.drew | apply Ext.drewN)))) (by simp)).mono ?_
    rintro e w5 ⟨v5, rfl, O5, x5⟩
    have y5 : Ext w4 w5 := Ext.trans (by repeat (with_reducible (first | assumption | exact Ext.refl _ | apply Ext.alloc | apply Ext.drew | apply Ext.drewN))) x5
    have P5 := P4.ext y5
    have S5 := (TBox.made w4 (.int .i64 t.log) (.slice a4 t.px.length c4) _).ext x5
    have R5 := R4.ext (by omega) y5
    have O45 := O4.ext y5
    have E5 := E4.trans y5
    have z5 := x5.size
    simp only [World.size_alloc] at z5
    obtain ⟨a5, c5, rfl, _⟩ := O5.form
    clear p0 p1 p2 P4 R4
    have p0 := P5.lt
    have p1 := P5.c0
    have p2 := P5.c1
    have s0 := S5.lt
    have s1 := S5.c0
    have s2 := S5.c1
    go_wp2_with fail
    refine (eqTileS_same _ _ _ _ _ _ s _ O5.R R5 (Nat.le_refl _) (by omega)).mono ?_
    rintro e w6 ⟨rfl, x6⟩
    have P6 := P5.ext x6
    have S6 := S5.ext x6
    have R6 := R5.ext (by omega) x6
    have O46 := O45.ext x6
    have O56 := O5.ext x6
    have E6 := E5.trans x6
    have z6 := x6.size
    clear p0 p1 p2 s0 s1 s2 P5 S5 R5 O45
    have p0 := P6.lt
    have p1 := P6.c0
    have p2 := P6.c1
    have s0 := S6.lt
    have s1 := S6.c0
    have s2 := S6.c1
    go_wp2_with fail
    refine wp_region_stages [([0, 1], 2), ([], 3), ([], 4)] 99 w6.heap.size (by kernel_rfl) (by kernel_rfl) ?_
    refine wpStages_cons ?_
    simp only [List.filterMap_cons, List.filterMap_nil, List.getElem?_toArray, List.getElem?_cons_zero, List.getElem?_cons_succ]
    show wpQuiet _ _ _ _ [_, _] _
    repeat (go_big_quiet_step (fail))
    refine wpQuiet_nil ⟨_, rfl, fun K hK => ?_⟩
    go_wp2_with fail
    refine (toTexture_any 0 W.heap.size _ t _ (HV.out.ext (Nat.le_refl _) (by repeat (with_reducible (first | assumption | exact Ext.refl _ | apply Ext.alloc | apply Ext.drew | apply Ext.drewN)))) (by have := E6.size; simp; omega) hlen).mono ?_
    rintro e w7 ⟨v7, rfl, O7, x7⟩
    have y7 : Ext w6 w7 := Ext.trans (by repeat (with_reducible (first | assumption | exact Ext.refl _ | apply Ext.alloc | apply Ext.drew | apply Ext.drewN))) x7
    go_wp2_with fail
    refine hK _ _ (.inr (y7.same (Nat.le_refl _))) ?_
    clear hK K
    refine wpStages_cons ?_
    simp only [List.filterMap_nil]
    show wpQuiet _ _ _ _ [] _
    try simp only [Act.put, List.getElem_toArray, List.getElem_cons_succ, List.getElem_cons_zero, List.setIfInBounds_toArray, List.set_cons_succ, List.set_cons_zero]
    refine wpQuiet_nil ⟨_, rfl, fun K hK => ?_⟩
    go_wp2_with fail
    refine (eqTexture_same _ _ _ _ _ _ t _ ((O46.ext y7).tex) (Nat.le_refl _) (O7.tex) (Nat.le_refl _)).mono ?_
    rintro e w8 ⟨rfl, x8⟩
    have y8 : Ext w6 w8 := y7.trans x8
    go_wp2_with fail
    refine hK _ _ (.inr (y8.same (Nat.le_refl _))) ?_
    clear hK K
    refine wpStages_cons ?_
    simp only [List.filterMap_nil]
    show wpQuiet _ _ _ _ [] _
    try simp only [Act.put, List.getElem_toArray, List.getElem_cons_succ, List.getElem_cons_zero, List.setIfInBounds_toArray, List.set_cons_succ, List.set_cons_zero]
    refine wpQuiet_nil ⟨_, rfl, fun K hK => ?_⟩
    go_wp2_with fail
    refine hK _ _ (.inr (y8.same (Nat.le_refl _))) ?_
    clear hK K
    refine wpStages_nil ?_
    have P8 := P6.ext y8
    have S8 := S6.ext y8
    have R8 := R6.ext (by omega) y8
    have O48 := O46.ext y8
    have O58 := O56.ext y8
    have E8 := E6.trans y8
    have z8 := y8.size
    clear p0 p1 p2 s0 s1 s2 P6 S6 R6 O46 O56
    have p0 := P8.lt
    have p1 := P8.c0
    have p2 := P8.c1
    have s0 := S8.lt
    have s1 := S8.c0
    have s2 := S8.c1
    go_wp2_with fail
    refine (markTexture_in _ w4.heap.size _ t _ O48 O4.under (by omega) hlen).mono ?_
    rintro e w9 ⟨rfl, O9, p9⟩
    have z9 := p9.size
    have P9 := p9.box P8 (.inl (by omega))
    have R9 := R8.same (w' := w9) (fun b _ hb => p9.low.block b (by omega))
    have O59 := O58.kept (w' := w9) (fun b hb hb' => p9.high b (by simp at hb; omega) hb')
    have E9 := p9.ext E8 (by omega)
    clear p0 p1 p2 s0 s1 s2 P8 S8 R8 O48 O58 O9 p9
    have p0 := P9.lt
    have p1 := P9.c0
    have p2 := P9.c1
    go_wp2_with fail
    refine (eqTileS_same _ _ _ _ _ _ s _ O59.R R9 (Nat.le_refl _) (by omega)).mono ?_
    rintro e w10 ⟨rfl, x10⟩
    have P10 := P9.ext x10
    have R10 := R9.ext (by omega) x10
    have O10 := O59.ext x10
    have E10 := E9.trans x10
    have z10 := x10.size
    clear p0 p1 p2 P9 R9 O59
    have p0 := P10.lt
    have p1 := P10.c0
    have p2 := P10.c1
    go_wp2_with fail
    refine (markTileS_in _ w5.heap.size _ s _ HR.out O10 (fun k hk => (O5.lt k hk).2) (by simp; omega) hn).mono ?_
    rintro e w11 ⟨rfl, O11, p11⟩
    have z11 := p11.size
    have P11 := p11.box P10 (.inl (by simp; omega))
    have R11 := R10.same (w' := w11) (fun b _ hb => p11.low.block b (by simp; omega))
    have E11 := p11.ext E10 (by simp; omega)
    clear p0 p1 p2 P10 R10 O10 p11
    have p0 := P11.lt
    have p1 := P11.c0
    have p2 := P11.c1
    go_wp2_with fail
    refine (heldTileS_val _ _ _ s _ HR.out O11.R hn).mono ?_
    rintro e w12 ⟨rfl, x12⟩
    have P12 := P11.ext x12
    have R12 := R11.ext (by omega) x12
    have O12 := O11.ext x12
    have E12 := E11.trans x12
    have z12 := x12.size
    clear p0 p1 p2 P11 R11 O11
    have p0 := P12.lt
    have p1 := P12.c0
    have p2 := P12.c1
    go_wp2_with fail
    refine (toTexture_any 0 W.heap.size _ t _ (HV.out.ext (Nat.le_refl _) E12) E12.size hlen).mono ?_
    rintro e w13 ⟨v13, rfl, O13, x13⟩
    go_wp2_with fail
    refine (HI.out _ _ _ _ O13.tex (Nat.le_refl _)).mono ?_
    rintro e w14 ⟨v14, rfl, O14, x14⟩
    have y14 := x13.trans x14
    have R14 := R12.ext (by omega) y14
    have O54 := O12.ext y14
    have E14 := E12.trans y14
    have z14 := y14.size
    obtain ⟨a14, c14, rfl, _⟩ := O14.form
    clear p0 p1 p2 P12 R12 O12
    go_wp2_with fail
    refine (eqTileS_same _ _ _ _ _ _ s _ O14.R R14 (Nat.le_refl _) (by omega)).mono ?_
    rintro e w15 ⟨rfl, x15⟩
    have O55 := O54.ext x15
    have E15 := E14.trans x15
    clear R14 O54
    go_wp2_with fail
    refine (heldTileS_val _ _ _ s _ HR.out O55.R hn).mono ?_
    rintro e w16 ⟨rfl, x16⟩
    go_wp2_with fail
    go_ret
    exact ⟨rfl, E15.trans x16⟩
  · have hs := hid (show szRes 1048576 t.px.length = -1 by unfold szRes; rw [if_pos (by omega)])
    go_enter Try.func6, Try.ntmps6
    go_wp2_with fail
    refine (szTexture_val hs.out 0 W.heap.size _ _ (HV.out.ext (Nat.le_refl _) (by repeat (with_reducible (first | assumption | exact Ext.refl _ | apply Ext.alloc | apply Ext.drew | apply Ext.drewN)))) (by simp) (by decide) (by decide)).mono ?_
    rintro e w1 ⟨rfl, x1⟩
    have E1 : Ext W w1 := Ext.trans (by repeat (with_reducible (first | assumption | exact Ext.refl _ | apply Ext.alloc | apply Ext.drew | apply Ext.drewN))) x1
    go_wp2_with fail
    go_ret
    exact ⟨rfl, E1⟩
end Go.Proofs.Yteeclghkfcanlaa
