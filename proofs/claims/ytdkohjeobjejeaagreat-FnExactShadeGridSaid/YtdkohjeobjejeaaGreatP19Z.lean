/- Texts of this claim, one behind another: Sg4, Lw1, Sg5, LawShade, LiftTex, Leaf, LiftCod, P19. -/
import Derived.Test.YtdkohjeobjejeaaGreatP19Y2
import Derived.Test.YtdkohjeobjejeaaGreatEx2
import Derived.OpenShut
import Derived.ShutString
import Derived.ChangeOld
import Derived.Below
import Derived.Carry
import Derived.Lib.SmallJoins
import Derived.Test.YtdkohjeobjejeaaGreatFlat
import Derived.Deep.Slices
import Derived.Deep.Strs
import Derived.Test.YtdkohjeobjejeaaGreatRows
import Derived.ProofKit
section
/- This text proves the reference's ShadeGrid. -/
namespace Go.Proofs.YtdkohjeobjejeaaGreat
open Go.RowKit

theorem Ints.nil0 (hi : Nat) (w : World) : Ints 0 hi w (.slice none 0 0) [] := ⟨none, 0, rfl, Nat.le_refl _, by unfold maxLen; omega, fun i x h => by simp at h⟩
theorem shade_none' {w w' : World} (h : Ext w w') : ∃ r1 r2, Ending.returned (.tuple #[.slice none 0 0, .slice none 0 0, .bool false]) = .returned (.tuple #[r1, r2, .bool false]) ∧ Ints 0 w'.heap.size w' r1 [] ∧ Ints 0 w'.heap.size w' r2 [] ∧ Ext w w' :=
  ⟨_, _, rfl, Ints.nil0 _ _, Ints.nil0 _ _, h⟩
set_option maxRecDepth 20000 in
set_option maxHeartbeats 6400000 in
theorem sShadeGrid_any (lo hi lo' hi' : Nat) (v u : Value) (c : Cod) (g : Grd) (w : World) {X Y : List Int} {b : Bool} (hs : c.shade g = (X, Y, b)) (hv : c.R lo hi w v) (hh : hi ≤ w.heap.size) (hu : g.R lo' hi' w u) (hh' : hi' ≤ w.heap.size) (hL : c.small) :
    Calls Tryz.prog 18 #[v, u] w fun e w' => ∃ r1 r2, e = .returned (.tuple #[r1, r2, .bool b]) ∧ Ints 0 w'.heap.size w' r1 X ∧ Ints 0 w'.heap.size w' r2 Y ∧ Ext w w' := by
  obtain ⟨R, eR⟩ : ∃ R, (c.runB && g.okB) = R := ⟨_, rfl⟩
  obtain ⟨S, eS⟩ : ∃ S, c.res g = S := ⟨_, rfl⟩
  obtain ⟨i, ei⟩ : ∃ i, colorIx c.ls = i := ⟨_, rfl⟩
  obtain ⟨j, ej⟩ : ∃ j, alphaIx c.ls = j := ⟨_, rfl⟩
  have hn : R = true → g.m ≤ 64 := by
    intro h
    rw [h] at eR
    simp only [Bool.and_eq_true] at eR
    obtain ⟨n, hn, hm, hn1, hn8, -⟩ := g.parts eR.2
    have h6 : n * n ≤ 8 * 8 := Nat.mul_le_mul hn8 hn8
    omega
  have CS := hid (shade_cases hL hs eR eS ei ej)
  have HC := hid hv
  have HG := hid hu
  have ER := hid eR
  have ES := hid eS
  have EI := hid ei
  have EJ := hid ej
  have HL := hid hL
  have HN := hid hn
  have hl : c.ls.length ≤ 1048576 := hL.2
  obtain ⟨iu, lu, rfl, -, hlu⟩ := hv
  have HLU := hid hlu
  obtain ⟨pu, tu, rfl, -, -, -, hp, -⟩ := hu
  obtain ⟨pa, pc, rfl, HP⟩ := hp.open
  have p1 := HP.le
  have p2 := HP.cap
  clear hs eR eS ei ej hn hlu hL hp HP
  go_enter Tryz.func18, Tryz.ntmps18
  go_wp2_with fail
  refine (sRunGrid_one lo hi lo' hi' _ _ c g _ ER.out ES.out (HC.out.ext hh (by repeat (with_reducible (first | assumption | exact Ext.refl _ | apply Ext.alloc | apply Ext.drew | apply Ext.drewN)))) (by simp; omega) (HG.out.ext hh' (by repeat (with_reducible (first | assumption | exact Ext.refl _ | apply Ext.alloc | apply Ext.drew | apply Ext.drewN)))) (by simp; omega) HL.out).mono ?_
  rintro e w1 ⟨r, rfl, O1, x1⟩
  have BP := hid (((Bx.made w #[iu, lu] _).ext ((Ext.refl _).alloc _)).ext x1)
  have BQ := hid ((Bx.madeAt (B := w.heap.size + 1) (w.alloc _) #[.int .i64 g.n, .slice pa g.m pc, .int .i64 g.tm, .int .i64 g.t.log, tu] _ (by simp)).ext x1)
  have E : Ext w w1 := Ext.trans (by repeat (with_reducible (first | assumption | exact Ext.refl _ | apply Ext.alloc | apply Ext.drew | apply Ext.drewN))) x1
  have z1 := E.size
  obtain ⟨ra, rc, rfl, hat⟩ := O1.open
  have r1 := hat.le
  have r2 := hat.cap
  have HA := hid hat
  clear x1 O1 hat
  have p := BP.out.lt
  have p0 := BP.out.cell 0
  simp only [List.getElem?_toArray, List.getElem?_cons_zero, List.getElem?_cons_succ] at p0
  have p1 := BP.out.cell 1
  simp only [List.getElem?_toArray, List.getElem?_cons_zero, List.getElem?_cons_succ] at p1
  have q := BQ.out.lt
  have q0 := BQ.out.cell 0
  simp only [List.getElem?_toArray, List.getElem?_cons_zero, List.getElem?_cons_succ] at q0
  have q1 := BQ.out.cell 1
  simp only [List.getElem?_toArray, List.getElem?_cons_zero, List.getElem?_cons_succ] at q1
  have q2 := BQ.out.cell 2
  simp only [List.getElem?_toArray, List.getElem?_cons_zero, List.getElem?_cons_succ] at q2
  have q3 := BQ.out.cell 3
  simp only [List.getElem?_toArray, List.getElem?_cons_zero, List.getElem?_cons_succ] at q3
  have q4 := BQ.out.cell 4
  simp only [List.getElem?_toArray, List.getElem?_cons_zero, List.getElem?_cons_succ] at q4
  go_wp2_with fail
  refine (sLocal_val EI.out lo hi _ _ (HLU.out.ext hh E) (by omega)).mono ?_
  rintro e wx ⟨rfl, rfl⟩
  go_wp2_with fail
  refine (sLocal_val EJ.out lo hi _ _ (HLU.out.ext hh E) (by omega)).mono ?_
  rintro e wx ⟨rfl, rfl⟩
  rcases CS.out.all with ⟨rfl, rfl, rfl, rfl⟩ | ⟨rfl, rfl, rfl, rfl, rfl⟩ | ⟨rfl, k, rfl, hk, sk, rfl, rfl, rfl⟩ | ⟨rfl, k, a, rfl, hk, sk, ha, la, hrest⟩
  · go_wp2
    refine bodyPost_ret (v := .tuple #[.slice none 0 0, .slice none 0 0, .bool false]) (by simp [results, Tryz.results18, go_sem]) rfl (shade_none' E)
  · go_wp2
    refine bodyPost_ret (v := .tuple #[.slice none 0 0, .slice none 0 0, .bool false]) (by simp [results, Tryz.results18, go_sem]) rfl (shade_none' E)
  · have hkS : k < S.length := (List.getElem?_eq_some_iff.1 sk).1
    obtain ⟨rb, ro, ru, rfl, hb1, hb2, c0, i0⟩ := HA.out.cell k _ sk
    obtain ⟨ua, uc, rfl, -⟩ := i0.open
    clear sk i0
    go_wp2
    refine bodyPost_ret (v := .tuple #[.slice none 0 0, .slice none 0 0, .bool false]) (by simp [results, Tryz.results18, go_sem]) rfl (shade_none' E)
  have hkS : k < S.length := (List.getElem?_eq_some_iff.1 sk).1
  obtain ⟨rb, ro, ru, rfl, hb1, hb2, c0, i0⟩ := HA.out.cell k _ sk
  obtain ⟨ua, uc, rfl, hua⟩ := i0.open
  have I0 := hid i0
  have la0 : ((a.length : Int) == 0) = false := beq_eq_false_iff_ne.2 (fun e => ha (List.length_eq_zero_iff.1 (by omega)))
  have hm := HN.out rfl
  clear sk i0 ha hua
  rcases hrest with ⟨l, rfl, hl2, sl, rfl, rfl, rfl⟩ | ⟨rfl, rfl, rfl, rfl⟩ | ⟨l, q, rfl, hl2, sl, hq, lq, rfl, rfl, rfl⟩
  · have hlS : l < S.length := (List.getElem?_eq_some_iff.1 sl).1
    obtain ⟨rb', ro', ru', hrr, -, -, c1, i1⟩ := HA.out.cell l _ sl
    simp only [Option.some.injEq, Addr.mk.injEq, and_true] at hrr
    obtain ⟨rfl, rfl⟩ := hrr
    obtain ⟨ub, uc', rfl, -⟩ := i1.open
    clear sl i1
    go_wp2
    refine bodyPost_ret (v := .tuple #[.slice none 0 0, .slice none 0 0, .bool false]) (by simp [results, Tryz.results18, go_sem]) rfl (shade_none' E)
  · go_wp2
    go_loopw [11, 54] (fun v i wr => ∃ n : Nat, n ≤ g.m ∧ i = .int .i64 n ∧ OwnInts w1.heap.size wr v (List.replicate n 256) ∧ Ext w1 wr) (fun _ i _ => g.m - (intOf i).toNat)
    case atStart => exact ⟨0, by omega, rfl, OwnInts.lit0 w1, (by repeat (with_reducible (first | assumption | exact Ext.refl _ | apply Ext.alloc | apply Ext.drew | apply Ext.drewN)))⟩
    obtain ⟨n, hn, rfl, hown, hx⟩ := hrel
    obtain ⟨av, cv, rfl, hcv⟩ := hown.form
    have hlen : (List.replicate n (256 : Int)).length = n := by simp
    rw [hlen] at hown ⊢
    by_cases hlt : n < g.m
    · have HO := hid hown
      have HX := hid hx
      have HLn := hid hlen
      have zs := hx.size
      clear hown hx hlen
      go_wp2_with (at_builtin; refine wpList_append1 _ rfl _ _ rfl w1.heap.size _ _ rfl (HO.out.alloc _) 256 ⟨by omega, by omega⟩ wr.heap.size rfl (by simp [go_sem]) (by rw [HLn.out]; omega) (by simp; omega) ?_; intro v' w7 hown hg)
      rw [← List.replicate_succ'] at hown
      go_wp2
      go_roundw
      case rel => exact ⟨n + 1, by omega, by go_num, hown, Ext.grown (HX.out.alloc _) hg (fun g e => (HO.out.lt g e).1)⟩
      case measure => simp [intOf]; omega
    obtain rfl : n = g.m := by omega
    have HO := hid hown
    have zs := hx.size
    rw [← hx.cells.1 rb _ (by omega)] at c0
    have HX := hid hx
    clear hown hx
    go_wp2_with fail
    refine (sClamped_any 0 w1.heap.size _ a _ (I0.out.ext (Nat.le_refl _) HX.out) zs (by omega)).mono ?_
    rintro e w3 ⟨r1, rfl, o1, x1⟩
    go_wp2
    refine bodyPost_ret (v := .tuple #[r1, .slice av g.m cv, .bool true]) (by simp [results, Tryz.results18, go_sem]) rfl ⟨r1, _, rfl, o1.ints.wide (Nat.zero_le _) (Nat.le_refl _), ?_, E.trans (HX.out.trans x1)⟩
    exact (HO.out.ints.ext (Nat.le_refl _) x1).wide (Nat.zero_le _) x1.size
  · have hlS : l < S.length := (List.getElem?_eq_some_iff.1 sl).1
    obtain ⟨rb', ro', ru', hrr, -, -, c1, i1⟩ := HA.out.cell l _ sl
    simp only [Option.some.injEq, Addr.mk.injEq, and_true] at hrr
    obtain ⟨rfl, rfl⟩ := hrr
    obtain ⟨ub, uc', rfl, -⟩ := i1.open
    have I1 := hid i1
    have lq0 : ((q.length : Int) == 0) = false := beq_eq_false_iff_ne.2 (fun e => hq (List.length_eq_zero_iff.1 (by omega)))
    clear sl i1 hq
    go_wp2
    go_loopw [11, 54] (fun v i wr => ∃ n : Nat, n ≤ g.m ∧ i = .int .i64 n ∧ OwnInts w1.heap.size wr v (List.replicate n 256) ∧ Ext w1 wr) (fun _ i _ => g.m - (intOf i).toNat)
    case atStart => exact ⟨0, by omega, rfl, OwnInts.lit0 w1, (by repeat (with_reducible (first | assumption | exact Ext.refl _ | apply Ext.alloc | apply Ext.drew | apply Ext.drewN)))⟩
    obtain ⟨n, hn, rfl, hown, hx⟩ := hrel
    obtain ⟨av, cv, rfl, hcv⟩ := hown.form
    have hlen : (List.replicate n (256 : Int)).length = n := by simp
    rw [hlen] at hown ⊢
    by_cases hlt : n < g.m
    · have HO := hid hown
      have HX := hid hx
      have HLn := hid hlen
      have zs := hx.size
      clear hown hx hlen
      go_wp2_with (at_builtin; refine wpList_append1 _ rfl _ _ rfl w1.heap.size _ _ rfl (HO.out.alloc _) 256 ⟨by omega, by omega⟩ wr.heap.size rfl (by simp [go_sem]) (by rw [HLn.out]; omega) (by simp; omega) ?_; intro v' w7 hown hg)
      rw [← List.replicate_succ'] at hown
      go_wp2
      go_roundw
      case rel => exact ⟨n + 1, by omega, by go_num, hown, Ext.grown (HX.out.alloc _) hg (fun g e => (HO.out.lt g e).1)⟩
      case measure => simp [intOf]; omega
    obtain rfl : n = g.m := by omega
    have HO := hid hown
    have zs := hx.size
    rw [← hx.cells.1 rb _ (by omega)] at c0
    rw [← hx.cells.1 rb _ (by omega)] at c1
    have HX := hid hx
    clear hown hx
    go_wp2_with fail
    refine (sClamped_any 0 w1.heap.size _ q _ (I1.out.ext (Nat.le_refl _) HX.out) zs (by omega)).mono ?_
    rintro e w3 ⟨r2, rfl, o2, x2⟩
    have X3 : Ext w1 w3 := HX.out.trans x2
    rw [← x2.cells.1 rb _ (by omega)] at c0
    have z3 := x2.size
    have HX3 := hid X3
    have HX2 := hid x2
    clear c1 x2 X3
    go_wp2_with fail
    refine (sClamped_any 0 w1.heap.size _ a _ (I0.out.ext (Nat.le_refl _) HX3.out) (by omega) (by omega)).mono ?_
    rintro e w4 ⟨r1, rfl, o1, x1⟩
    go_wp2
    refine bodyPost_ret (v := .tuple #[r1, r2, .bool true]) (by simp [results, Tryz.results18, go_sem]) rfl ⟨r1, r2, rfl, o1.ints.wide (Nat.zero_le _) (Nat.le_refl _), ?_, E.trans (HX3.out.trans x1)⟩
    exact (o2.ints.ext (Nat.le_refl _) x1).wide (Nat.zero_le _) x1.size
end Go.Proofs.YtdkohjeobjejeaaGreat
end

section
/- This text holds the laws' helpers over rows of numbers and over the sizes of grids, in the forms that the printed walks of the laws want. -/
namespace Go.Proofs.YtdkohjeobjejeaaGreat
open Go.RowKit

theorem szGrid_one (lo hi : Nat) (v : Value) (g : Grd) (left : Int) (w : World) (hv : g.R lo hi w v) (hh : hi ≤ w.heap.size) (h1 : 0 ≤ left) (h2 : left ≤ 1048576) :
    Calls Tryz.prog 6 #[v, .int .i64 left] w fun e w' => (∃ r, e = .returned (.int .i64 r) ∧ (r = -1 ∨ (0 ≤ r ∧ r ≤ left ∧ g.small))) ∧ Ext w w' := by
  refine (szGrid_val rfl lo hi v w hv hh h1 h2).mono ?_
  rintro e w' ⟨rfl, x⟩
  refine ⟨⟨_, rfl, ?_⟩, x⟩
  by_cases h : g.sz left < 0
  · left
    unfold Grd.sz szRes at *
    by_cases h3 : left - (g.m : Int) < 0
    · simp only [if_pos h3] at h ⊢
      simp
    · simp only [if_neg h3] at h ⊢
      by_cases h4 : left - (g.m : Int) - (g.t.px.length : Int) < 0
      · rw [if_pos h4]
      · rw [if_neg h4] at h
        exact absurd h h4
  · have := Grd.sz_small h1 h2 h
    exact .inr ⟨this.2.2, this.2.1, this.1⟩
theorem markIntS_o (lo hi : Nat) (u : Value) (xs : List Int) (k0 : Int) (w : World) (hu : IntsO lo hi w u xs) (hl : lo ≤ w.heap.size) (h0 : 0 ≤ k0) (hsz : k0 + xs.length ≤ 1152921504606846976) :
    Calls Tryz.prog 21 #[u, .int .i64 k0] w fun e w' => e = .returned (.int .i64 (k0 + xs.length)) ∧ IntsO lo hi w' u (upFrom k0 xs.length) ∧ Part lo hi w w' := by
  refine (markIntS_any lo u xs k0 w hu.1 h0 hsz).mono ?_
  rintro e w' ⟨rfl, h1, h2⟩
  refine ⟨rfl, ⟨h1, hu.2⟩, ?_⟩
  exact Part.of h2 (fun k hk => ⟨(hu.1.lt k hk).1, hu.2 k hk⟩) hl
theorem heldIntS_up (lo hi : Nat) (u : Value) (n : Nat) (k0 : Int) (w : World) (hu : Ints lo hi w u (upFrom k0 n)) (h0 : 0 ≤ k0) (hsz : k0 + n ≤ 1152921504606846976) :
    Calls Tryz.prog 22 #[u, .int .i64 k0] w fun e w' => e = .returned (.int .i64 (k0 + n)) ∧ Ext w w' := by
  refine (heldIntS_any lo hi u _ k0 w hu h0 (by rw [upFrom_length]; exact hsz)).mono ?_
  rintro e w' ⟨rfl, rfl⟩
  refine ⟨?_, Ext.refl _⟩
  unfold heldRes
  rw [upFrom_length, if_pos rfl]
end Go.Proofs.YtdkohjeobjejeaaGreat
end

section
/- This text bounds the lengths of what ShadeGrid hands back. -/
namespace Go.Proofs.YtdkohjeobjejeaaGreat
open Go.RowKit

theorem Cod.shade_len {c : Cod} {g : Grd} {X Y : List Int} {b : Bool} (hL : c.small) (hs : c.shade g = (X, Y, b)) : X.length ≤ 64 ∧ Y.length ≤ 64 := by
  obtain ⟨R, eR⟩ : ∃ R, (c.runB && g.okB) = R := ⟨_, rfl⟩
  have h := (shade_cases hL hs eR rfl rfl rfl).all
  rcases h with ⟨_, rfl, rfl, _⟩ | ⟨_, _, rfl, rfl, _⟩ | ⟨_, k, _, _, _, rfl, rfl, _⟩ | ⟨rfl, k, r, _, _, _, _, hr, h⟩
  · simp
  · simp
  · simp
  · rcases h with ⟨l, _, _, _, rfl, rfl, _⟩ | ⟨_, rfl, rfl, _⟩ | ⟨l, q, _, _, _, _, hq, rfl, rfl, _⟩
    · simp
    · simp only [Bool.and_eq_true] at eR
      obtain ⟨n, hn, hm, hn1, hn8, -⟩ := g.parts eR.2
      have h6 : n * n ≤ 8 * 8 := Nat.mul_le_mul hn8 hn8
      simp
      omega
    · simp
      omega
end Go.Proofs.YtdkohjeobjejeaaGreat
end

section
/- This text proves that the law on ShadeGrid returns true, whatever its arguments (printed by gen_Law.py). -/
namespace Go.Proofs.YtdkohjeobjejeaaGreat
open Go.RowKit

set_option maxRecDepth 20000 in
set_option maxHeartbeats 6400000 in
theorem lawShade (vc : Value) (c : Cod) (vg : Value) (g : Grd) (W : World) (hc : c.R 0 W.heap.size W vc) (hbc : c.bd) (hg : g.R 0 W.heap.size W vg) :
    Calls Tryz.prog 4 #[vc, vg] W fun e w' => e = .returned (.bool true) ∧ Ext W w' := by
  obtain ⟨X, Y, b, hs⟩ : ∃ X Y b, c.shade g = (X, Y, b) := ⟨_, _, _, rfl⟩
  have HQ := hid hs
  have Hc := hid hc
  have HBc := hid hbc
  have Hg := hid hg
  obtain ⟨cu, cl, rfl, _⟩ := hc
  obtain ⟨gp, gt, rfl, _⟩ := hg
  clear hbc hs
  go_enter Tryz.func4, Tryz.ntmps4
  go_wp2_with fail
  refine (szCode_any 0 W.heap.size _ c 1048576 _ (Hc.out.ext (Nat.le_refl _) (by repeat (with_reducible (first | assumption | exact Ext.refl _ | apply Ext.alloc | apply Ext.drew | apply Ext.drewN)))) (by simp <;> omega) HBc.out (by decide) (by decide)).mono ?_
  rintro e w1 ⟨⟨rc, rfl, hrc⟩, x1⟩
  have BPc := hid (((Bx.made W #[cu, cl] _).ext ((Ext.refl _).alloc _)).ext x1)
  have BPg := hid ((Bx.madeAt (B := W.heap.size + 1) (W.alloc _) #[.int .i64 g.n, gp, .int .i64 g.tm, .int .i64 g.t.log, gt] _ (by simp)).ext x1)
  have E : Ext W w1 := Ext.trans (by repeat (with_reducible (first | assumption | exact Ext.refl _ | apply Ext.alloc | apply Ext.drew | apply Ext.drewN))) x1
  clear x1
  have pc := BPc.out.lt
  have pc0 := BPc.out.cell 0
  simp only [List.getElem?_toArray, List.getElem?_cons_zero, List.getElem?_cons_succ] at pc0
  have pc1 := BPc.out.cell 1
  simp only [List.getElem?_toArray, List.getElem?_cons_zero, List.getElem?_cons_succ] at pc1
  have pg := BPg.out.lt
  have pg0 := BPg.out.cell 0
  simp only [List.getElem?_toArray, List.getElem?_cons_zero, List.getElem?_cons_succ] at pg0
  have pg1 := BPg.out.cell 1
  simp only [List.getElem?_toArray, List.getElem?_cons_zero, List.getElem?_cons_succ] at pg1
  have pg2 := BPg.out.cell 2
  simp only [List.getElem?_toArray, List.getElem?_cons_zero, List.getElem?_cons_succ] at pg2
  have pg3 := BPg.out.cell 3
  simp only [List.getElem?_toArray, List.getElem?_cons_zero, List.getElem?_cons_succ] at pg3
  have pg4 := BPg.out.cell 4
  simp only [List.getElem?_toArray, List.getElem?_cons_zero, List.getElem?_cons_succ] at pg4
  rcases hrc with rfl | ⟨rac, rbc, hsc⟩
  · go_wp2_with fail
    go_ret
    exact ⟨rfl, E⟩
  have HSc := hid hsc
  clear hsc
  go_wp2_with fail
  refine (szGrid_one 0 W.heap.size _ g rc _ (Hg.out.ext (Nat.le_refl _) E) E.size (by omega) (by omega)).mono ?_
  rintro e w2 ⟨⟨rg, rfl, hrg⟩, x2⟩
  have z2 := x2.size
  replace BPc := hid (BPc.out.kp (x2.kp BPc.out.lt))
  replace BPg := hid (BPg.out.kp (x2.kp BPg.out.lt))
  replace E := E.trans x2
  clear x2 pc pc0 pc1 pg pg0 pg1 pg2 pg3 pg4
  have pc := BPc.out.lt
  have pc0 := BPc.out.cell 0
  simp only [List.getElem?_toArray, List.getElem?_cons_zero, List.getElem?_cons_succ] at pc0
  have pc1 := BPc.out.cell 1
  simp only [List.getElem?_toArray, List.getElem?_cons_zero, List.getElem?_cons_succ] at pc1
  have pg := BPg.out.lt
  have pg0 := BPg.out.cell 0
  simp only [List.getElem?_toArray, List.getElem?_cons_zero, List.getElem?_cons_succ] at pg0
  have pg1 := BPg.out.cell 1
  simp only [List.getElem?_toArray, List.getElem?_cons_zero, List.getElem?_cons_succ] at pg1
  have pg2 := BPg.out.cell 2
  simp only [List.getElem?_toArray, List.getElem?_cons_zero, List.getElem?_cons_succ] at pg2
  have pg3 := BPg.out.cell 3
  simp only [List.getElem?_toArray, List.getElem?_cons_zero, List.getElem?_cons_succ] at pg3
  have pg4 := BPg.out.cell 4
  simp only [List.getElem?_toArray, List.getElem?_cons_zero, List.getElem?_cons_succ] at pg4
  rcases hrg with rfl | ⟨rag, rbg, hsg⟩
  · go_wp2_with fail
    go_ret
    exact ⟨rfl, E⟩
  have HSg := hid hsg
  clear hsg
  have pW := BPg.out.lt
  have hXY := Cod.shade_len HSc.out HQ.out
  have hX := hXY.1
  have hY := hXY.2
  clear hXY
  go_wp2_with fail
  have zE := E.size
  refine wp_region_stages [([0, 2], 1), ([], 3), ([], 4), ([5, 6, 7, 8, 9, 10], 11)] 99 w2.heap.size (by kernel_rfl) (by kernel_rfl) ?_
  refine wpStages_cons ?_
  simp only [List.filterMap_cons, List.filterMap_nil, List.getElem?_toArray, List.getElem?_cons_zero, List.getElem?_cons_succ]
  show wpQuiet _ _ _ _ [_, _] _
  repeat (go_big_quiet_step (fail))
  refine wpQuiet_nil ⟨_, rfl, fun K hK => ?_⟩
  go_wp2_with fail
  refine (toCode_any 0 W.heap.size _ c w2.drew (Hc.out.ext (Nat.le_refl _) E.drew) zE HSc.out).mono ?_
  rintro e w3 ⟨v3, rfl, O3, x3⟩
  have y3 : Ext w2 w3 := Ext.trans (by repeat (with_reducible (first | assumption | exact Ext.refl _ | apply Ext.alloc | apply Ext.drew | apply Ext.drewN))) x3
  have z3 := y3.size
  go_wp2_with fail
  refine hK _ _ (.inr (y3.same (Nat.le_refl _))) ?_
  clear hK K
  refine wpStages_cons ?_
  simp only [List.filterMap_nil]
  show wpQuiet _ _ _ _ [] _
  try simp only [Act.put, List.setIfInBounds_toArray, List.set_cons_succ, List.set_cons_zero]
  repeat (go_big_quiet_step (fail))
  refine wpQuiet_nil ⟨_, rfl, fun K hK => ?_⟩
  go_wp2_with fail
  refine (toGrid_any 0 W.heap.size _ g _ (Hg.out.ext (Nat.le_refl _) (E.trans y3)) (by omega) HSg.out).mono ?_
  rintro e w4 ⟨v4, rfl, O4, x4⟩
  have y4 : Ext w2 w4 := y3.trans x4
  have z4 := x4.size
  go_wp2_with fail
  refine hK _ _ (.inr (y4.same (Nat.le_refl _))) ?_
  clear hK K
  refine wpStages_cons ?_
  simp only [List.filterMap_nil]
  show wpQuiet _ _ _ _ [] _
  try simp only [Act.put, List.setIfInBounds_toArray, List.set_cons_succ, List.set_cons_zero]
  repeat (go_big_quiet_step (fail))
  refine wpQuiet_nil ⟨_, rfl, fun K hK => ?_⟩
  go_wp2_with fail
  refine (sShadeGrid_any _ _ _ _ _ _ c g _ HQ.out (O3.kp (x4.kp (by first | exact Nat.le_refl _ | omega))).R (by omega) O4.R (Nat.le_refl _) HSc.out).mono ?_
  rintro e w5 ⟨s5, t5, rfl, S5, T5, x5⟩
  have y5 : Ext w2 w5 := y4.trans x5
  have z5 := x5.size
  go_wp2_with fail
  refine hK _ _ (.inr (y5.same (Nat.le_refl _))) ?_
  clear hK K
  refine wpStages_cons ?_
  simp only [List.filterMap_cons, List.filterMap_nil, List.getElem?_toArray, List.getElem?_cons_zero, List.getElem?_cons_succ]
  show wpQuiet _ _ _ _ [_, _, _, _, _, _] _
  try simp only [Act.put, List.setIfInBounds_toArray, List.set_cons_succ, List.set_cons_zero]
  repeat (go_big_quiet_step (fail))
  refine wpQuiet_nil ⟨_, rfl, fun K hK => ?_⟩
  go_wp2_with fail
  refine hK _ _ (.inr (y5.same (Nat.le_refl _))) ?_
  clear hK K
  refine wpStages_nil ?_
  replace BPc := hid (BPc.out.kp (y5.kp BPc.out.lt))
  replace BPg := hid (BPg.out.kp (y5.kp BPg.out.lt))
  replace E := E.trans y5
  have SP0 := hid S5
  have SP1 := hid T5
  clear x3 y3 x4 y4 x5 y5 O3 O4 S5 T5
  clear pc pc0 pc1 pg pg0 pg1 pg2 pg3 pg4
  have pc := BPc.out.lt
  have pc0 := BPc.out.cell 0
  simp only [List.getElem?_toArray, List.getElem?_cons_zero, List.getElem?_cons_succ] at pc0
  have pc1 := BPc.out.cell 1
  simp only [List.getElem?_toArray, List.getElem?_cons_zero, List.getElem?_cons_succ] at pc1
  have pg := BPg.out.lt
  have pg0 := BPg.out.cell 0
  simp only [List.getElem?_toArray, List.getElem?_cons_zero, List.getElem?_cons_succ] at pg0
  have pg1 := BPg.out.cell 1
  simp only [List.getElem?_toArray, List.getElem?_cons_zero, List.getElem?_cons_succ] at pg1
  have pg2 := BPg.out.cell 2
  simp only [List.getElem?_toArray, List.getElem?_cons_zero, List.getElem?_cons_succ] at pg2
  have pg3 := BPg.out.cell 3
  simp only [List.getElem?_toArray, List.getElem?_cons_zero, List.getElem?_cons_succ] at pg3
  have pg4 := BPg.out.cell 4
  simp only [List.getElem?_toArray, List.getElem?_cons_zero, List.getElem?_cons_succ] at pg4
  go_wp2_with fail
  have zE := E.size
  refine (toCode_any 0 W.heap.size _ c _ (Hc.out.ext (Nat.le_refl _) E) zE HSc.out).mono ?_
  rintro e w6 ⟨v6, rfl, O6, x6⟩
  have z6 := x6.size
  replace BPc := hid (BPc.out.kp (x6.kp BPc.out.lt))
  replace BPg := hid (BPg.out.kp (x6.kp BPg.out.lt))
  replace SP0 := hid (SP0.out.kp (x6.kp (by first | omega | (simp; omega))))
  replace SP1 := hid (SP1.out.kp (x6.kp (by first | omega | (simp; omega))))
  replace E := E.trans x6
  have OXc := hid O6
  obtain ⟨ccf, ccg, rfl⟩ := O6.form
  clear x6 O6 pc pc0 pc1 pg pg0 pg1 pg2 pg3 pg4
  have pc := BPc.out.lt
  have pc0 := BPc.out.cell 0
  simp only [List.getElem?_toArray, List.getElem?_cons_zero, List.getElem?_cons_succ] at pc0
  have pc1 := BPc.out.cell 1
  simp only [List.getElem?_toArray, List.getElem?_cons_zero, List.getElem?_cons_succ] at pc1
  have pg := BPg.out.lt
  have pg0 := BPg.out.cell 0
  simp only [List.getElem?_toArray, List.getElem?_cons_zero, List.getElem?_cons_succ] at pg0
  have pg1 := BPg.out.cell 1
  simp only [List.getElem?_toArray, List.getElem?_cons_zero, List.getElem?_cons_succ] at pg1
  have pg2 := BPg.out.cell 2
  simp only [List.getElem?_toArray, List.getElem?_cons_zero, List.getElem?_cons_succ] at pg2
  have pg3 := BPg.out.cell 3
  simp only [List.getElem?_toArray, List.getElem?_cons_zero, List.getElem?_cons_succ] at pg3
  have pg4 := BPg.out.cell 4
  simp only [List.getElem?_toArray, List.getElem?_cons_zero, List.getElem?_cons_succ] at pg4
  go_wp2_with fail
  refine (toGrid_any 0 W.heap.size _ g _ (Hg.out.ext (Nat.le_refl _) (by repeat (with_reducible (first | assumption | exact Ext.refl _ | apply Ext.alloc | apply Ext.drew | apply Ext.drewN)))) (by simp; omega) HSg.out).mono ?_
  rintro e w7 ⟨v7, rfl, O7, x7⟩
  have BXc := hid ((Bx.made w6 #[.slice (some ⟨ccf, 0, none⟩) c.xs.length c.xs.length, .slice (some ⟨ccg, 0, none⟩) c.ls.length c.ls.length] _).ext x7)
  have y7 : Ext w6 w7 := Ext.trans (by repeat (with_reducible (first | assumption | exact Ext.refl _ | apply Ext.alloc | apply Ext.drew | apply Ext.drewN))) x7
  have z7 := x7.size
  simp only [World.size_alloc] at z7 O7
  replace BPc := hid (BPc.out.kp (y7.kp BPc.out.lt))
  replace BPg := hid (BPg.out.kp (y7.kp BPg.out.lt))
  replace SP0 := hid (SP0.out.kp (y7.kp (by first | omega | (simp; omega))))
  replace SP1 := hid (SP1.out.kp (y7.kp (by first | omega | (simp; omega))))
  replace OXc := hid (OXc.out.kp (y7.kp (by first | omega | (simp; omega))))
  replace E := E.trans y7
  have OXg := hid O7
  obtain ⟨cgf, cgg, cgh, rfl⟩ := O7.form
  clear x7 y7 O7 pc pc0 pc1 pg pg0 pg1 pg2 pg3 pg4
  have pc := BPc.out.lt
  have pc0 := BPc.out.cell 0
  simp only [List.getElem?_toArray, List.getElem?_cons_zero, List.getElem?_cons_succ] at pc0
  have pc1 := BPc.out.cell 1
  simp only [List.getElem?_toArray, List.getElem?_cons_zero, List.getElem?_cons_succ] at pc1
  have pg := BPg.out.lt
  have pg0 := BPg.out.cell 0
  simp only [List.getElem?_toArray, List.getElem?_cons_zero, List.getElem?_cons_succ] at pg0
  have pg1 := BPg.out.cell 1
  simp only [List.getElem?_toArray, List.getElem?_cons_zero, List.getElem?_cons_succ] at pg1
  have pg2 := BPg.out.cell 2
  simp only [List.getElem?_toArray, List.getElem?_cons_zero, List.getElem?_cons_succ] at pg2
  have pg3 := BPg.out.cell 3
  simp only [List.getElem?_toArray, List.getElem?_cons_zero, List.getElem?_cons_succ] at pg3
  have pg4 := BPg.out.cell 4
  simp only [List.getElem?_toArray, List.getElem?_cons_zero, List.getElem?_cons_succ] at pg4
  have xc := BXc.out.lt
  have xc0 := BXc.out.cell 0
  simp only [List.getElem?_toArray, List.getElem?_cons_zero, List.getElem?_cons_succ] at xc0
  have xc1 := BXc.out.cell 1
  simp only [List.getElem?_toArray, List.getElem?_cons_zero, List.getElem?_cons_succ] at xc1
  go_wp2_with fail
  refine (iShadeGrid_any _ _ _ _ _ _ c g _ HQ.out (OXc.out.kp (Ext.kp (by repeat (with_reducible (first | assumption | exact Ext.refl _ | apply Ext.alloc | apply Ext.drew | apply Ext.drewN))) (by omega))).R (by simp <;> omega) (OXg.out.kp (Ext.kp (by repeat (with_reducible (first | assumption | exact Ext.refl _ | apply Ext.alloc | apply Ext.drew | apply Ext.drewN))) (by omega))).R (by simp <;> omega) HSc.out).mono ?_
  rintro e w8 ⟨r8, q8, rfl, h8, la8, lb8, O8, Q8, x8⟩
  have BXg := hid ((Bx.made w7 #[.int .i64 g.n, .slice (some ⟨cgf, 0, none⟩) g.m g.m, .int .i64 g.tm, .int .i64 g.t.log, .slice cgg g.t.px.length cgh] _).ext x8)
  have y8 : Ext w7 w8 := Ext.trans (by repeat (with_reducible (first | assumption | exact Ext.refl _ | apply Ext.alloc | apply Ext.drew | apply Ext.drewN))) x8
  have z8 := x8.size
  simp only [World.size_alloc] at z8 O8 Q8 la8 lb8
  replace BPc := hid (BPc.out.kp (y8.kp BPc.out.lt))
  replace BPg := hid (BPg.out.kp (y8.kp BPg.out.lt))
  replace BXc := hid (BXc.out.kp (y8.kp BXc.out.lt))
  replace SP0 := hid (SP0.out.kp (y8.kp (by first | omega | (simp; omega))))
  replace SP1 := hid (SP1.out.kp (y8.kp (by first | omega | (simp; omega))))
  replace OXc := hid (OXc.out.kp (y8.kp (by first | omega | (simp; omega))))
  replace OXg := hid (OXg.out.kp (y8.kp (by first | omega | (simp; omega))))
  replace E := E.trans y8
  have OR0 := hid O8
  have OR1 := hid Q8
  clear x8 y8 O8 Q8 pc pc0 pc1 pg pg0 pg1 pg2 pg3 pg4 xc xc0 xc1
  have pc := BPc.out.lt
  have pc0 := BPc.out.cell 0
  simp only [List.getElem?_toArray, List.getElem?_cons_zero, List.getElem?_cons_succ] at pc0
  have pc1 := BPc.out.cell 1
  simp only [List.getElem?_toArray, List.getElem?_cons_zero, List.getElem?_cons_succ] at pc1
  have pg := BPg.out.lt
  have pg0 := BPg.out.cell 0
  simp only [List.getElem?_toArray, List.getElem?_cons_zero, List.getElem?_cons_succ] at pg0
  have pg1 := BPg.out.cell 1
  simp only [List.getElem?_toArray, List.getElem?_cons_zero, List.getElem?_cons_succ] at pg1
  have pg2 := BPg.out.cell 2
  simp only [List.getElem?_toArray, List.getElem?_cons_zero, List.getElem?_cons_succ] at pg2
  have pg3 := BPg.out.cell 3
  simp only [List.getElem?_toArray, List.getElem?_cons_zero, List.getElem?_cons_succ] at pg3
  have pg4 := BPg.out.cell 4
  simp only [List.getElem?_toArray, List.getElem?_cons_zero, List.getElem?_cons_succ] at pg4
  have xc := BXc.out.lt
  have xc0 := BXc.out.cell 0
  simp only [List.getElem?_toArray, List.getElem?_cons_zero, List.getElem?_cons_succ] at xc0
  have xc1 := BXc.out.cell 1
  simp only [List.getElem?_toArray, List.getElem?_cons_zero, List.getElem?_cons_succ] at xc1
  have xg := BXg.out.lt
  have xg0 := BXg.out.cell 0
  simp only [List.getElem?_toArray, List.getElem?_cons_zero, List.getElem?_cons_succ] at xg0
  have xg1 := BXg.out.cell 1
  simp only [List.getElem?_toArray, List.getElem?_cons_zero, List.getElem?_cons_succ] at xg1
  have xg2 := BXg.out.cell 2
  simp only [List.getElem?_toArray, List.getElem?_cons_zero, List.getElem?_cons_succ] at xg2
  have xg3 := BXg.out.cell 3
  simp only [List.getElem?_toArray, List.getElem?_cons_zero, List.getElem?_cons_succ] at xg3
  have xg4 := BXg.out.cell 4
  simp only [List.getElem?_toArray, List.getElem?_cons_zero, List.getElem?_cons_succ] at xg4
  go_wp2_with fail
  refine (eqIntS_same _ _ _ _ _ _ X _ OR0.out.ints SP0.out).mono ?_
  rintro e w9 ⟨rfl, x9⟩
  have z9 := x9.size
  replace BPc := hid (BPc.out.kp (x9.kp BPc.out.lt))
  replace BPg := hid (BPg.out.kp (x9.kp BPg.out.lt))
  replace BXc := hid (BXc.out.kp (x9.kp BXc.out.lt))
  replace BXg := hid (BXg.out.kp (x9.kp BXg.out.lt))
  replace SP0 := hid (SP0.out.kp (x9.kp (by first | omega | (simp; omega))))
  replace SP1 := hid (SP1.out.kp (x9.kp (by first | omega | (simp; omega))))
  replace OXc := hid (OXc.out.kp (x9.kp (by first | omega | (simp; omega))))
  replace OXg := hid (OXg.out.kp (x9.kp (by first | omega | (simp; omega))))
  replace OR0 := hid (OR0.out.kp (x9.kp (by first | omega | (simp; omega))))
  replace OR1 := hid (OR1.out.kp (x9.kp (by first | omega | (simp; omega))))
  replace E := E.trans x9
  clear x9 pc pc0 pc1 pg pg0 pg1 pg2 pg3 pg4 xc xc0 xc1 xg xg0 xg1 xg2 xg3 xg4
  have pc := BPc.out.lt
  have pc0 := BPc.out.cell 0
  simp only [List.getElem?_toArray, List.getElem?_cons_zero, List.getElem?_cons_succ] at pc0
  have pc1 := BPc.out.cell 1
  simp only [List.getElem?_toArray, List.getElem?_cons_zero, List.getElem?_cons_succ] at pc1
  have pg := BPg.out.lt
  have pg0 := BPg.out.cell 0
  simp only [List.getElem?_toArray, List.getElem?_cons_zero, List.getElem?_cons_succ] at pg0
  have pg1 := BPg.out.cell 1
  simp only [List.getElem?_toArray, List.getElem?_cons_zero, List.getElem?_cons_succ] at pg1
  have pg2 := BPg.out.cell 2
  simp only [List.getElem?_toArray, List.getElem?_cons_zero, List.getElem?_cons_succ] at pg2
  have pg3 := BPg.out.cell 3
  simp only [List.getElem?_toArray, List.getElem?_cons_zero, List.getElem?_cons_succ] at pg3
  have pg4 := BPg.out.cell 4
  simp only [List.getElem?_toArray, List.getElem?_cons_zero, List.getElem?_cons_succ] at pg4
  have xc := BXc.out.lt
  have xc0 := BXc.out.cell 0
  simp only [List.getElem?_toArray, List.getElem?_cons_zero, List.getElem?_cons_succ] at xc0
  have xc1 := BXc.out.cell 1
  simp only [List.getElem?_toArray, List.getElem?_cons_zero, List.getElem?_cons_succ] at xc1
  have xg := BXg.out.lt
  have xg0 := BXg.out.cell 0
  simp only [List.getElem?_toArray, List.getElem?_cons_zero, List.getElem?_cons_succ] at xg0
  have xg1 := BXg.out.cell 1
  simp only [List.getElem?_toArray, List.getElem?_cons_zero, List.getElem?_cons_succ] at xg1
  have xg2 := BXg.out.cell 2
  simp only [List.getElem?_toArray, List.getElem?_cons_zero, List.getElem?_cons_succ] at xg2
  have xg3 := BXg.out.cell 3
  simp only [List.getElem?_toArray, List.getElem?_cons_zero, List.getElem?_cons_succ] at xg3
  have xg4 := BXg.out.cell 4
  simp only [List.getElem?_toArray, List.getElem?_cons_zero, List.getElem?_cons_succ] at xg4
  go_wp2_with fail
  refine (eqIntS_same _ _ _ _ _ _ Y _ OR1.out.ints SP1.out).mono ?_
  rintro e w10 ⟨rfl, x10⟩
  have z10 := x10.size
  replace BPc := hid (BPc.out.kp (x10.kp BPc.out.lt))
  replace BPg := hid (BPg.out.kp (x10.kp BPg.out.lt))
  replace BXc := hid (BXc.out.kp (x10.kp BXc.out.lt))
  replace BXg := hid (BXg.out.kp (x10.kp BXg.out.lt))
  replace SP0 := hid (SP0.out.kp (x10.kp (by first | omega | (simp; omega))))
  replace SP1 := hid (SP1.out.kp (x10.kp (by first | omega | (simp; omega))))
  replace OXc := hid (OXc.out.kp (x10.kp (by first | omega | (simp; omega))))
  replace OXg := hid (OXg.out.kp (x10.kp (by first | omega | (simp; omega))))
  replace OR0 := hid (OR0.out.kp (x10.kp (by first | omega | (simp; omega))))
  replace OR1 := hid (OR1.out.kp (x10.kp (by first | omega | (simp; omega))))
  replace E := E.trans x10
  clear x10 pc pc0 pc1 pg pg0 pg1 pg2 pg3 pg4 xc xc0 xc1 xg xg0 xg1 xg2 xg3 xg4
  have pc := BPc.out.lt
  have pc0 := BPc.out.cell 0
  simp only [List.getElem?_toArray, List.getElem?_cons_zero, List.getElem?_cons_succ] at pc0
  have pc1 := BPc.out.cell 1
  simp only [List.getElem?_toArray, List.getElem?_cons_zero, List.getElem?_cons_succ] at pc1
  have pg := BPg.out.lt
  have pg0 := BPg.out.cell 0
  simp only [List.getElem?_toArray, List.getElem?_cons_zero, List.getElem?_cons_succ] at pg0
  have pg1 := BPg.out.cell 1
  simp only [List.getElem?_toArray, List.getElem?_cons_zero, List.getElem?_cons_succ] at pg1
  have pg2 := BPg.out.cell 2
  simp only [List.getElem?_toArray, List.getElem?_cons_zero, List.getElem?_cons_succ] at pg2
  have pg3 := BPg.out.cell 3
  simp only [List.getElem?_toArray, List.getElem?_cons_zero, List.getElem?_cons_succ] at pg3
  have pg4 := BPg.out.cell 4
  simp only [List.getElem?_toArray, List.getElem?_cons_zero, List.getElem?_cons_succ] at pg4
  have xc := BXc.out.lt
  have xc0 := BXc.out.cell 0
  simp only [List.getElem?_toArray, List.getElem?_cons_zero, List.getElem?_cons_succ] at xc0
  have xc1 := BXc.out.cell 1
  simp only [List.getElem?_toArray, List.getElem?_cons_zero, List.getElem?_cons_succ] at xc1
  have xg := BXg.out.lt
  have xg0 := BXg.out.cell 0
  simp only [List.getElem?_toArray, List.getElem?_cons_zero, List.getElem?_cons_succ] at xg0
  have xg1 := BXg.out.cell 1
  simp only [List.getElem?_toArray, List.getElem?_cons_zero, List.getElem?_cons_succ] at xg1
  have xg2 := BXg.out.cell 2
  simp only [List.getElem?_toArray, List.getElem?_cons_zero, List.getElem?_cons_succ] at xg2
  have xg3 := BXg.out.cell 3
  simp only [List.getElem?_toArray, List.getElem?_cons_zero, List.getElem?_cons_succ] at xg3
  have xg4 := BXg.out.cell 4
  simp only [List.getElem?_toArray, List.getElem?_cons_zero, List.getElem?_cons_succ] at xg4
  go_wp2_with fail
  have zE := E.size
  refine wp_region_stages [([0, 1], 2), ([], 3), ([], 4)] 99 w10.heap.size (by kernel_rfl) (by kernel_rfl) ?_
  refine wpStages_cons ?_
  simp only [List.filterMap_cons, List.filterMap_nil, List.getElem?_toArray, List.getElem?_cons_zero, List.getElem?_cons_succ]
  show wpQuiet _ _ _ _ [_, _] _
  repeat (go_big_quiet_step (fail))
  refine wpQuiet_nil ⟨_, rfl, fun K hK => ?_⟩
  go_wp2_with fail
  refine (toCode_any 0 W.heap.size _ c w10.drew (Hc.out.ext (Nat.le_refl _) E.drew) zE HSc.out).mono ?_
  rintro e w11 ⟨v11, rfl, O11, x11⟩
  have y11 : Ext w10 w11 := Ext.trans (by repeat (with_reducible (first | assumption | exact Ext.refl _ | apply Ext.alloc | apply Ext.drew | apply Ext.drewN))) x11
  have z11 := y11.size
  go_wp2_with fail
  refine hK _ _ (.inr (y11.same (Nat.le_refl _))) ?_
  clear hK K
  refine wpStages_cons ?_
  simp only [List.filterMap_nil]
  show wpQuiet _ _ _ _ [] _
  try simp only [Act.put, List.setIfInBounds_toArray, List.set_cons_succ, List.set_cons_zero]
  repeat (go_big_quiet_step (fail))
  refine wpQuiet_nil ⟨_, rfl, fun K hK => ?_⟩
  go_wp2_with fail
  refine (eqCode_same _ _ _ _ _ _ c _ (OXc.out.kp (y11.kp (by omega))).R (by omega) O11.R (Nat.le_refl _)).mono ?_
  rintro e w12 ⟨rfl, x12⟩
  have y12 : Ext w10 w12 := y11.trans x12
  have z12 := x12.size
  go_wp2_with fail
  refine hK _ _ (.inr (y12.same (Nat.le_refl _))) ?_
  clear hK K
  refine wpStages_cons ?_
  simp only [List.filterMap_nil]
  show wpQuiet _ _ _ _ [] _
  try simp only [Act.put, List.setIfInBounds_toArray, List.set_cons_succ, List.set_cons_zero]
  repeat (go_big_quiet_step (fail))
  refine wpQuiet_nil ⟨_, rfl, fun K hK => ?_⟩
  go_wp2_with fail
  refine hK _ _ (.inr (y12.same (Nat.le_refl _))) ?_
  clear hK K
  refine wpStages_nil ?_
  replace BPc := hid (BPc.out.kp (y12.kp BPc.out.lt))
  replace BPg := hid (BPg.out.kp (y12.kp BPg.out.lt))
  replace BXc := hid (BXc.out.kp (y12.kp BXc.out.lt))
  replace BXg := hid (BXg.out.kp (y12.kp BXg.out.lt))
  replace SP0 := hid (SP0.out.kp (y12.kp (by first | omega | (simp; omega))))
  replace SP1 := hid (SP1.out.kp (y12.kp (by first | omega | (simp; omega))))
  replace OXc := hid (OXc.out.kp (y12.kp (by first | omega | (simp; omega))))
  replace OXg := hid (OXg.out.kp (y12.kp (by first | omega | (simp; omega))))
  replace OR0 := hid (OR0.out.kp (y12.kp (by first | omega | (simp; omega))))
  replace OR1 := hid (OR1.out.kp (y12.kp (by first | omega | (simp; omega))))
  replace E := E.trans y12
  clear x11 y11 x12 y12 O11 pc pc0 pc1 pg pg0 pg1 pg2 pg3 pg4 xc xc0 xc1 xg xg0 xg1 xg2 xg3 xg4
  have pc := BPc.out.lt
  have pc0 := BPc.out.cell 0
  simp only [List.getElem?_toArray, List.getElem?_cons_zero, List.getElem?_cons_succ] at pc0
  have pc1 := BPc.out.cell 1
  simp only [List.getElem?_toArray, List.getElem?_cons_zero, List.getElem?_cons_succ] at pc1
  have pg := BPg.out.lt
  have pg0 := BPg.out.cell 0
  simp only [List.getElem?_toArray, List.getElem?_cons_zero, List.getElem?_cons_succ] at pg0
  have pg1 := BPg.out.cell 1
  simp only [List.getElem?_toArray, List.getElem?_cons_zero, List.getElem?_cons_succ] at pg1
  have pg2 := BPg.out.cell 2
  simp only [List.getElem?_toArray, List.getElem?_cons_zero, List.getElem?_cons_succ] at pg2
  have pg3 := BPg.out.cell 3
  simp only [List.getElem?_toArray, List.getElem?_cons_zero, List.getElem?_cons_succ] at pg3
  have pg4 := BPg.out.cell 4
  simp only [List.getElem?_toArray, List.getElem?_cons_zero, List.getElem?_cons_succ] at pg4
  have xc := BXc.out.lt
  have xc0 := BXc.out.cell 0
  simp only [List.getElem?_toArray, List.getElem?_cons_zero, List.getElem?_cons_succ] at xc0
  have xc1 := BXc.out.cell 1
  simp only [List.getElem?_toArray, List.getElem?_cons_zero, List.getElem?_cons_succ] at xc1
  have xg := BXg.out.lt
  have xg0 := BXg.out.cell 0
  simp only [List.getElem?_toArray, List.getElem?_cons_zero, List.getElem?_cons_succ] at xg0
  have xg1 := BXg.out.cell 1
  simp only [List.getElem?_toArray, List.getElem?_cons_zero, List.getElem?_cons_succ] at xg1
  have xg2 := BXg.out.cell 2
  simp only [List.getElem?_toArray, List.getElem?_cons_zero, List.getElem?_cons_succ] at xg2
  have xg3 := BXg.out.cell 3
  simp only [List.getElem?_toArray, List.getElem?_cons_zero, List.getElem?_cons_succ] at xg3
  have xg4 := BXg.out.cell 4
  simp only [List.getElem?_toArray, List.getElem?_cons_zero, List.getElem?_cons_succ] at xg4
  go_wp2_with fail
  have zE := E.size
  refine wp_region_stages [([0, 1], 2), ([], 3), ([], 4)] 99 w12.heap.size (by kernel_rfl) (by kernel_rfl) ?_
  refine wpStages_cons ?_
  simp only [List.filterMap_cons, List.filterMap_nil, List.getElem?_toArray, List.getElem?_cons_zero, List.getElem?_cons_succ]
  show wpQuiet _ _ _ _ [_, _] _
  repeat (go_big_quiet_step (fail))
  refine wpQuiet_nil ⟨_, rfl, fun K hK => ?_⟩
  go_wp2_with fail
  refine (toGrid_any 0 W.heap.size _ g w12.drew (Hg.out.ext (Nat.le_refl _) E.drew) zE HSg.out).mono ?_
  rintro e w13 ⟨v13, rfl, O13, x13⟩
  have y13 : Ext w12 w13 := Ext.trans (by repeat (with_reducible (first | assumption | exact Ext.refl _ | apply Ext.alloc | apply Ext.drew | apply Ext.drewN))) x13
  have z13 := y13.size
  go_wp2_with fail
  refine hK _ _ (.inr (y13.same (Nat.le_refl _))) ?_
  clear hK K
  refine wpStages_cons ?_
  simp only [List.filterMap_nil]
  show wpQuiet _ _ _ _ [] _
  try simp only [Act.put, List.setIfInBounds_toArray, List.set_cons_succ, List.set_cons_zero]
  repeat (go_big_quiet_step (fail))
  refine wpQuiet_nil ⟨_, rfl, fun K hK => ?_⟩
  go_wp2_with fail
  refine (eqGrid_same _ _ _ _ _ _ g _ (OXg.out.kp (y13.kp (by omega))).R (by omega) O13.R (Nat.le_refl _)).mono ?_
  rintro e w14 ⟨rfl, x14⟩
  have y14 : Ext w12 w14 := y13.trans x14
  have z14 := x14.size
  go_wp2_with fail
  refine hK _ _ (.inr (y14.same (Nat.le_refl _))) ?_
  clear hK K
  refine wpStages_cons ?_
  simp only [List.filterMap_nil]
  show wpQuiet _ _ _ _ [] _
  try simp only [Act.put, List.setIfInBounds_toArray, List.set_cons_succ, List.set_cons_zero]
  repeat (go_big_quiet_step (fail))
  refine wpQuiet_nil ⟨_, rfl, fun K hK => ?_⟩
  go_wp2_with fail
  refine hK _ _ (.inr (y14.same (Nat.le_refl _))) ?_
  clear hK K
  refine wpStages_nil ?_
  replace BPc := hid (BPc.out.kp (y14.kp BPc.out.lt))
  replace BPg := hid (BPg.out.kp (y14.kp BPg.out.lt))
  replace BXc := hid (BXc.out.kp (y14.kp BXc.out.lt))
  replace BXg := hid (BXg.out.kp (y14.kp BXg.out.lt))
  replace SP0 := hid (SP0.out.kp (y14.kp (by first | omega | (simp; omega))))
  replace SP1 := hid (SP1.out.kp (y14.kp (by first | omega | (simp; omega))))
  replace OXc := hid (OXc.out.kp (y14.kp (by first | omega | (simp; omega))))
  replace OXg := hid (OXg.out.kp (y14.kp (by first | omega | (simp; omega))))
  replace OR0 := hid (OR0.out.kp (y14.kp (by first | omega | (simp; omega))))
  replace OR1 := hid (OR1.out.kp (y14.kp (by first | omega | (simp; omega))))
  replace E := E.trans y14
  clear x13 y13 x14 y14 O13 pc pc0 pc1 pg pg0 pg1 pg2 pg3 pg4 xc xc0 xc1 xg xg0 xg1 xg2 xg3 xg4
  have pc := BPc.out.lt
  have pc0 := BPc.out.cell 0
  simp only [List.getElem?_toArray, List.getElem?_cons_zero, List.getElem?_cons_succ] at pc0
  have pc1 := BPc.out.cell 1
  simp only [List.getElem?_toArray, List.getElem?_cons_zero, List.getElem?_cons_succ] at pc1
  have pg := BPg.out.lt
  have pg0 := BPg.out.cell 0
  simp only [List.getElem?_toArray, List.getElem?_cons_zero, List.getElem?_cons_succ] at pg0
  have pg1 := BPg.out.cell 1
  simp only [List.getElem?_toArray, List.getElem?_cons_zero, List.getElem?_cons_succ] at pg1
  have pg2 := BPg.out.cell 2
  simp only [List.getElem?_toArray, List.getElem?_cons_zero, List.getElem?_cons_succ] at pg2
  have pg3 := BPg.out.cell 3
  simp only [List.getElem?_toArray, List.getElem?_cons_zero, List.getElem?_cons_succ] at pg3
  have pg4 := BPg.out.cell 4
  simp only [List.getElem?_toArray, List.getElem?_cons_zero, List.getElem?_cons_succ] at pg4
  have xc := BXc.out.lt
  have xc0 := BXc.out.cell 0
  simp only [List.getElem?_toArray, List.getElem?_cons_zero, List.getElem?_cons_succ] at xc0
  have xc1 := BXc.out.cell 1
  simp only [List.getElem?_toArray, List.getElem?_cons_zero, List.getElem?_cons_succ] at xc1
  have xg := BXg.out.lt
  have xg0 := BXg.out.cell 0
  simp only [List.getElem?_toArray, List.getElem?_cons_zero, List.getElem?_cons_succ] at xg0
  have xg1 := BXg.out.cell 1
  simp only [List.getElem?_toArray, List.getElem?_cons_zero, List.getElem?_cons_succ] at xg1
  have xg2 := BXg.out.cell 2
  simp only [List.getElem?_toArray, List.getElem?_cons_zero, List.getElem?_cons_succ] at xg2
  have xg3 := BXg.out.cell 3
  simp only [List.getElem?_toArray, List.getElem?_cons_zero, List.getElem?_cons_succ] at xg3
  have xg4 := BXg.out.cell 4
  simp only [List.getElem?_toArray, List.getElem?_cons_zero, List.getElem?_cons_succ] at xg4
  go_wp2_with fail
  refine (markCode_any _ _ _ c 1 _ OXc.out (by omega) (by first | decide | omega)).mono ?_
  rintro e w15 ⟨⟨k15, rfl, hk15⟩, x15⟩
  have z15 := x15.size
  have zE := E.size
  replace BPc := hid (BPc.out.kp (x15.kp BPc.out.lt (by first | omega | (simp; omega))))
  replace BPg := hid (BPg.out.kp (x15.kp BPg.out.lt (by first | omega | (simp; omega))))
  replace BXc := hid (BXc.out.kp (x15.kp BXc.out.lt (by first | omega | (simp; omega))))
  replace BXg := hid (BXg.out.kp (x15.kp BXg.out.lt (by first | omega | (simp; omega))))
  replace SP0 := hid (SP0.out.kp (x15.kp (by first | omega | (simp; omega)) (by first | omega | (simp; omega))))
  replace SP1 := hid (SP1.out.kp (x15.kp (by first | omega | (simp; omega)) (by first | omega | (simp; omega))))
  replace OXg := hid (OXg.out.kp (x15.kp (by first | omega | (simp; omega)) (by first | omega | (simp; omega))))
  replace OR0 := hid (OR0.out.kp (x15.kp (by first | omega | (simp; omega)) (by first | omega | (simp; omega))))
  replace OR1 := hid (OR1.out.kp (x15.kp (by first | omega | (simp; omega)) (by first | omega | (simp; omega))))
  replace E := x15.ext E (by omega)
  clear x15 pc pc0 pc1 pg pg0 pg1 pg2 pg3 pg4 xc xc0 xc1 xg xg0 xg1 xg2 xg3 xg4
  have pc := BPc.out.lt
  have pc0 := BPc.out.cell 0
  simp only [List.getElem?_toArray, List.getElem?_cons_zero, List.getElem?_cons_succ] at pc0
  have pc1 := BPc.out.cell 1
  simp only [List.getElem?_toArray, List.getElem?_cons_zero, List.getElem?_cons_succ] at pc1
  have pg := BPg.out.lt
  have pg0 := BPg.out.cell 0
  simp only [List.getElem?_toArray, List.getElem?_cons_zero, List.getElem?_cons_succ] at pg0
  have pg1 := BPg.out.cell 1
  simp only [List.getElem?_toArray, List.getElem?_cons_zero, List.getElem?_cons_succ] at pg1
  have pg2 := BPg.out.cell 2
  simp only [List.getElem?_toArray, List.getElem?_cons_zero, List.getElem?_cons_succ] at pg2
  have pg3 := BPg.out.cell 3
  simp only [List.getElem?_toArray, List.getElem?_cons_zero, List.getElem?_cons_succ] at pg3
  have pg4 := BPg.out.cell 4
  simp only [List.getElem?_toArray, List.getElem?_cons_zero, List.getElem?_cons_succ] at pg4
  have xc := BXc.out.lt
  have xc0 := BXc.out.cell 0
  simp only [List.getElem?_toArray, List.getElem?_cons_zero, List.getElem?_cons_succ] at xc0
  have xc1 := BXc.out.cell 1
  simp only [List.getElem?_toArray, List.getElem?_cons_zero, List.getElem?_cons_succ] at xc1
  have xg := BXg.out.lt
  have xg0 := BXg.out.cell 0
  simp only [List.getElem?_toArray, List.getElem?_cons_zero, List.getElem?_cons_succ] at xg0
  have xg1 := BXg.out.cell 1
  simp only [List.getElem?_toArray, List.getElem?_cons_zero, List.getElem?_cons_succ] at xg1
  have xg2 := BXg.out.cell 2
  simp only [List.getElem?_toArray, List.getElem?_cons_zero, List.getElem?_cons_succ] at xg2
  have xg3 := BXg.out.cell 3
  simp only [List.getElem?_toArray, List.getElem?_cons_zero, List.getElem?_cons_succ] at xg3
  have xg4 := BXg.out.cell 4
  simp only [List.getElem?_toArray, List.getElem?_cons_zero, List.getElem?_cons_succ] at xg4
  go_wp2_with fail
  refine (markGrid_any _ _ _ g k15 _ OXg.out (by omega) HSg.out (by omega) (by first | decide | omega)).mono ?_
  rintro e w16 ⟨⟨k16, rfl, hk16, hl16⟩, x16⟩
  have z16 := x16.size
  have zE := E.size
  replace BPc := hid (BPc.out.kp (x16.kp BPc.out.lt (by first | omega | (simp; omega))))
  replace BPg := hid (BPg.out.kp (x16.kp BPg.out.lt (by first | omega | (simp; omega))))
  replace BXc := hid (BXc.out.kp (x16.kp BXc.out.lt (by first | omega | (simp; omega))))
  replace BXg := hid (BXg.out.kp (x16.kp BXg.out.lt (by first | omega | (simp; omega))))
  replace SP0 := hid (SP0.out.kp (x16.kp (by first | omega | (simp; omega)) (by first | omega | (simp; omega))))
  replace SP1 := hid (SP1.out.kp (x16.kp (by first | omega | (simp; omega)) (by first | omega | (simp; omega))))
  replace OR0 := hid (OR0.out.kp (x16.kp (by first | omega | (simp; omega)) (by first | omega | (simp; omega))))
  replace OR1 := hid (OR1.out.kp (x16.kp (by first | omega | (simp; omega)) (by first | omega | (simp; omega))))
  replace E := x16.ext E (by omega)
  clear x16 pc pc0 pc1 pg pg0 pg1 pg2 pg3 pg4 xc xc0 xc1 xg xg0 xg1 xg2 xg3 xg4
  have pc := BPc.out.lt
  have pc0 := BPc.out.cell 0
  simp only [List.getElem?_toArray, List.getElem?_cons_zero, List.getElem?_cons_succ] at pc0
  have pc1 := BPc.out.cell 1
  simp only [List.getElem?_toArray, List.getElem?_cons_zero, List.getElem?_cons_succ] at pc1
  have pg := BPg.out.lt
  have pg0 := BPg.out.cell 0
  simp only [List.getElem?_toArray, List.getElem?_cons_zero, List.getElem?_cons_succ] at pg0
  have pg1 := BPg.out.cell 1
  simp only [List.getElem?_toArray, List.getElem?_cons_zero, List.getElem?_cons_succ] at pg1
  have pg2 := BPg.out.cell 2
  simp only [List.getElem?_toArray, List.getElem?_cons_zero, List.getElem?_cons_succ] at pg2
  have pg3 := BPg.out.cell 3
  simp only [List.getElem?_toArray, List.getElem?_cons_zero, List.getElem?_cons_succ] at pg3
  have pg4 := BPg.out.cell 4
  simp only [List.getElem?_toArray, List.getElem?_cons_zero, List.getElem?_cons_succ] at pg4
  have xc := BXc.out.lt
  have xc0 := BXc.out.cell 0
  simp only [List.getElem?_toArray, List.getElem?_cons_zero, List.getElem?_cons_succ] at xc0
  have xc1 := BXc.out.cell 1
  simp only [List.getElem?_toArray, List.getElem?_cons_zero, List.getElem?_cons_succ] at xc1
  have xg := BXg.out.lt
  have xg0 := BXg.out.cell 0
  simp only [List.getElem?_toArray, List.getElem?_cons_zero, List.getElem?_cons_succ] at xg0
  have xg1 := BXg.out.cell 1
  simp only [List.getElem?_toArray, List.getElem?_cons_zero, List.getElem?_cons_succ] at xg1
  have xg2 := BXg.out.cell 2
  simp only [List.getElem?_toArray, List.getElem?_cons_zero, List.getElem?_cons_succ] at xg2
  have xg3 := BXg.out.cell 3
  simp only [List.getElem?_toArray, List.getElem?_cons_zero, List.getElem?_cons_succ] at xg3
  have xg4 := BXg.out.cell 4
  simp only [List.getElem?_toArray, List.getElem?_cons_zero, List.getElem?_cons_succ] at xg4
  go_wp2_with fail
  refine (eqIntS_same _ _ _ _ _ _ X _ OR0.out.ints SP0.out).mono ?_
  rintro e w17 ⟨rfl, x17⟩
  have z17 := x17.size
  replace BPc := hid (BPc.out.kp (x17.kp BPc.out.lt))
  replace BPg := hid (BPg.out.kp (x17.kp BPg.out.lt))
  replace BXc := hid (BXc.out.kp (x17.kp BXc.out.lt))
  replace BXg := hid (BXg.out.kp (x17.kp BXg.out.lt))
  replace SP0 := hid (SP0.out.kp (x17.kp (by first | omega | (simp; omega))))
  replace SP1 := hid (SP1.out.kp (x17.kp (by first | omega | (simp; omega))))
  replace OR0 := hid (OR0.out.kp (x17.kp (by first | omega | (simp; omega))))
  replace OR1 := hid (OR1.out.kp (x17.kp (by first | omega | (simp; omega))))
  replace E := E.trans x17
  clear x17 pc pc0 pc1 pg pg0 pg1 pg2 pg3 pg4 xc xc0 xc1 xg xg0 xg1 xg2 xg3 xg4
  have pc := BPc.out.lt
  have pc0 := BPc.out.cell 0
  simp only [List.getElem?_toArray, List.getElem?_cons_zero, List.getElem?_cons_succ] at pc0
  have pc1 := BPc.out.cell 1
  simp only [List.getElem?_toArray, List.getElem?_cons_zero, List.getElem?_cons_succ] at pc1
  have pg := BPg.out.lt
  have pg0 := BPg.out.cell 0
  simp only [List.getElem?_toArray, List.getElem?_cons_zero, List.getElem?_cons_succ] at pg0
  have pg1 := BPg.out.cell 1
  simp only [List.getElem?_toArray, List.getElem?_cons_zero, List.getElem?_cons_succ] at pg1
  have pg2 := BPg.out.cell 2
  simp only [List.getElem?_toArray, List.getElem?_cons_zero, List.getElem?_cons_succ] at pg2
  have pg3 := BPg.out.cell 3
  simp only [List.getElem?_toArray, List.getElem?_cons_zero, List.getElem?_cons_succ] at pg3
  have pg4 := BPg.out.cell 4
  simp only [List.getElem?_toArray, List.getElem?_cons_zero, List.getElem?_cons_succ] at pg4
  have xc := BXc.out.lt
  have xc0 := BXc.out.cell 0
  simp only [List.getElem?_toArray, List.getElem?_cons_zero, List.getElem?_cons_succ] at xc0
  have xc1 := BXc.out.cell 1
  simp only [List.getElem?_toArray, List.getElem?_cons_zero, List.getElem?_cons_succ] at xc1
  have xg := BXg.out.lt
  have xg0 := BXg.out.cell 0
  simp only [List.getElem?_toArray, List.getElem?_cons_zero, List.getElem?_cons_succ] at xg0
  have xg1 := BXg.out.cell 1
  simp only [List.getElem?_toArray, List.getElem?_cons_zero, List.getElem?_cons_succ] at xg1
  have xg2 := BXg.out.cell 2
  simp only [List.getElem?_toArray, List.getElem?_cons_zero, List.getElem?_cons_succ] at xg2
  have xg3 := BXg.out.cell 3
  simp only [List.getElem?_toArray, List.getElem?_cons_zero, List.getElem?_cons_succ] at xg3
  have xg4 := BXg.out.cell 4
  simp only [List.getElem?_toArray, List.getElem?_cons_zero, List.getElem?_cons_succ] at xg4
  go_wp2_with fail
  refine (eqIntS_same _ _ _ _ _ _ Y _ OR1.out.ints SP1.out).mono ?_
  rintro e w18 ⟨rfl, x18⟩
  have z18 := x18.size
  replace BPc := hid (BPc.out.kp (x18.kp BPc.out.lt))
  replace BPg := hid (BPg.out.kp (x18.kp BPg.out.lt))
  replace BXc := hid (BXc.out.kp (x18.kp BXc.out.lt))
  replace BXg := hid (BXg.out.kp (x18.kp BXg.out.lt))
  replace SP0 := hid (SP0.out.kp (x18.kp (by first | omega | (simp; omega))))
  replace SP1 := hid (SP1.out.kp (x18.kp (by first | omega | (simp; omega))))
  replace OR0 := hid (OR0.out.kp (x18.kp (by first | omega | (simp; omega))))
  replace OR1 := hid (OR1.out.kp (x18.kp (by first | omega | (simp; omega))))
  replace E := E.trans x18
  clear x18 pc pc0 pc1 pg pg0 pg1 pg2 pg3 pg4 xc xc0 xc1 xg xg0 xg1 xg2 xg3 xg4
  have pc := BPc.out.lt
  have pc0 := BPc.out.cell 0
  simp only [List.getElem?_toArray, List.getElem?_cons_zero, List.getElem?_cons_succ] at pc0
  have pc1 := BPc.out.cell 1
  simp only [List.getElem?_toArray, List.getElem?_cons_zero, List.getElem?_cons_succ] at pc1
  have pg := BPg.out.lt
  have pg0 := BPg.out.cell 0
  simp only [List.getElem?_toArray, List.getElem?_cons_zero, List.getElem?_cons_succ] at pg0
  have pg1 := BPg.out.cell 1
  simp only [List.getElem?_toArray, List.getElem?_cons_zero, List.getElem?_cons_succ] at pg1
  have pg2 := BPg.out.cell 2
  simp only [List.getElem?_toArray, List.getElem?_cons_zero, List.getElem?_cons_succ] at pg2
  have pg3 := BPg.out.cell 3
  simp only [List.getElem?_toArray, List.getElem?_cons_zero, List.getElem?_cons_succ] at pg3
  have pg4 := BPg.out.cell 4
  simp only [List.getElem?_toArray, List.getElem?_cons_zero, List.getElem?_cons_succ] at pg4
  have xc := BXc.out.lt
  have xc0 := BXc.out.cell 0
  simp only [List.getElem?_toArray, List.getElem?_cons_zero, List.getElem?_cons_succ] at xc0
  have xc1 := BXc.out.cell 1
  simp only [List.getElem?_toArray, List.getElem?_cons_zero, List.getElem?_cons_succ] at xc1
  have xg := BXg.out.lt
  have xg0 := BXg.out.cell 0
  simp only [List.getElem?_toArray, List.getElem?_cons_zero, List.getElem?_cons_succ] at xg0
  have xg1 := BXg.out.cell 1
  simp only [List.getElem?_toArray, List.getElem?_cons_zero, List.getElem?_cons_succ] at xg1
  have xg2 := BXg.out.cell 2
  simp only [List.getElem?_toArray, List.getElem?_cons_zero, List.getElem?_cons_succ] at xg2
  have xg3 := BXg.out.cell 3
  simp only [List.getElem?_toArray, List.getElem?_cons_zero, List.getElem?_cons_succ] at xg3
  have xg4 := BXg.out.cell 4
  simp only [List.getElem?_toArray, List.getElem?_cons_zero, List.getElem?_cons_succ] at xg4
  clear BXc xc xc0 xc1 BXg xg xg0 xg1 xg2 xg3 xg4
  go_wp2_with fail
  refine (markIntS_o _ _ _ X 1 _ OR0.out (by omega) (by omega) (by omega)).mono ?_
  rintro e w19 ⟨rfl, M19, x19⟩
  have z19 := x19.size
  have zE := E.size
  replace BPc := hid (BPc.out.kp (x19.kp BPc.out.lt (by first | omega | (simp; omega))))
  replace BPg := hid (BPg.out.kp (x19.kp BPg.out.lt (by first | omega | (simp; omega))))
  replace SP0 := hid (SP0.out.kp (x19.kp (by first | omega | (simp; omega)) (by first | omega | (simp; omega))))
  replace SP1 := hid (SP1.out.kp (x19.kp (by first | omega | (simp; omega)) (by first | omega | (simp; omega))))
  replace OR1 := hid (OR1.out.kp (x19.kp (by first | omega | (simp; omega)) (by first | omega | (simp; omega))))
  replace E := x19.ext E (by omega)
  replace OR0 := hid M19
  clear x19 M19 pc pc0 pc1 pg pg0 pg1 pg2 pg3 pg4
  have pc := BPc.out.lt
  have pc0 := BPc.out.cell 0
  simp only [List.getElem?_toArray, List.getElem?_cons_zero, List.getElem?_cons_succ] at pc0
  have pc1 := BPc.out.cell 1
  simp only [List.getElem?_toArray, List.getElem?_cons_zero, List.getElem?_cons_succ] at pc1
  have pg := BPg.out.lt
  have pg0 := BPg.out.cell 0
  simp only [List.getElem?_toArray, List.getElem?_cons_zero, List.getElem?_cons_succ] at pg0
  have pg1 := BPg.out.cell 1
  simp only [List.getElem?_toArray, List.getElem?_cons_zero, List.getElem?_cons_succ] at pg1
  have pg2 := BPg.out.cell 2
  simp only [List.getElem?_toArray, List.getElem?_cons_zero, List.getElem?_cons_succ] at pg2
  have pg3 := BPg.out.cell 3
  simp only [List.getElem?_toArray, List.getElem?_cons_zero, List.getElem?_cons_succ] at pg3
  have pg4 := BPg.out.cell 4
  simp only [List.getElem?_toArray, List.getElem?_cons_zero, List.getElem?_cons_succ] at pg4
  go_wp2_with fail
  refine (markIntS_o _ _ _ Y (1 + X.length) _ OR1.out (by omega) (by omega) (by omega)).mono ?_
  rintro e w20 ⟨rfl, M20, x20⟩
  have z20 := x20.size
  have zE := E.size
  replace BPc := hid (BPc.out.kp (x20.kp BPc.out.lt (by first | omega | (simp; omega))))
  replace BPg := hid (BPg.out.kp (x20.kp BPg.out.lt (by first | omega | (simp; omega))))
  replace SP0 := hid (SP0.out.kp (x20.kp (by first | omega | (simp; omega)) (by first | omega | (simp; omega))))
  replace SP1 := hid (SP1.out.kp (x20.kp (by first | omega | (simp; omega)) (by first | omega | (simp; omega))))
  replace OR0 := hid (OR0.out.kp (x20.kp (by first | omega | (simp; omega)) (by first | omega | (simp; omega))))
  replace E := x20.ext E (by omega)
  replace OR1 := hid M20
  clear x20 M20 pc pc0 pc1 pg pg0 pg1 pg2 pg3 pg4
  have pc := BPc.out.lt
  have pc0 := BPc.out.cell 0
  simp only [List.getElem?_toArray, List.getElem?_cons_zero, List.getElem?_cons_succ] at pc0
  have pc1 := BPc.out.cell 1
  simp only [List.getElem?_toArray, List.getElem?_cons_zero, List.getElem?_cons_succ] at pc1
  have pg := BPg.out.lt
  have pg0 := BPg.out.cell 0
  simp only [List.getElem?_toArray, List.getElem?_cons_zero, List.getElem?_cons_succ] at pg0
  have pg1 := BPg.out.cell 1
  simp only [List.getElem?_toArray, List.getElem?_cons_zero, List.getElem?_cons_succ] at pg1
  have pg2 := BPg.out.cell 2
  simp only [List.getElem?_toArray, List.getElem?_cons_zero, List.getElem?_cons_succ] at pg2
  have pg3 := BPg.out.cell 3
  simp only [List.getElem?_toArray, List.getElem?_cons_zero, List.getElem?_cons_succ] at pg3
  have pg4 := BPg.out.cell 4
  simp only [List.getElem?_toArray, List.getElem?_cons_zero, List.getElem?_cons_succ] at pg4
  go_wp2_with fail
  refine (heldIntS_up _ _ _ X.length 1 _ OR0.out.ints (by omega) (by omega)).mono ?_
  rintro e w21 ⟨rfl, x21⟩
  have z21 := x21.size
  replace BPc := hid (BPc.out.kp (x21.kp BPc.out.lt))
  replace BPg := hid (BPg.out.kp (x21.kp BPg.out.lt))
  replace SP0 := hid (SP0.out.kp (x21.kp (by first | omega | (simp; omega))))
  replace SP1 := hid (SP1.out.kp (x21.kp (by first | omega | (simp; omega))))
  replace OR0 := hid (OR0.out.kp (x21.kp (by first | omega | (simp; omega))))
  replace OR1 := hid (OR1.out.kp (x21.kp (by first | omega | (simp; omega))))
  replace E := E.trans x21
  clear x21 pc pc0 pc1 pg pg0 pg1 pg2 pg3 pg4
  have pc := BPc.out.lt
  have pc0 := BPc.out.cell 0
  simp only [List.getElem?_toArray, List.getElem?_cons_zero, List.getElem?_cons_succ] at pc0
  have pc1 := BPc.out.cell 1
  simp only [List.getElem?_toArray, List.getElem?_cons_zero, List.getElem?_cons_succ] at pc1
  have pg := BPg.out.lt
  have pg0 := BPg.out.cell 0
  simp only [List.getElem?_toArray, List.getElem?_cons_zero, List.getElem?_cons_succ] at pg0
  have pg1 := BPg.out.cell 1
  simp only [List.getElem?_toArray, List.getElem?_cons_zero, List.getElem?_cons_succ] at pg1
  have pg2 := BPg.out.cell 2
  simp only [List.getElem?_toArray, List.getElem?_cons_zero, List.getElem?_cons_succ] at pg2
  have pg3 := BPg.out.cell 3
  simp only [List.getElem?_toArray, List.getElem?_cons_zero, List.getElem?_cons_succ] at pg3
  have pg4 := BPg.out.cell 4
  simp only [List.getElem?_toArray, List.getElem?_cons_zero, List.getElem?_cons_succ] at pg4
  go_wp2_with fail
  refine (heldIntS_up _ _ _ Y.length (1 + X.length) _ OR1.out.ints (by omega) (by omega)).mono ?_
  rintro e w22 ⟨rfl, x22⟩
  have z22 := x22.size
  replace BPc := hid (BPc.out.kp (x22.kp BPc.out.lt))
  replace BPg := hid (BPg.out.kp (x22.kp BPg.out.lt))
  replace SP0 := hid (SP0.out.kp (x22.kp (by first | omega | (simp; omega))))
  replace SP1 := hid (SP1.out.kp (x22.kp (by first | omega | (simp; omega))))
  replace OR0 := hid (OR0.out.kp (x22.kp (by first | omega | (simp; omega))))
  replace OR1 := hid (OR1.out.kp (x22.kp (by first | omega | (simp; omega))))
  replace E := E.trans x22
  clear x22 pc pc0 pc1 pg pg0 pg1 pg2 pg3 pg4
  have pc := BPc.out.lt
  have pc0 := BPc.out.cell 0
  simp only [List.getElem?_toArray, List.getElem?_cons_zero, List.getElem?_cons_succ] at pc0
  have pc1 := BPc.out.cell 1
  simp only [List.getElem?_toArray, List.getElem?_cons_zero, List.getElem?_cons_succ] at pc1
  have pg := BPg.out.lt
  have pg0 := BPg.out.cell 0
  simp only [List.getElem?_toArray, List.getElem?_cons_zero, List.getElem?_cons_succ] at pg0
  have pg1 := BPg.out.cell 1
  simp only [List.getElem?_toArray, List.getElem?_cons_zero, List.getElem?_cons_succ] at pg1
  have pg2 := BPg.out.cell 2
  simp only [List.getElem?_toArray, List.getElem?_cons_zero, List.getElem?_cons_succ] at pg2
  have pg3 := BPg.out.cell 3
  simp only [List.getElem?_toArray, List.getElem?_cons_zero, List.getElem?_cons_succ] at pg3
  have pg4 := BPg.out.cell 4
  simp only [List.getElem?_toArray, List.getElem?_cons_zero, List.getElem?_cons_succ] at pg4
  go_wp2_with fail
  have zE := E.size
  refine wp_region_stages [([0, 2], 1), ([], 3), ([], 4), ([5, 6, 7, 8, 9, 10], 11)] 99 w22.heap.size (by kernel_rfl) (by kernel_rfl) ?_
  refine wpStages_cons ?_
  simp only [List.filterMap_cons, List.filterMap_nil, List.getElem?_toArray, List.getElem?_cons_zero, List.getElem?_cons_succ]
  show wpQuiet _ _ _ _ [_, _] _
  repeat (go_big_quiet_step (fail))
  refine wpQuiet_nil ⟨_, rfl, fun K hK => ?_⟩
  go_wp2_with fail
  refine (toCode_any 0 W.heap.size _ c w22.drew (Hc.out.ext (Nat.le_refl _) E.drew) zE HSc.out).mono ?_
  rintro e w23 ⟨v23, rfl, O23, x23⟩
  have y23 : Ext w22 w23 := Ext.trans (by repeat (with_reducible (first | assumption | exact Ext.refl _ | apply Ext.alloc | apply Ext.drew | apply Ext.drewN))) x23
  have z23 := y23.size
  go_wp2_with fail
  refine hK _ _ (.inr (y23.same (Nat.le_refl _))) ?_
  clear hK K
  refine wpStages_cons ?_
  simp only [List.filterMap_nil]
  show wpQuiet _ _ _ _ [] _
  try simp only [Act.put, List.setIfInBounds_toArray, List.set_cons_succ, List.set_cons_zero]
  repeat (go_big_quiet_step (fail))
  refine wpQuiet_nil ⟨_, rfl, fun K hK => ?_⟩
  go_wp2_with fail
  refine (toGrid_any 0 W.heap.size _ g _ (Hg.out.ext (Nat.le_refl _) (E.trans y23)) (by omega) HSg.out).mono ?_
  rintro e w24 ⟨v24, rfl, O24, x24⟩
  have y24 : Ext w22 w24 := y23.trans x24
  have z24 := x24.size
  go_wp2_with fail
  refine hK _ _ (.inr (y24.same (Nat.le_refl _))) ?_
  clear hK K
  refine wpStages_cons ?_
  simp only [List.filterMap_nil]
  show wpQuiet _ _ _ _ [] _
  try simp only [Act.put, List.setIfInBounds_toArray, List.set_cons_succ, List.set_cons_zero]
  repeat (go_big_quiet_step (fail))
  refine wpQuiet_nil ⟨_, rfl, fun K hK => ?_⟩
  go_wp2_with fail
  refine (iShadeGrid_any _ _ _ _ _ _ c g _ HQ.out (O23.kp (x24.kp (by first | exact Nat.le_refl _ | omega))).R (by omega) O24.R (Nat.le_refl _) HSc.out).mono ?_
  rintro e w25 ⟨r25, q25, rfl, h25, la25, lb25, O25, Q25, x25⟩
  have y25 : Ext w22 w25 := y24.trans x25
  have z25 := x25.size
  go_wp2_with fail
  refine hK _ _ (.inr (y25.same (Nat.le_refl _))) ?_
  clear hK K
  refine wpStages_cons ?_
  simp only [List.filterMap_cons, List.filterMap_nil, List.getElem?_toArray, List.getElem?_cons_zero, List.getElem?_cons_succ]
  show wpQuiet _ _ _ _ [_, _, _, _, _, _] _
  try simp only [Act.put, List.setIfInBounds_toArray, List.set_cons_succ, List.set_cons_zero]
  repeat (go_big_quiet_step (fail))
  refine wpQuiet_nil ⟨_, rfl, fun K hK => ?_⟩
  go_wp2_with fail
  refine hK _ _ (.inr (y25.same (Nat.le_refl _))) ?_
  clear hK K
  refine wpStages_nil ?_
  replace BPc := hid (BPc.out.kp (y25.kp BPc.out.lt))
  replace BPg := hid (BPg.out.kp (y25.kp BPg.out.lt))
  replace SP0 := hid (SP0.out.kp (y25.kp (by first | omega | (simp; omega))))
  replace SP1 := hid (SP1.out.kp (y25.kp (by first | omega | (simp; omega))))
  replace OR0 := hid (OR0.out.kp (y25.kp (by first | omega | (simp; omega))))
  replace OR1 := hid (OR1.out.kp (y25.kp (by first | omega | (simp; omega))))
  replace E := E.trans y25
  have OT0 := hid O25
  have OT1 := hid Q25
  clear x23 y23 x24 y24 x25 y25 O23 O24 O25 Q25
  clear pc pc0 pc1 pg pg0 pg1 pg2 pg3 pg4 BPc BPg
  go_wp2_with fail
  refine (eqIntS_same _ _ _ _ _ _ X _ OT0.out.ints SP0.out).mono ?_
  rintro e w26 ⟨rfl, x26⟩
  have z26 := x26.size
  replace SP0 := hid (SP0.out.kp (x26.kp (by first | omega | (simp; omega))))
  replace SP1 := hid (SP1.out.kp (x26.kp (by first | omega | (simp; omega))))
  replace OR0 := hid (OR0.out.kp (x26.kp (by first | omega | (simp; omega))))
  replace OR1 := hid (OR1.out.kp (x26.kp (by first | omega | (simp; omega))))
  replace OT0 := hid (OT0.out.kp (x26.kp (by first | omega | (simp; omega))))
  replace OT1 := hid (OT1.out.kp (x26.kp (by first | omega | (simp; omega))))
  replace E := E.trans x26
  clear x26 
  go_wp2_with fail
  refine (eqIntS_same _ _ _ _ _ _ Y _ OT1.out.ints SP1.out).mono ?_
  rintro e w27 ⟨rfl, x27⟩
  have z27 := x27.size
  replace SP0 := hid (SP0.out.kp (x27.kp (by first | omega | (simp; omega))))
  replace SP1 := hid (SP1.out.kp (x27.kp (by first | omega | (simp; omega))))
  replace OR0 := hid (OR0.out.kp (x27.kp (by first | omega | (simp; omega))))
  replace OR1 := hid (OR1.out.kp (x27.kp (by first | omega | (simp; omega))))
  replace OT0 := hid (OT0.out.kp (x27.kp (by first | omega | (simp; omega))))
  replace OT1 := hid (OT1.out.kp (x27.kp (by first | omega | (simp; omega))))
  replace E := E.trans x27
  clear x27 
  clear OT0 OT1 SP0 SP1
  go_wp2_with fail
  refine (heldIntS_up _ _ _ X.length 1 _ OR0.out.ints (by omega) (by omega)).mono ?_
  rintro e w28 ⟨rfl, x28⟩
  have z28 := x28.size
  replace OR0 := hid (OR0.out.kp (x28.kp (by first | omega | (simp; omega))))
  replace OR1 := hid (OR1.out.kp (x28.kp (by first | omega | (simp; omega))))
  replace E := E.trans x28
  clear x28 
  go_wp2_with fail
  refine (heldIntS_up _ _ _ Y.length (1 + X.length) _ OR1.out.ints (by omega) (by omega)).mono ?_
  rintro e w29 ⟨rfl, x29⟩
  have z29 := x29.size
  replace OR0 := hid (OR0.out.kp (x29.kp (by first | omega | (simp; omega))))
  replace OR1 := hid (OR1.out.kp (x29.kp (by first | omega | (simp; omega))))
  replace E := E.trans x29
  clear x29 
  go_wp2_with fail
  go_ret
  exact ⟨rfl, E⟩
end Go.Proofs.YtdkohjeobjejeaaGreat
end

section
/- This text reads the laws' arguments off the data that the row speaks of: integers, slices of integers, textures. -/
namespace Go.Proofs.YtdkohjeobjejeaaGreat
open Go.ChangeShapes Go.WideShapes Go.ChangeAt Go.RowKit

theorem laidOut : laidOutB Tryz.prog = true := by kernel_rfl

section
variable {H : Type} {enc : TypeId × Value → H} {W : World} {base b0 : Nat} {sp : Nat → Bool} {held : Bool}

theorem wf_I64 {n : Int} (h : (Lit.int .i64 n).wf = true) : I64 n := by
  simp [Lit.wf, IntKind.min, IntKind.max, IntKind.signed, IntKind.bits] at h
  exact ⟨by omega, by omega⟩
set_option maxRecDepth 100000 in
theorem argInt {v : Value} {d : DataW H} {p : List MemPlace} (hv : Value.okWide Tryz.prog W .any b0 3 v) (h : DataW.Trod enc Tryz.prog W base sp held 3 v d p) : ∃ n, v = .int .i64 n ∧ I64 n := by
  obtain ⟨n, rfl, _, _, hw⟩ := open_int Tryz.underlying3 hv h
  exact ⟨n, rfl, wf_I64 hw⟩
set_option maxRecDepth 100000 in
/-- what lies behind the cell of a slice of integers -/
theorem cellInts {fuel : Nat} {c : Value} {y : DataW H × List MemPlace} (h : DataW.trod enc Tryz.prog W base sp held fuel 27 [c] = some y) : ∃ xs, Ints 0 W.heap.size W c xs := by
  rcases open_ints Tryz.underlying27 Tryz.underlying3 (by kernel_rfl) h with ⟨hcs, _⟩ | ⟨a, len, cap, zs, hcs, _, hl, hm, hz, _, hcell, hwz⟩
  · obtain rfl : c = .slice none 0 0 := by simpa using hcs
    exact ⟨[], none, 0, rfl, Nat.le_refl _, by unfold maxLen; omega, fun i x hx => by simp at hx⟩
  · obtain rfl : c = .slice (some a) len cap := by simpa using hcs
    have hlen : (zs.take len).length = len := by
      rw [List.length_take, hz]
      split <;> omega
    refine ⟨zs.take len, some a, cap, by rw [hlen], by omega, hm, fun i x hx => ?_⟩
    have hi : i < len := by have := (List.getElem?_eq_some_iff.1 hx).1; omega
    rw [List.getElem?_take, if_pos hi] at hx
    have hzi := (List.getElem?_eq_some_iff.1 hx).1
    have hxx : zs.getD i 0 = x := by simp [List.getD, hx]
    obtain ⟨b, o, s⟩ := a
    obtain rfl : s = none := by
      cases s with
      | none => rfl
      | some s =>
        have h0 := hcell 0 (by omega)
        simp only [World.cell?, Addr.add, if_true] at h0
        split at h0 <;> simp at h0
    have hc := hcell i hzi
    rw [hxx] at hc
    have ha : (⟨b, o, none⟩ : Addr).add i = ⟨b, o + i, none⟩ := by
      unfold Addr.add
      split
      · rename_i e; subst e; rfl
      · rfl
    rw [ha] at hc
    refine ⟨wf_I64 (hwz x (List.mem_of_getElem? hx)), b, o, rfl, Nat.zero_le _, ?_, hc⟩
    simp only [World.cell?] at hc
    split at hc
    · rename_i e; exact (Array.getElem?_eq_some_iff.1 e).1
    · cases hc
set_option maxRecDepth 100000 in
theorem argTex {v : Value} {d : DataW H} {p : List MemPlace} (hv : Value.okWide Tryz.prog W .any b0 29 v) (h : DataW.Trod enc Tryz.prog W base sp held 29 v d p) :
    ∃ t, TexR 0 W.heap.size W v t := by
  obtain ⟨v0, v1, y0, y1, n, rfl, rfl, rfl, h0, h1⟩ := Go.Joins.open_agg2 Tryz.underlying29 (by kernel_rfl) (by kernel_rfl) hv h
  obtain ⟨k, e0, _, hw⟩ := DataW.trod_int Tryz.underlying3 h0
  obtain rfl : v0 = .int .i64 k := by simpa using e0
  obtain ⟨xs, hx⟩ := cellInts h1
  exact ⟨⟨k, xs⟩, _, rfl, wf_I64 hw, hx⟩
end

end Go.Proofs.YtdkohjeobjejeaaGreat
end

section
/- This text reads the cells of nested structs and arrays off the data that a row speaks of: which type each cell has, and what lies behind it. -/
namespace Go.Proofs.YtdkohjeobjejeaaGreat
open Go.ChangeShapes Go.WideShapes Go.ChangeAt Go.RowKit

/-- the type of cell i of a value of type t, through structs and arrays -/
def leafAt (P : Program) : Nat → TypeId → Nat → Option TypeId
  | 0, _, _ => none
  | d + 1, t, i =>
    match P.underlying t with
    | some (.struct fs) =>
      match fs.toList.find? (fun f => decide (f.offset ≤ i) && decide (i < f.offset + P.cellsOf f.type)) with
      | some f =>
        match leafAt P d f.type (i - f.offset) with
        | some u => if (i - f.offset) + P.cellsOf u ≤ P.cellsOf f.type then some u else none
        | none => none
      | none => none
    | some (.array n e) =>
      if i / P.cellsOf e < n then
        match leafAt P d e (i % P.cellsOf e) with
        | some u => if (i % P.cellsOf e) + P.cellsOf u ≤ P.cellsOf e then some u else none
        | none => none
      else none
    | some _ => if i = 0 then some t else none
    | none => none

section
variable {H : Type} {enc : TypeId × Value → H} {P : Program} {W : World} {base : Nat} {sp : Nat → Bool} {held : Bool}

theorem take_drop_in {α : Type} (l : List α) (o k i c : Nat) (h1 : o ≤ i) (h2 : i - o + c ≤ k) : ((((l.drop o).take k).drop (i - o)).take c) = (l.drop i).take c := by
  rw [List.drop_take, List.take_take, List.drop_drop, Nat.min_eq_left (by omega)]
  congr 2
  omega

theorem trod_leaf (d : Nat) : ∀ {t u : TypeId} {i fuel : Nat} {cs : List Value} {x : DataW H × List MemPlace}, leafAt P d t i = some u → DataW.trod enc P W base sp held fuel t cs = some x →
    (i = 0 ∧ t = u) ∨ ∃ (m : Nat) (y : DataW H × List MemPlace), DataW.trod enc P W base sp held m u ((cs.drop i).take (P.cellsOf u)) = some y := by
  induction d with
  | zero => intro t u i fuel cs x h; simp [leafAt] at h
  | succ d ih =>
    intro t u i fuel cs x h hx
    unfold leafAt at h
    split at h
    · rename_i fs hfs
      split at h
      · rename_i f hf
        have hp := List.find?_some hf
        simp only [Bool.and_eq_true, decide_eq_true_eq] at hp
        have hm := List.mem_of_find?_eq_some hf
        split at h
        · rename_i u' hu
          split at h
          · rename_i hfit
            simp only [Option.some.injEq] at h
            subst h
            obtain ⟨xs, n, _, _, hl, hlen, hg⟩ := DataW.trod_struct hfs hx
            obtain ⟨j, hj⟩ := List.getElem?_of_mem hm
            have hj' : fs[j]? = some f := by simpa using hj
            have h1 := hg j f hj'
            have hjl : j < xs.length := by rw [hlen]; exact (Array.getElem?_eq_some_iff.1 hj').1
            rw [List.getElem?_eq_getElem hjl] at h1
            refine .inr ?_
            rcases ih hu h1 with ⟨h2, rfl⟩ | ⟨m, y, hy⟩
            · refine ⟨n, xs[j], ?_⟩
              have : f.offset = i := by omega
              rw [← this]
              exact h1
            · rw [take_drop_in _ _ _ _ _ hp.1 hfit] at hy
              exact ⟨m, y, hy⟩
          · cases h
        · cases h
      · cases h
    · rename_i n e hfs
      split at h
      · rename_i hn
        split at h
        · rename_i u' hu
          split at h
          · rename_i hfit
            simp only [Option.some.injEq] at h
            subst h
            obtain ⟨xs, m', _, _, hl, hlen, hg⟩ := DataW.trod_array hfs hx
            have h1 := hg _ hn
            rw [List.getElem?_eq_getElem (by omega)] at h1
            have hdm := Nat.div_add_mod i (P.cellsOf e)
            rw [Nat.mul_comm] at hdm
            refine .inr ?_
            rcases ih hu h1 with ⟨h2, rfl⟩ | ⟨m, y, hy⟩
            · refine ⟨m', xs[i / P.cellsOf e]'(by omega), ?_⟩
              have : i / P.cellsOf e * P.cellsOf e = i := by omega
              rw [this] at h1
              exact h1
            · have h3 : i % P.cellsOf e = i - i / P.cellsOf e * P.cellsOf e := by omega
              rw [h3] at hy hfit
              rw [take_drop_in _ _ _ _ _ (by omega) hfit] at hy
              exact ⟨m, y, hy⟩
          · cases h
        · cases h
      · cases h
    · split at h
      · rename_i hi
        simp only [Option.some.injEq] at h
        exact .inl ⟨hi, h⟩
      · cases h
    · cases h
/-- all cells of the type are integers of 64 bits -/
def onlyInts (P : Program) (t : TypeId) (k : Nat) (ti : TypeId) : Bool := decide (P.cellsOf t = k) && decide (P.cellsOf ti = 1) && decide (t ≠ ti) && (List.range k).all fun i => decide (leafAt P 6 t i = some ti)

theorem trod_ints {t ti : TypeId} {k fuel : Nat} {cs : List Value} {x : DataW H × List MemPlace} (hi : P.underlying ti = some (.int .i64)) (ho : onlyInts P t k ti = true) (h : DataW.trod enc P W base sp held fuel t cs = some x) :
    ∀ i, i < k → ∃ n, cs[i]? = some (.int .i64 n) ∧ I64 n := by
  intro i hik
  simp only [onlyInts, Bool.and_eq_true, decide_eq_true_eq, List.all_eq_true, List.mem_range] at ho
  obtain ⟨⟨⟨h1, h2⟩, h3⟩, h4⟩ := ho
  rcases trod_leaf 6 (h4 i hik) h with ⟨_, e⟩ | ⟨m, y, hy⟩
  · exact absurd e h3
  · rw [h2] at hy
    obtain ⟨n, e0, _, hw⟩ := DataW.trod_int hi hy
    refine ⟨n, ?_, ?_⟩
    · have : ((cs.drop i).take 1)[0]? = some (.int .i64 n) := by rw [e0]; rfl
      rw [List.getElem?_take, if_pos (by decide), List.getElem?_drop] at this
      exact this
    · simp [Lit.wf, IntKind.min, IntKind.max, IntKind.signed, IntKind.bits] at hw
      exact ⟨by omega, by omega⟩

theorem cellFlats {t e ti : TypeId} {k fuel : Nat} {c : Value} {y : DataW H × List MemPlace} (ht : P.underlying t = some (.slice e)) (hi : P.underlying ti = some (.int .i64)) (ho : onlyInts P e k ti = true) (hk : 0 < k)
    (h : DataW.trod enc P W base sp held fuel t [c] = some y) : ∃ n f, Flats k 0 W.heap.size W c n f := by
  have hC : P.cellsOf e = k := by
    simp only [onlyInts, Bool.and_eq_true, decide_eq_true_eq] at ho
    exact ho.1.1.1
  rcases Go.Deep.open_slice ht h with ⟨h0, _⟩ | ⟨a, len, cap, m, n, D, Pl, hcs, hb, hl, hm, hmm, hx, hel⟩
  · obtain rfl : c = .slice none 0 0 := by simpa using h0
    exact ⟨0, fun _ => 0, none, 0, rfl, Nat.le_refl _, by unfold maxLen; omega, fun i hx => by omega⟩
  · obtain rfl : c = .slice (some a) len cap := by simpa using hcs
    have hlm : len ≤ m := by rw [hmm]; split <;> omega
    rw [hC] at hel
    have key : ∀ i, i < len * k → ∃ x, I64 x ∧ W.cell? (a.add (i / k * k) |>.add (i % k)) = some (.int .i64 x) := by
      intro i hil
      have h1 : i / k < len := (Nat.div_lt_iff_lt_mul hk).2 hil
      obtain ⟨cs', hc, ht'⟩ := hel (i / k) (by omega)
      obtain ⟨x, hx1, hx2⟩ := trod_ints hi ho ht' (i % k) (Nat.mod_lt _ hk)
      obtain ⟨_, hcl, hat⟩ := World.cells?_some hc
      exact ⟨x, hx2, (hat _ (Nat.mod_lt _ hk)).trans hx1⟩
    have key2 : ∀ i, ∃ x, i < len * k → I64 x ∧ W.cell? (a.add i) = some (.int .i64 x) := by
      intro i
      by_cases hil : i < len * k
      · obtain ⟨x, h1, h2⟩ := key i hil
        rw [Go.Deep.add_add] at h2
        have : i / k * k + i % k = i := by have := Nat.div_add_mod i k; rw [Nat.mul_comm] at this; omega
        rw [this] at h2
        exact ⟨x, fun _ => ⟨h1, h2⟩⟩
      · exact ⟨0, fun h => absurd h hil⟩
    obtain ⟨f, hf⟩ := Classical.axiomOfChoice key2
    refine ⟨len, f, some a, cap, rfl, hl, hm, fun i hil => ⟨(hf i hil).1, ?_⟩⟩
    have h0 := (hf 0 (by omega)).2
    obtain ⟨b, o, s⟩ := a
    obtain rfl : s = none := by
      cases s with
      | none => rfl
      | some s =>
        simp only [World.cell?, Addr.add, if_true] at h0
        split at h0 <;> simp at h0
    have hc := (hf i hil).2
    have ha : (⟨b, o, none⟩ : Addr).add i = ⟨b, o + i, none⟩ := by
      unfold Addr.add
      split
      · rename_i e; subst e; rfl
      · rfl
    rw [ha] at hc
    refine ⟨b, o, rfl, Nat.zero_le _, ?_, hc⟩
    simp only [World.cell?] at hc
    split at hc
    · rename_i e; exact (Array.getElem?_eq_some_iff.1 e).1
    · cases hc

/-- a struct of integers by value -/
theorem argAgg {t ti : TypeId} {fs : Array Field} {k b0 : Nat} {v : Value} {d : DataW H} {p : List MemPlace} (ht : P.underlying t = some (.struct fs)) (hi : P.underlying ti = some (.int .i64)) (ho : onlyInts P t k ti = true)
    (hv : Value.okWide P W .any b0 t v) (h : DataW.Trod enc P W base sp held t v d p) : ∃ f : Nat → Int, v = .agg ((Array.range k).map fun i => .int .i64 (f i)) ∧ ∀ i, i < k → I64 (f i) := by
  obtain ⟨cs, rfl, hsz⟩ := okWide_struct ht hv
  obtain ⟨fuel, hf⟩ := h
  have hC : P.cellsOf t = k := by
    simp only [onlyInts, Bool.and_eq_true, decide_eq_true_eq] at ho
    exact ho.1.1.1
  have key : ∀ i, ∃ n, i < k → cs[i]? = some (.int .i64 n) ∧ I64 n := by
    intro i
    by_cases hik : i < k
    · obtain ⟨n, h1, h2⟩ := trod_ints hi ho hf i hik
      exact ⟨n, fun _ => ⟨by simpa [Value.cells] using h1, h2⟩⟩
    · exact ⟨0, fun h => absurd h hik⟩
  obtain ⟨f, hf⟩ := Classical.axiomOfChoice key
  refine ⟨f, ?_, fun i hik => (hf i hik).2⟩
  congr 1
  apply Array.ext_getElem?
  intro i
  by_cases hik : i < k
  · rw [(hf i hik).1]
    simp [hik]
  · simp [hik]
    omega
end
end Go.Proofs.YtdkohjeobjejeaaGreat
end

section
/- This text reads the laws' arguments that are codes or grids off the data that the row speaks of. -/
namespace Go.Proofs.YtdkohjeobjejeaaGreat
open Go.ChangeShapes Go.WideShapes Go.ChangeAt Go.RowKit

section
variable {H : Type} {enc : TypeId × Value → H} {P : Program} {W : World} {base b0 : Nat} {sp : Nat → Bool} {held : Bool}

/-- cell i of a value, whose type has one cell -/
theorem trod_leaf1 {t u : TypeId} {i fuel : Nat} {cs : List Value} {x : DataW H × List MemPlace} (hl : (leafAt P 6 t i == some u && decide (t ≠ u) && decide (P.cellsOf u = 1)) = true) (h : DataW.trod enc P W base sp held fuel t cs = some x) (hi : i < cs.length) :
    ∃ c m y, cs[i]? = some c ∧ DataW.trod enc P W base sp held m u [c] = some y := by
  simp only [Bool.and_eq_true, beq_iff_eq, decide_eq_true_eq] at hl
  obtain ⟨⟨h1, h2⟩, h3⟩ := hl
  rcases trod_leaf 6 h1 h with ⟨_, e⟩ | ⟨m, y, hy⟩
  · exact absurd e h2
  · rw [h3, List.drop_eq_getElem_cons hi] at hy
    exact ⟨cs[i], m, y, by simp [hi], hy⟩
theorem cell_int {t : TypeId} {fuel : Nat} {c : Value} {y : DataW H × List MemPlace} (ht : P.underlying t = some (.int .i64)) (h : DataW.trod enc P W base sp held fuel t [c] = some y) : ∃ n, c = .int .i64 n ∧ I64 n := by
  obtain ⟨k, e0, _, hw⟩ := DataW.trod_int ht h
  exact ⟨k, by simpa using e0, wf_I64 hw⟩
theorem cell_str {t : TypeId} {fuel : Nat} {c : Value} {y : DataW H × List MemPlace} (ht : P.underlying t = some .string) (h : DataW.trod enc P W base sp held fuel t [c] = some y) : ∃ s, c = .string s ∧ s.size ≤ maxLen := by
  obtain ⟨s, e0, _, hw⟩ := DataW.trod_string ht h
  exact ⟨s, by simpa using e0, hw⟩
end

section
variable {H : Type} {enc : TypeId × Value → H} {W : World} {base b0 : Nat} {sp : Nat → Bool} {held : Bool}

/-- what lies behind the cell of a slice of strings -/
theorem cellStrs {fuel : Nat} {c : Value} {y : DataW H × List MemPlace} (h : DataW.trod enc Tryz.prog W base sp held fuel 23 [c] = some y) : ∃ xs, Strs 0 W.heap.size W c xs ∧ ∀ s ∈ xs, s.size ≤ maxLen := by
  rcases Go.Deep.open_strs Tryz.underlying23 Tryz.underlying9 (by kernel_rfl) h with ⟨hcs, _⟩ | ⟨a, len, cap, m, S, hcs, _, hl, hm, hmm, _, hcell⟩
  · obtain rfl : c = .slice none 0 0 := by simpa using hcs
    exact ⟨[], ⟨none, 0, rfl, Nat.le_refl _, by unfold maxLen; omega, fun i x hx => by simp at hx⟩, fun s hs => by cases hs⟩
  · obtain rfl : c = .slice (some a) len cap := by simpa using hcs
    have hlm : len ≤ m := by rw [hmm]; split <;> omega
    refine ⟨(List.range len).map S, ⟨some a, cap, by simp, by simpa using hl, hm, fun i x hx => ?_⟩, fun s hs => ?_⟩
    · have hi : i < len := by have := (List.getElem?_eq_some_iff.1 hx).1; simpa using this
      obtain rfl : S i = x := by simpa [hi] using hx
      obtain ⟨b, o, s⟩ := a
      have hc := (hcell i (by omega)).1
      obtain rfl : s = none := by
        cases s with
        | none => rfl
        | some s =>
          have h0 := (hcell 0 (by omega)).1
          simp only [World.cell?, Addr.add, if_true] at h0
          split at h0 <;> simp at h0
      have ha : (⟨b, o, none⟩ : Addr).add i = ⟨b, o + i, none⟩ := by
        unfold Addr.add
        split
        · rename_i e; subst e; rfl
        · rfl
      rw [ha] at hc
      refine ⟨b, o, rfl, Nat.zero_le _, ?_, hc⟩
      simp only [World.cell?] at hc
      split at hc
      · rename_i e; exact (Array.getElem?_eq_some_iff.1 e).1
      · cases hc
    · obtain ⟨i, hi, rfl⟩ := List.mem_map.1 hs
      exact (hcell i (by have := List.mem_range.1 hi; omega)).2

/-- what lies behind the cell of a slice of instructions -/
theorem cellInss {fuel : Nat} {c : Value} {y : DataW H × List MemPlace} (h : DataW.trod enc Tryz.prog W base sp held fuel 22 [c] = some y) : ∃ xs, Inss 0 W.heap.size W c xs ∧ ∀ x ∈ xs, x.name.size ≤ maxLen := by
  rcases Go.Deep.open_slice Tryz.underlying22 h with ⟨hcs, _⟩ | ⟨a, len, cap, m, n, D, Pl, hcs, _, hl, hm, hmm, _, hel⟩
  · obtain rfl : c = .slice none 0 0 := by simpa using hcs
    exact ⟨[], ⟨none, 0, rfl, Nat.le_refl _, by unfold maxLen; omega, fun i x hx => by simp at hx⟩, fun s hs => by cases hs⟩
  · obtain rfl : c = .slice (some a) len cap := by simpa using hcs
    have hlm : len ≤ m := by rw [hmm]; split <;> omega
    have hC : Tryz.prog.cellsOf 90 = 3 := by kernel_rfl
    rw [hC] at hel
    have key : ∀ i, ∃ x : Ins, i < len → (I64 x.op ∧ I64 x.num ∧ x.name.size ≤ maxLen) ∧ W.cell? (a.add (i * 3)) = some (.int .i64 x.op) ∧ W.cell? (a.add (i * 3 + 1)) = some (.string x.name) ∧ W.cell? (a.add (i * 3 + 2)) = some (.int .i64 x.num) := by
      intro i
      by_cases hil : i < len
      · obtain ⟨cs', hc, ht'⟩ := hel i (by omega)
        obtain ⟨_, hcl, hat⟩ := World.cells?_some hc
        obtain ⟨c0, m0, y0, e0, t0⟩ := trod_leaf1 (i := 0) (u := 3) (by kernel_rfl) ht' (by omega)
        obtain ⟨c1, m1, y1, e1, t1⟩ := trod_leaf1 (i := 1) (u := 9) (by kernel_rfl) ht' (by omega)
        obtain ⟨c2, m2, y2, e2, t2⟩ := trod_leaf1 (i := 2) (u := 3) (by kernel_rfl) ht' (by omega)
        obtain ⟨n0, rfl, i0⟩ := cell_int Tryz.underlying3 t0
        obtain ⟨s, rfl, i1⟩ := cell_str Tryz.underlying9 t1
        obtain ⟨n2, rfl, i2⟩ := cell_int Tryz.underlying3 t2
        refine ⟨⟨n0, s, n2⟩, fun _ => ⟨⟨i0, i2, i1⟩, ?_, ?_, ?_⟩⟩
        · have := hat 0 (by omega); rw [Go.Deep.add_add] at this; exact this.trans e0
        · have := hat 1 (by omega); rw [Go.Deep.add_add] at this; exact this.trans e1
        · have := hat 2 (by omega); rw [Go.Deep.add_add] at this; exact this.trans e2
      · exact ⟨⟨0, ⟨#[]⟩, 0⟩, fun h => absurd h hil⟩
    obtain ⟨f, hf⟩ := Classical.axiomOfChoice key
    refine ⟨(List.range len).map f, ⟨some a, cap, by simp, by simpa using hl, hm, fun i x hx => ?_⟩, fun s hs => ?_⟩
    · have hi : i < len := by have := (List.getElem?_eq_some_iff.1 hx).1; simpa using this
      obtain rfl : f i = x := by simpa [hi] using hx
      obtain ⟨⟨i0, i2, _⟩, g0, g1, g2⟩ := hf i hi
      refine ⟨⟨i0, i2⟩, ?_⟩
      have h0 := (hf 0 (by omega)).2.1
      clear hf hel key
      obtain ⟨b, o, s⟩ := a
      obtain rfl : s = none := by
        cases s with
        | none => rfl
        | some s =>
          simp only [World.cell?, Addr.add, Nat.zero_mul, if_true] at h0
          split at h0 <;> simp at h0
      have ha : ∀ k, (⟨b, o, none⟩ : Addr).add k = ⟨b, o + k, none⟩ := by
        intro k
        unfold Addr.add
        split
        · rename_i e; subst e; rfl
        · rfl
      rw [ha] at g0 g1 g2
      refine ⟨b, o, rfl, Nat.zero_le _, ?_, g0, by rw [Nat.add_assoc]; exact g1, by rw [Nat.add_assoc]; exact g2⟩
      simp only [World.cell?] at g0
      split at g0
      · rename_i e; exact (Array.getElem?_eq_some_iff.1 e).1
      · cases g0
    · obtain ⟨i, hi, rfl⟩ := List.mem_map.1 hs
      exact (hf i (List.mem_range.1 hi)).1.2.2

set_option maxRecDepth 100000 in
theorem argCode {v : Value} {d : DataW H} {p : List MemPlace} (hv : Value.okWide Tryz.prog W .any b0 25 v) (h : DataW.Trod enc Tryz.prog W base sp held 25 v d p) :
    ∃ c : Cod, c.R 0 W.heap.size W v ∧ c.bd := by
  obtain ⟨v0, v1, y0, y1, n, rfl, rfl, rfl, h0, h1⟩ := Go.Joins.open_agg2 Tryz.underlying25 (by kernel_rfl) (by kernel_rfl) hv h
  obtain ⟨xs, hx, bx⟩ := cellInss h0
  obtain ⟨ls, hl, bl⟩ := cellStrs h1
  exact ⟨⟨xs, ls⟩, ⟨_, _, rfl, hx, hl⟩, bx, bl⟩

set_option maxRecDepth 100000 in
theorem argGrid {v : Value} {d : DataW H} {p : List MemPlace} (hv : Value.okWide Tryz.prog W .any b0 31 v) (h : DataW.Trod enc Tryz.prog W base sp held 31 v d p) :
    ∃ g : Grd, g.R 0 W.heap.size W v := by
  obtain ⟨cs, rfl, hsz⟩ := okWide_struct Tryz.underlying31 hv
  have hC : Tryz.prog.cellsOf 31 = 5 := by kernel_rfl
  rw [hC] at hsz
  obtain ⟨fuel, hf⟩ := h
  have hlen : (Value.agg cs).cells.toList.length = 5 := by simp [Value.cells, hsz]
  obtain ⟨c0, m0, y0, e0, t0⟩ := trod_leaf1 (i := 0) (u := 3) (by kernel_rfl) hf (by omega)
  obtain ⟨c1, m1, y1, e1, t1⟩ := trod_leaf1 (i := 1) (u := 26) (by kernel_rfl) hf (by omega)
  obtain ⟨c2, m2, y2, e2, t2⟩ := trod_leaf1 (i := 2) (u := 3) (by kernel_rfl) hf (by omega)
  obtain ⟨c3, m3, y3, e3, t3⟩ := trod_leaf1 (i := 3) (u := 3) (by kernel_rfl) hf (by omega)
  obtain ⟨c4, m4, y4, e4, t4⟩ := trod_leaf1 (i := 4) (u := 27) (by kernel_rfl) hf (by omega)
  obtain ⟨n0, rfl, i0⟩ := cell_int Tryz.underlying3 t0
  obtain ⟨n2, rfl, i2⟩ := cell_int Tryz.underlying3 t2
  obtain ⟨n3, rfl, i3⟩ := cell_int Tryz.underlying3 t3
  obtain ⟨m, f, hp⟩ := cellFlats (k := 5) (e := 105) Tryz.underlying26 Tryz.underlying3 (by kernel_rfl) (by omega) t1
  obtain ⟨px, hx⟩ := cellInts t4
  have e : cs = #[.int .i64 n0, c1, .int .i64 n2, .int .i64 n3, c4] := by
    apply Array.ext_getElem?
    intro i
    simp only [Value.cells, Array.getElem?_toList] at e0 e1 e2 e3 e4
    match i with
    | 0 => simpa using e0
    | 1 => simpa using e1
    | 2 => simpa using e2
    | 3 => simpa using e3
    | 4 => simpa using e4
    | i + 5 => simp [hsz]
  subst e
  exact ⟨⟨n0, m, f, n2, ⟨n3, px⟩⟩, c1, c4, rfl, i0, i2, i3, hp, hx⟩
end
end Go.Proofs.YtdkohjeobjejeaaGreat
end

section
/- This text lifts the walk of FnExactShadeGrid to the given statement. -/
namespace Go.Proofs.YtdkohjeobjejeaaGreat.fnExactShadeGrid
open Go.ChangeShapes Go.WideShapes Go.ChangeAt Go.RowKit
set_option linter.unusedVariables false

theorem own : ownKnob Tryz.prog.godebug = none := by kernel_rfl
theorem laid : laidOutB Tryz.prog = true := by kernel_rfl

set_option maxRecDepth 100000 in
theorem lifted (os : Os) (started : os.Started) (H : Type) (enc : TypeId × Value → H) :
    ReturnsInHanded {} Tryz.checked os 4 .any (Rows.fnExactShadeGridSpec.pre6 enc Tryz.prog Tryz.f4 Rows.fnExactShadeGridRow.domain false) (Rows.fnExactShadeGridSpec.post enc Tryz.prog Tryz.f4 false true false false) := by
  refine returnsInHanded_of_change (C := Tryz.checked) own started (by kernel_rfl) Tryz.func4
    (ChangeSpec.witness6 (enc := enc) (C := Tryz.checked) false ⟨#[], #[.agg #[.slice none 0 0, .slice none 0 0], .agg #[.int .i64 0, .slice none 0 0, .int .i64 0, .int .i64 0, .slice none 0 0]], []⟩ 8 (by kernel_rfl) (by kernel_rfl) (by kernel_rfl) (by kernel_rfl)) ?_
  intro W base args ds gs before hval0 hW hcnd _
  have hval : ∀ (j : Nat) t v, Tryz.f4.params[j]? = some t → args[j]? = some v → Value.okWide Tryz.prog W .any base t v := hval0
  have hW' := hW
  obtain ⟨p, q, hA0, hV, rfl, hfz, hnd⟩ := hW
  have hA : DataW.TrodAll enc Tryz.prog W 0 (fun _ => true) true Tryz.f4.params.toList args.toList ds p := hA0
  rw [Tryz.params4] at hA hval
  obtain ⟨v0, vs0, d0, ds0, p0, q0, hargs, rfl, rfl, h0, r0⟩ := trodAll_cons hA
  obtain ⟨v1, vs1, d1, ds1, p1, q1, rfl, rfl, rfl, h1, r1⟩ := trodAll_cons r0
  obtain ⟨rfl, rfl, rfl⟩ := trodAll_nil r1
  obtain rfl : args = #[v0, v1] := by cases args; simp_all
  obtain ⟨rfl, rfl⟩ := trodVars_none hV
  have k0 := h0
  have lt0 : ∀ x ∈ p0, x.block < W.heap.size := by obtain ⟨m, hm⟩ := k0; exact DataW.trod_lt m _ _ _ hm
  obtain ⟨x0, w0, b0⟩ := argCode (hval 0 25 v0 rfl rfl) h0
  have k1 := h1
  have lt1 : ∀ x ∈ p1, x.block < W.heap.size := by obtain ⟨m, hm⟩ := k1; exact DataW.trod_lt m _ _ _ hm
  obtain ⟨x1, w1⟩ := argGrid (hval 1 31 v1 rfl rfl) h1
  clear hA0 hval0
  refine (lawShade v0 x0 v1 x1 W w0 b0 w1).mono fun e W' ⟨he, bel0⟩ => ?_
  have bel : Below W.heap.size W W' := bel0
  subst he
  exact ⟨_, rfl, _, _, _, [], _, [], hW', trodAll_mk1 (shut_bool Tryz.underlying4 _), (trodAll_cons_mk (Below.trod laid (by kernel_rfl) (of_decide_eq_true (by kernel_rfl)) k0 bel lt0) (trodAll_cons_mk (Below.trod laid (by kernel_rfl) (of_decide_eq_true (by kernel_rfl)) k1 bel lt1) trodAll_mk0)), rfl, bel.frame _, fun h => by cases h⟩

theorem over : Rows.fnExactShadeGridRow.holds Tryz.pinned (OpenSpec.ofChange Rows.fnExactShadeGridSpec) :=
  OpenClaim.holds_of_wide 4 Tryz.f4 rfl rfl rfl rfl rfl rfl rfl ⟨rfl, rfl, rfl, rfl, rfl⟩ rfl rfl rfl rfl rfl (by kernel_rfl) Tryz.func4 (by kernel_rfl)
    (of_decide_eq_true (by kernel_rfl)) (by unfold Func.isWrapper; first | (rw [if_pos (by decide +kernel)]; kernel_rfl) | (rw [if_neg (by decide +kernel)]; exact ⟨rfl, rfl⟩))
    (fun os started H enc _ => lifted os started H enc)

theorem proved : Rows.FnExactShadeGridSaid := over
end Go.Proofs.YtdkohjeobjejeaaGreat.fnExactShadeGrid
end
