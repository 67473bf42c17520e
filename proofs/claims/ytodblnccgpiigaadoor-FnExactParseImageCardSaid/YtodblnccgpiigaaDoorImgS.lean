/- This text proves what the reference's ParseImage hands back. -/
import Derived.Test.YtodblnccgpiigaaDoorImgW
namespace Go.Proofs.YtodblnccgpiigaaDoor
open Go.RowKit

set_option maxRecDepth 10000 in
set_option maxHeartbeats 4000000 in
theorem sParseImage_any (t : ByteArray) (w : World) (hs : t.size ≤ 10000000) :
    Calls Tryd.prog 14 #[.string t] w fun e w' => ∃ v, e = .returned (.tuple #[v, .bool (resS t).2]) ∧ (resS t).1.Own w.heap.size w' v ∧ Ext w w' := by
  obtain ⟨L, hL⟩ : ∃ L, linesB t = L := ⟨_, rfl⟩
  have hwt := wt_lines t
  have hsz := linesB_size t
  have hln := linesB_length t
  have hsp := fun (w : World) => sSplitLines_any t w (by omega)
  rw [hL] at hwt hsz hln hsp
  have HS := hid hsp
  have HL := hid hL
  have HZ := hid hsz
  clear hL hsp hsz
  by_cases h4 : 4 ≤ L.length
  · obtain ⟨l1, hl1⟩ : ∃ x, L.getD 1 ⟨#[]⟩ = x := ⟨_, rfl⟩
    have hl1' : L[1]? = some l1 := by rw [← hl1, List.getD_eq_getElem?_getD, List.getElem?_eq_getElem (by omega), Option.getD_some]
    have hz1 := HZ.out l1 (List.mem_of_getElem? hl1')
    obtain ⟨M, hM⟩ : ∃ M, L.drop 3 = M := ⟨_, rfl⟩
    obtain ⟨n, hn⟩ : ∃ n, L.length - 3 = n := ⟨_, rfl⟩
    have hMn : M.length = n := by rw [← hM, List.length_drop]; omega
    have hMw : wt M ≤ t.size + 1 := by rw [← hM]; exact Nat.le_trans (wt_drop _ _) hwt
    have hMz : ∀ x ∈ M, x.size ≤ t.size := fun x hx => HZ.out x (by rw [← hM] at hx; exact List.mem_of_mem_drop hx)
    have hLn : L.length = n + 3 := by omega
    have HLn := hid hLn
    have HMn := hid hMn
    have HMz := hid hMz
    have HMM := hid hM
    have HL1 := hid hl1
    have Hl1 := hid hl1'
    have h4' : 4 ≤ n + 3 := by omega
    have Hn := hid hn
    clear hLn hMn hMz hl1' hwt hln hM hl1 hn h4
    go_enter Tryd.func14, Tryd.ntmps14
    go_wp2_with fail
    refine (HS.out _).mono ?_
    rintro e w1 ⟨v, rfl, ho, x1⟩
    obtain ⟨a, c, rfl, HA⟩ := ho.open
    obtain ⟨b, off, rfl, hb1, hb2, -⟩ := HA.at (k := 1) (by rw [HLn.out]; omega)
    obtain ⟨_, _, e1, -, -, hc1⟩ := HA.cell 1 l1 Hl1.out
    simp only [Option.some.injEq, Addr.mk.injEq, and_true] at e1
    obtain ⟨rfl, rfl⟩ := e1
    have B1 := (Blk.new w 25 [.int .i64 0, .int .i64 0, .slice none 0 0]).ext x1
    have z1 := B1.lt
    have k1 := HA.le
    have k2 := HA.cap
    rw [HLn.out] at k1 ⊢
    replace HA := hid HA
    have HM := hid (Strs.drop HA.out 3 (by rw [HLn.out]; omega) Hn.out.symm)
    rw [HMM.out] at HM
    go_wp2_with fail
    refine (sSplitAny_any l1 ⟨#[32]⟩ _ (by omega) (by decide)).mono ?_
    rintro e w2 ⟨v2, rfl, ho2, x2⟩
    obtain ⟨P, hP⟩ : ∃ P, splitB (inSep ⟨#[32]⟩) l1 = P := ⟨_, rfl⟩
    have hP1 := splitB_ne (inSep ⟨#[32]⟩) l1
    have hPz := splitB_size (inSep ⟨#[32]⟩) l1
    have hPl := splitB_length (inSep ⟨#[32]⟩) l1
    rw [hP] at ho2 hP1 hPz hPl
    obtain ⟨p, hp⟩ : ∃ p, P.length - 1 = p := ⟨_, rfl⟩
    have hPn : P.length = p + 1 := by omega
    obtain ⟨a2, c2, rfl, HA2⟩ := ho2.strs.open
    obtain ⟨b2, off2, rfl, hb21, hb22, hq0⟩ := HA2.at (k := 0) (by omega)
    rw [World.size_alloc] at hb21
    obtain ⟨_, _, e2, -, -, hq1⟩ := HA2.at (k := p) (by omega)
    simp only [Option.some.injEq, Addr.mk.injEq, and_true] at e2
    obtain ⟨rfl, rfl⟩ := e2
    obtain ⟨y0, hy0⟩ : ∃ y, P[0] = y := ⟨_, rfl⟩
    obtain ⟨y1, hy1⟩ : ∃ y, P[p] = y := ⟨_, rfl⟩
    have hs0 : y0.size ≤ 10000000 := by rw [← hy0]; have := hPz _ (List.getElem_mem (show 0 < P.length by omega)); omega
    have hs1 : y1.size ≤ 10000000 := by rw [← hy1]; have := hPz _ (List.getElem_mem (show p < P.length by omega)); omega
    rw [hy0, Nat.add_zero] at hq0
    rw [hy1] at hq1
    have m1 := HA2.le
    have m2 := HA2.cap
    rw [hPn] at m1 ⊢
    have hp8 : p ≤ 100000000 := by omega
    have HW : (picS t).w = (parseO y0).getD 0 := by
      show (numsOf ((linesB t).getD 1 ⟨#[]⟩)).head?.getD 0 = _
      rw [HL.out, HL1.out]
      unfold numsOf
      rw [hP, List.head?_map, List.head?_eq_getElem?, List.getElem?_eq_getElem (by omega), hy0]
      rfl
    have HH : (picS t).h = (parseO y1).getD 0 := by
      show (numsOf ((linesB t).getD 1 ⟨#[]⟩)).getLast?.getD 0 = _
      rw [HL.out, HL1.out]
      unfold numsOf
      rw [hP, List.getLast?_map, List.getLast?_eq_getElem?, hp, List.getElem?_eq_getElem (by omega), hy1]
      rfl
    replace HW := hid HW
    replace HH := hid HH
    have B2 := (Blk.new w1 25 [.int .i64 0, .int .i64 0, .slice none 0 0]).ext x2
    have X2 : Ext w1 w2 := Ext.trans (by repeat (with_reducible (first | assumption | exact Ext.refl _ | apply Ext.alloc | apply Ext.drew | apply Ext.drewN))) x2
    clear hP hP1 hPz hPl hPn hp hy0 hy1 ho2 HA2 ho hc1 B1
    go_wp2_with fail
    refine (sParseInt_any y0 _ (by omega)).mono ?_
    rintro e w3 ⟨rfl, x3⟩
    obtain ⟨W, hW⟩ : ∃ W, (parseO y0).getD 0 = W := ⟨_, rfl⟩
    obtain ⟨H, hH⟩ : ∃ H, (parseO y1).getD 0 = H := ⟨_, rfl⟩
    have iW : I64 W := hW ▸ parseO_i64 y0
    have iH : I64 H := hH ▸ parseO_i64 y1
    rw [hW] at HW ⊢
    rw [hH] at HH
    replace hH := hid hH
    replace iW := hid iW
    replace iH := hid iH
    clear hW
    have B3 := B2.ext x3
    have b0 := B3.cell 0 rfl
    have f0 := B3.free 0
    have hq1' := (x3.cells.1 b2 (off2 + p) hb22).trans hq1
    have z3 := B3.lt
    have hne : b2 ≠ w1.heap.size := by omega
    have hz3 : b2 < w3.heap.size := by have := x3.size; omega
    clear hq1 hq0
    go_wp2_with fail
    refine (sParseInt_any y1 _ (by omega)).mono ?_
    rw [hH.out]
    rintro e w4 ⟨rfl, x4⟩
    have B4 := (B3.set 0 (.int .i64 W)).ext x4
    have X4 : Ext w1 w4 := ((X2.trans x3).setCell (Nat.le_refl _) _).trans x4
    clear b0 f0 B3 B2 hq1' z3 hz3
    have b0 := B4.cell 1 rfl
    have f0 := B4.free 1
    have z4 := B4.lt
    go_wp2
    have S0 : RSt w1 (w4.setCell ⟨w1.heap.size, 1, none⟩ (.int .i64 H)) w1.heap.size W H (.slice none 0 0) (pxAt M 0 0) := by
      rw [pxAt_zero]
      exact ⟨X4.setCell (Nat.le_refl _) _, Nat.le_refl _, B4.set 1 _, OwnInts.nil _ _⟩
    replace S0 := hid S0
    clear b0 f0 z4 B4 X4 X2 x3 x4 x2 hp8 m1 m2 hne hs0 hs1 hb22 hb21
    go_loopw [46] (fun i wr => ∃ (k : Nat) (v : Value), k ≤ n ∧ i = .int .i64 k ∧ RSt w1 wr w1.heap.size W H v (pxAt M k 0)) (fun i _ => n - (intOf i).toNat)
    case atStart => exact ⟨0, _, by omega, rfl, S0.out⟩
    case round =>
      clear S0
      obtain ⟨k, v, hk, rfl, hst⟩ := hrel
      have HST := hid hst
      clear hst
      by_cases hlt : k < n
      · obtain ⟨_, _, e5, _, hM⟩ := HM.out
        simp only [Value.slice.injEq] at e5
        obtain ⟨rfl, -, rfl⟩ := e5
        obtain ⟨x, hx⟩ : ∃ x, M.getD k ⟨#[]⟩ = x := ⟨_, rfl⟩
        have hxM : M[k]? = some x := by rw [← hx, List.getD_eq_getElem?_getD, List.getElem?_eq_getElem (by rw [HMn.out]; omega), Option.getD_some]
        obtain ⟨_, _, e6, -, hb5, hcx⟩ := hM.2 k x hxM
        simp only [Option.some.injEq, Addr.mk.injEq, and_true] at e6
        obtain ⟨rfl, rfl⟩ := e6
        have hcx := (HST.out.ext.cells.1 b _ hb5).trans hcx
        have hxs := HMz.out x (List.mem_of_getElem? hxM)
        replace hx := hid hx
        clear hM hxM
        go_wp2_with fail
        refine (sSplitAny_any x ⟨#[32]⟩ _ (by omega) (by decide)).mono ?_
        rintro e w5 ⟨v5, rfl, ho5, x5⟩
        obtain ⟨Q, hQ⟩ : ∃ Q, splitB (inSep ⟨#[32]⟩) x = Q := ⟨_, rfl⟩
        have hNQ : numsOf (M.getD k ⟨#[]⟩) = Q.map fun y => (parseO y).getD 0 := by rw [hx.out]; unfold numsOf; rw [hQ]
        have hQz : ∀ y ∈ Q, y.size ≤ 10000000 := fun y hy => by have := splitB_size (inSep ⟨#[32]⟩) x y (by rw [hQ]; exact hy); omega
        rw [hQ] at ho5
        obtain ⟨q, hq⟩ : ∃ q, Q.length = q := ⟨_, rfl⟩
        obtain ⟨a5, c5, e5, hq9⟩ := ho5.form
        subst e5
        rw [hq] at ho5 hq9 ⊢
        have HQ := hid hq
        have HNQ := hid hNQ
        have HQZ := hid hQz
        have HO5 := hid (ho5.low (lo' := w1.heap.size) (HST.out.ext.size))
        have HS5 := hid (HST.out.to x5)
        clear hQ hNQ hQz ho5 x5 hcx HST hq
        go_wp2
        go_loopw [53] (fun i wq => ∃ (j : Nat) (v : Value), j ≤ q ∧ i = .int .i64 j ∧ RSt w1 wq w1.heap.size W H v (pxAt M k j) ∧ OwnStrs w1.heap.size wq (.slice a5 q c5) Q) (fun i _ => q - (intOf i).toNat)
        case atStart => exact ⟨0, v, by omega, rfl, HS5.out, HO5.out⟩
        case round =>
          clear HS5 HO5
          obtain ⟨j, v, hj, rfl, hst, ho⟩ := hrel
          have HST := hid hst
          have HO := hid ho
          by_cases hjt : j < q
          · obtain ⟨a6, c6, e6, H6⟩ := ho.strs.open
            simp only [Value.slice.injEq] at e6
            obtain ⟨rfl, -, rfl⟩ := e6
            obtain ⟨y, hy⟩ : ∃ y, Q[j]? = some y := ⟨Q[j]'(by rw [HQ.out]; exact hjt), List.getElem?_eq_getElem (by rw [HQ.out]; exact hjt)⟩
            obtain ⟨b6, off6, rfl, hb6, hb7, hcy⟩ := H6.cell j y hy
            have hys := HQZ.out y (List.mem_of_getElem? hy)
            obtain ⟨r, hr⟩ : ∃ r, (parseO y).getD 0 = r := ⟨_, rfl⟩
            have hir : I64 r := hr ▸ parseO_i64 y
            have hnext : (numsOf (M.getD k ⟨#[]⟩))[j]? = some r := by rw [HNQ.out, List.getElem?_map, hy, ← hr]; rfl
            have HN := hid hnext
            have HR := hid hr
            have HI := hid hir
            obtain ⟨av, cv, ev, -⟩ := hst.own.form
            obtain ⟨nv, hnv⟩ : ∃ n, (pxAt M k j).length = n := ⟨_, rfl⟩
            rw [hnv] at ev
            subst ev
            have hlen := pxAt_len (M := M) (k := k) (j := j) (by rw [HMn.out]; exact hlt)
            rw [hnv] at hlen
            have HNV := hid hnv
            clear hnv
            clear hst ho H6 hy hnext hr hir
            go_wp2_with fail
            refine (sParseInt_any y _ (by omega)).mono ?_
            rw [HR.out]
            rintro e w6 ⟨rfl, x6⟩
            have S6 := HST.out.to x6
            have b0 := S6.box.cell 2 rfl
            have f0 := S6.box.free 2
            have z6 := S6.box.lt
            have hl6 := S6.own.lt
            have HS6 := hid S6
            have HO6 := hid (HO.out.ext x6)
            have HL6 := hid hl6
            have hl7 : nv ≤ 9223372036854775807 := by omega
            clear S6 x6 hl6 HST HO hcy
            go_wp2_with (at_builtin; refine wpList_append1 _ rfl _ _ rfl (w1.heap.size + 1) (.slice av nv cv) (pxAt M k j) rfl (HS6.out.own.alloc _) r HI.out w6.heap.size rfl (by simp [go_sem]) (by rw [HNV.out]; omega) (by simp; omega) ?_; intro v' w7 hown hg; rw [pxAt_snoc HN.out] at hown; obtain ⟨av', cv', ev', -⟩ := hown.form; obtain ⟨nv', hnv'⟩ : ∃ n, (pxAt M k (j + 1)).length = n := ⟨_, rfl⟩; rw [hnv'] at ev'; subst ev'; have S6a := HS6.out.to (show Ext w6 (w6.alloc (.cells #[.int .i64 r] 3)) from (by repeat (with_reducible (first | assumption | exact Ext.refl _ | apply Ext.alloc | apply Ext.drew | apply Ext.drewN)))); have S7 := hid (S6a.push hg hown); have O7 := hid (S6a.words (v' := .slice av' nv' cv') hg (HO6.out.ext (by repeat (with_reducible (first | assumption | exact Ext.refl _ | apply Ext.alloc | apply Ext.drew | apply Ext.drewN))))); have B7 := S6a.mid hg; have b7 := B7.cell 2 rfl; have f7 := B7.free 2; have z7 := B7.lt; clear hnv' hown hg S6a B7 b0 f0 z6)
            go_wp2
            go_roundw
            case rel => exact ⟨j + 1, _, by omega, by go_num, S7.out, O7.out⟩
            case measure => simp [intOf]; omega
          · obtain rfl : j = q := by omega
            have hnx := pxAt_next (M := M) (k := k) (n := j) (by rw [HMn.out]; exact hlt) (by rw [HNQ.out, List.length_map, HQ.out])
            rw [hnx] at hst
            have HST2 := hid hst
            clear hst ho hnx HST HO
            go_wp2
            go_roundw
            case rel => exact ⟨k + 1, _, by omega, by go_num, HST2.out⟩
            case measure => simp [intOf]; omega
      · obtain rfl : k = n := by omega
        have hst := HST.out
        rw [pxAt_all HMn.out] at hst
        obtain ⟨px, hpx⟩ : ∃ px, M.flatMap numsOf = px := ⟨_, rfl⟩
        rw [hpx] at hst
        have HP : picS t = ⟨W, H, px⟩ := by
          have e3 : (picS t).px = px := by
            show pxS (linesB t) = px
            rw [HL.out]
            unfold pxS
            rw [HMM.out, hpx]
          rw [← HW.out, ← HH.out, ← e3]
        have HP := hid HP
        obtain ⟨av, cv, ev, -⟩ := hst.own.form
        obtain ⟨nv, hnv⟩ : ∃ n, px.length = n := ⟨_, rfl⟩
        rw [hnv] at ev
        subst ev
        have b0 := hst.box.cell 0 rfl
        have b1 := hst.box.cell 1 rfl
        have b2 := hst.box.cell 2 rfl
        have z0 := hst.box.lt
        have HST2 := hid hst
        have Hpx := hid hpx
        have HNV := hid hnv
        clear hst hpx hnv HST
        obtain ⟨T, hT⟩ : ∃ T, (⟨W, H, px⟩ : Pic).text = T := ⟨_, rfl⟩
        have hR : (⟨W, H, px⟩ : Pic).R 0 wr.heap.size wr (.agg #[.int .i64 W, .int .i64 H, .slice av nv cv]) := ⟨_, rfl, iW.out, iH.out, HST2.out.own.ints.wide (Nat.zero_le _) (Nat.le_refl _)⟩
        have HT := hid hT
        have HR := hid hR
        have R0 := hid ((Blk.new w 25 [.int .i64 0, .int .i64 0, .slice none 0 0]).ext (x1.trans HST2.out.ext))
        have X0 := hid ((show Ext w w1 from Ext.trans (by repeat (with_reducible (first | assumption | exact Ext.refl _ | apply Ext.alloc | apply Ext.drew | apply Ext.drewN))) x1).trans HST2.out.ext)
        have hres : ∀ r, (4 ≤ (linesB t).length ∧ (picS t).text = t ∧ t.size ≠ 0) = r → True := fun _ _ => trivial
        clear hT hR hres
        go_wp2_with fail
        refine (sFormatImage_any 0 _ _ _ _ HR.out (Nat.le_refl _)).mono ?_
        rw [HT.out]
        rintro e w5 ⟨rfl, x5⟩
        by_cases hT0 : T.size = 0
        · have e0 := str_none hT0
          have er : resS t = (⟨0, 0, []⟩, false) := by
            unfold resS
            rw [if_neg]
            rintro ⟨_, h2, h3⟩
            rw [HP.out, HT.out] at h2
            subst h2
            exact h3 hT0
          replace er := hid er
          have R5 := R0.out.ext x5
          have r0 := R5.cell 0 rfl
          have r1 := R5.cell 1 rfl
          have r2 := R5.cell 2 rfl
          have g0 := R5.free 0
          have g1 := R5.free 1
          have g2 := R5.free 2
          have z5 := R5.lt
          go_wp2
          rw [er.out]
          refine bodyPost_ret (v := .tuple #[.agg #[.int .i64 0, .int .i64 0, .slice none 0 0], .bool false]) (by simp [results, Tryd.results14, go_sem, *]) rfl ⟨_, rfl, ⟨_, rfl, ⟨by decide, by decide⟩, ⟨by decide, by decide⟩, OwnInts.nil _ _⟩, ?_⟩
          exact (((X0.out.trans x5).setCell (Nat.le_refl _) _).setCell (Nat.le_refl _) _).setCell (Nat.le_refl _) _
        · have e0 := str_full hT0
          have B5 := HST2.out.box.ext x5
          have c0 := B5.cell 0 rfl
          have c1 := B5.cell 1 rfl
          have c2' := B5.cell 2 rfl
          have z5 := B5.lt
          go_wp2_with fail
          refine (sFormatImage_any 0 _ _ _ _ (HR.out.ext (Nat.le_refl _) x5) x5.size).mono ?_
          rw [HT.out]
          rintro e w6 ⟨rfl, x6⟩
          have R6 := (R0.out.ext x5).ext x6
          have r0 := R6.cell 0 rfl
          have r1 := R6.cell 1 rfl
          have r2 := R6.cell 2 rfl
          have g0 := R6.free 0
          have g1 := R6.free 1
          have g2 := R6.free 2
          have z6 := R6.lt
          have B6 := B5.ext x6
          clear b0 b1 b2 z0 c0 c1 c2' z5 B5
          by_cases hTt : T = t
          · have e1 := str_same hTt
            have er : resS t = (⟨W, H, px⟩, true) := by
              unfold resS
              rw [if_pos, HP.out]
              refine ⟨by rw [HL.out, HLn.out]; omega, by rw [HP.out, HT.out, hTt], by rw [← hTt]; exact hT0⟩
            replace er := hid er
            have c0 := B6.cell 0 rfl
            have c1 := B6.cell 1 rfl
            have c2' := B6.cell 2 rfl
            have z7 := B6.lt
            clear hTt
            go_wp2
            rw [er.out]
            refine bodyPost_ret (v := .tuple #[.agg #[.int .i64 W, .int .i64 H, .slice av nv cv], .bool true]) (by simp [results, Tryd.results14, go_sem, *]) rfl ⟨_, rfl, ⟨_, rfl, iW.out, iH.out, ?_⟩, ?_⟩
            · exact (((((HST2.out.own.ext x5).ext x6).setLow (by simp; omega) _).setLow (by simp; omega) _).setLow (by simp; omega) _).low (by omega)
            · exact ((((X0.out.trans x5).trans x6).setCell (Nat.le_refl _) _).setCell (Nat.le_refl _) _).setCell (Nat.le_refl _) _
          · have e1 := str_other hTt
            have er : resS t = (⟨0, 0, []⟩, false) := by
              unfold resS
              rw [if_neg]
              rintro ⟨_, h2, h3⟩
              rw [HP.out, HT.out] at h2
              exact hTt h2
            replace er := hid er
            go_wp2
            rw [er.out]
            refine bodyPost_ret (v := .tuple #[.agg #[.int .i64 0, .int .i64 0, .slice none 0 0], .bool false]) (by simp [results, Tryd.results14, go_sem, *]) rfl ⟨_, rfl, ⟨_, rfl, ⟨by decide, by decide⟩, ⟨by decide, by decide⟩, OwnInts.nil _ _⟩, ?_⟩
            exact ((((X0.out.trans x5).trans x6).setCell (Nat.le_refl _) _).setCell (Nat.le_refl _) _).setCell (Nat.le_refl _) _
  · have e : resS t = (⟨0, 0, []⟩, false) := by unfold resS; rw [if_neg (fun h => h4 (by have := h.1; rw [HL.out] at this; exact this))]
    rw [e]
    clear e
    go_enter Tryd.func14, Tryd.ntmps14
    go_wp2_with fail
    refine (HS.out _).mono ?_
    rintro e w1 ⟨v, rfl, ho, x1⟩
    obtain ⟨a, c, rfl, _⟩ := ho.open
    have B1 := (Blk.new w 25 [.int .i64 0, .int .i64 0, .slice none 0 0]).ext x1
    have b0 := B1.cell 0 rfl
    have b1 := B1.cell 1 rfl
    have b2 := B1.cell 2 rfl
    have f0 := B1.free 0
    have f1 := B1.free 1
    have f2 := B1.free 2
    have z1 := B1.lt
    go_wp2
    refine bodyPost_ret (v := .tuple #[.agg #[.int .i64 0, .int .i64 0, .slice none 0 0], .bool false]) (by simp [results, Tryd.results14, go_sem, *]) rfl ⟨_, rfl, ⟨_, rfl, ⟨by decide, by decide⟩, ⟨by decide, by decide⟩, OwnInts.nil _ _⟩, ?_⟩
    exact (((Ext.trans (by repeat (with_reducible (first | assumption | exact Ext.refl _ | apply Ext.alloc | apply Ext.drew | apply Ext.drewN))) x1).setCell (Nat.le_refl _) _).setCell (Nat.le_refl _) _).setCell (Nat.le_refl _) _
end Go.Proofs.YtodblnccgpiigaaDoor
