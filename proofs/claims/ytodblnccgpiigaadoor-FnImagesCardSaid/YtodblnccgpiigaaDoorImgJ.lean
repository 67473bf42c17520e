/- This text proves what the program's ParseImage hands back. -/
import Derived.Test.YtodblnccgpiigaaDoorImgI
import Derived.RegionTactic
namespace Go.Proofs.YtodblnccgpiigaaDoor
open Go.RowKit

set_option maxRecDepth 10000 in
set_option maxHeartbeats 4000000 in
theorem iParseImage_any (t : ByteArray) (w : World) (hs : t.size ≤ 1048576) (ht : Laid w) :
    Calls Tryd.prog 7 #[.string t] w fun e w' => ∃ v, e = .returned (.tuple #[v, .bool (resI t).2]) ∧ (resI t).1.Own w.heap.size w' v ∧ Ext w w' := by
  obtain ⟨L, hL⟩ : ∃ L, linesB t = L := ⟨_, rfl⟩
  have hwt := wt_lines t
  have hsz := linesB_size t
  have hln := linesB_length t
  have hsp := fun (w : World) => iSplitLines_any t w (by omega)
  rw [hL] at hwt hsz hln hsp
  have HS := hid hsp
  have HL := hid hL
  have HZ := hid hsz
  have HT := hid ht
  clear hL hsp hsz ht
  by_cases h4 : 4 ≤ L.length ∧ L.length ≤ 15
  · obtain ⟨h4, h15⟩ := h4
    obtain ⟨l1, hl1⟩ : ∃ x, L.getD 1 ⟨#[]⟩ = x := ⟨_, rfl⟩
    have hl1' : L[1]? = some l1 := by rw [← hl1, List.getD_eq_getElem?_getD, List.getElem?_eq_getElem (by omega), Option.getD_some]
    have hz1 := HZ.out l1 (List.mem_of_getElem? hl1')
    obtain ⟨M, hM⟩ : ∃ M, L.drop 3 = M := ⟨_, rfl⟩
    obtain ⟨n, hn⟩ : ∃ n, L.length - 3 = n := ⟨_, rfl⟩
    have hMn : M.length = n := by rw [← hM, List.length_drop]; omega
    have hMz : ∀ x ∈ M, x.size ≤ t.size := fun x hx => HZ.out x (by rw [← hM] at hx; exact List.mem_of_mem_drop hx)
    have hjs := joinB_size M ⟨#[32]⟩ 1048576 (fun x hx => by have := hMz x hx; omega) (by decide)
    rw [hMn] at hjs
    have hn12 : n ≤ 12 := by omega
    have hn1 : 1 ≤ n := by omega
    have hjs' : (joinB M ⟨#[32]⟩).size ≤ 100000000 := Nat.le_trans hjs (Nat.le_trans (Nat.mul_le_mul_right _ hn12) (by decide))
    have hLn : L.length = n + 3 := by omega
    have HLn := hid hLn
    have HMn := hid hMn
    have HMz := hid hMz
    have HMM := hid hM
    have HL1 := hid hl1
    have Hl1 := hid hl1'
    have h4' : 4 ≤ n + 3 := by omega
    have Hn := hid hn
    clear hLn hMn hMz hl1' hwt hln hM hl1 hn h4 hjs h15
    go_enter Tryd.func7, Tryd.ntmps7
    go_wp2_with fail
    refine (HS.out _).mono ?_
    rintro e w1 ⟨v, rfl, ho, x1⟩
    obtain ⟨a, c, rfl, HA⟩ := ho.open
    obtain ⟨b, off, rfl, hb1, hb2, -⟩ := HA.at (k := 1) (by rw [HLn.out]; omega)
    obtain ⟨_, _, e1, -, -, hc1⟩ := HA.cell 1 l1 Hl1.out
    simp only [Option.some.injEq, Addr.mk.injEq, and_true] at e1
    obtain ⟨rfl, rfl⟩ := e1
    have k1 := HA.le
    have k2 := HA.cap
    have z1 : w.heap.size < w1.heap.size := by have := x1.size; simp at this; omega
    have X1 : Ext w w1 := Ext.trans (by repeat (with_reducible (first | assumption | exact Ext.refl _ | apply Ext.alloc | apply Ext.drew | apply Ext.drewN))) x1
    rw [HLn.out] at k1 ⊢
    replace HA := hid HA
    have HM := hid (Strs.drop HA.out 3 (by rw [HLn.out]; omega) Hn.out.symm)
    rw [HMM.out] at HM
    obtain ⟨N, hN⟩ : ∃ N, numsOf l1 = N := ⟨_, rfl⟩
    have hNi := numsOf_i64 l1
    have hps := fun (w : World) (ht : Laid w) => parseSpaced_any l1 w (by omega) ht
    rw [hN] at hps hNi
    obtain ⟨q, hq⟩ : ∃ q, N.length = q := ⟨_, rfl⟩
    have hq9 : q ≤ 9223372036854775807 := by
      have := splitB_length (inSep ⟨#[32]⟩) l1
      rw [← hq, ← hN]
      unfold numsOf
      rw [List.length_map]
      omega
    have HN := hid hN
    have HQ := hid hq
    have HP := hid hps
    clear hN hq hps ho
    go_wp2_with fail
    refine (HP.out _ (HT.out.ext (X1.trans (by repeat (with_reducible (first | assumption | exact Ext.refl _ | apply Ext.alloc | apply Ext.drew | apply Ext.drewN)))))).mono ?_
    rintro e w2 ⟨v2, rfl, o2, x2⟩
    obtain ⟨a2, c2, e2, -⟩ := o2.form
    rw [HQ.out] at e2
    subst e2
    have B2 := (Blk.new w1 25 [.int .i64 0, .int .i64 0, .slice none 0 0]).ext x2
    have X2 : Ext w1 w2 := Ext.trans (by repeat (with_reducible (first | assumption | exact Ext.refl _ | apply Ext.alloc | apply Ext.drew | apply Ext.drewN))) x2
    by_cases hq2 : q = 2
    case' pos =>
      subst hq2
      obtain ⟨g2, W, rfl, hg21, hg22, hW, hcW, -⟩ := o2.at HQ.out.symm (k := 0) (by rw [HQ.out]; decide)
      obtain ⟨_, H, e2, -, -, hH, hcH, -⟩ := o2.at HQ.out.symm (k := 1) (by rw [HQ.out]; decide)
      simp only [Option.some.injEq, Addr.mk.injEq, and_true] at e2
      subst e2
      have c0 := B2.cell 0 rfl
      have c1 := B2.cell 1 rfl
      have b0 := B2.free 0
      have b1 := B2.free 1
      have z2 := B2.lt
      rw [World.size_alloc] at hg21
      have hne : g2 ≠ w1.heap.size := by omega
      have HW := hid hW
      have HH := hid hH
      clear hW hH
      go_wp2
      go_region
      have BA := (B2.set 0 (.int .i64 W)).set 1 (.int .i64 H)
      have XA := (X2.setCell (p := ⟨w1.heap.size, 0, none⟩) (Nat.le_refl _) (.int .i64 W)).setCell (p := ⟨w1.heap.size, 1, none⟩) (Nat.le_refl _) (.int .i64 H)
      replace BA : Blk (((w2.setCell ⟨w1.heap.size, 0, none⟩ (.int .i64 W)).setCell ⟨w1.heap.size, 1, none⟩ (.int .i64 H)).drew) w1.heap.size 25 [.int .i64 W, .int .i64 H, .slice none 0 0] := BA
      replace XA := XA.drew
      have HPic : picI t = ⟨W, H, pxS (linesB t)⟩ := by
        unfold picI
        rw [HL.out, HL1.out, HN.out, if_pos HQ.out, List.getD_eq_getElem?_getD, List.getD_eq_getElem?_getD, HW.out, HH.out]
        rfl
      have iW := hid (hNi W (List.mem_of_getElem? HW.out))
      have iH := hid (hNi H (List.mem_of_getElem? HH.out))
      replace HPic := hid HPic
      clear c0 c1 b0 b1 z2 B2 X2 o2 x2 hNi hcW hcH
      go_wp2_with fail
    case' neg =>
      have e2 : ((q : Int) == 2) = false := by rw [beq_eq_false_iff_ne]; omega
      obtain ⟨W, hW⟩ : ∃ W : Int, W = 0 := ⟨_, rfl⟩
      obtain ⟨H, hH⟩ : ∃ H : Int, H = 0 := ⟨_, rfl⟩
      have BA : Blk w2 w1.heap.size 25 [.int .i64 W, .int .i64 H, .slice none 0 0] := by rw [hW, hH]; exact B2
      have XA := X2
      have HPic : picI t = ⟨W, H, pxS (linesB t)⟩ := by
        unfold picI
        rw [HL.out, HL1.out, HN.out, if_neg (by rw [HQ.out]; exact hq2), hW, hH]
      have iW := hid (show I64 W by subst hW; exact ⟨by decide, by decide⟩)
      have iH := hid (show I64 H by subst hH; exact ⟨by decide, by decide⟩)
      replace HPic := hid HPic
      replace hq2 := hid hq2
      clear hW hH B2 X2 o2 x2 hNi
      go_wp2_with fail
    all_goals
      refine (strJoin_any _ _ _ M ⟨#[32]⟩ _ (HM.out.ext (Nat.le_refl _) XA) XA.size (fun x hx => by have := HMz.out x hx; omega) (by rw [HMn.out]; omega) (by decide)).mono ?_
      rintro e w3 ⟨rfl, x3⟩
      obtain ⟨J, hJ⟩ : ∃ J, joinB M ⟨#[32]⟩ = J := ⟨_, rfl⟩
      have hJs : J.size ≤ 100000000 := by rw [← hJ]; exact hjs'
      obtain ⟨px, hpx⟩ : ∃ px, numsOf J = px := ⟨_, rfl⟩
      have hpS : pxS (linesB t) = px := by
        rw [← px_same (L := linesB t) (by rw [HL.out, HLn.out]; exact h4'), HL.out, ← hpx, ← hJ, ← HMM.out]
        rfl
      rw [hJ]
      have hps := fun (w : World) (ht : Laid w) => parseSpaced_any J w hJs ht
      rw [hpx] at hps
      have HPS := hid hps
      have HpS := hid hpS
      have BB := BA.ext x3
      have XB := XA.trans x3
      clear hJ hpx hps hpS BA XA x3
      go_wp2_with fail
      refine (HPS.out _ (HT.out.ext (X1.trans XB))).mono ?_
      rintro e w4 ⟨v4, rfl, o4, x4⟩
      obtain ⟨a4, c4, e4, -⟩ := o4.form
      obtain ⟨n4, hn4⟩ : ∃ n, px.length = n := ⟨_, rfl⟩
      rw [hn4] at e4
      subst e4
      replace hn4 := hid hn4
      have BC := BB.ext x4
      have XC := XB.trans x4
      have c2' := BC.cell 2 rfl
      have f2' := BC.free 2
      have zc := BC.lt
      have BD := BC.set 2 (.slice a4 n4 c4)
      have hlow : w1.heap.size < w3.heap.size := BB.lt
      have HD := hid (o4.setLow (p := ⟨w1.heap.size, 2, none⟩) hlow (.slice a4 n4 c4))
      have XD := hid (XC.setCell (p := ⟨w1.heap.size, 2, none⟩) (Nat.le_refl _) (.slice a4 n4 c4))
      clear BB XB x4 BC XC o4
      have d0 := BD.cell 0 rfl
      have d1 := BD.cell 1 rfl
      have d2 := BD.cell 2 rfl
      obtain ⟨I, hI⟩ : ∃ I : Pic, I = ⟨W, H, px⟩ := ⟨_, rfl⟩
      have hR : I.R 0 w4.heap.size (w4.setCell ⟨w1.heap.size, 2, none⟩ (.slice a4 n4 c4)) (.agg #[.int .i64 W, .int .i64 H, .slice a4 n4 c4]) := by
        subst hI
        exact ⟨_, rfl, iW.out, iH.out, by simpa using HD.out.ints.wide (Nat.zero_le _) (Nat.le_refl _)⟩
      have HR := hid hR
      have hPI : picI t = I := by rw [HPic.out, HpS.out, hI]
      have HPI := hid hPI
      obtain ⟨ok, hok⟩ : ∃ ok, I.okB = ok := ⟨_, rfl⟩
      obtain ⟨T, hTx⟩ : ∃ T, I.text = T := ⟨_, rfl⟩
      have HOK := hid hok
      have HTX := hid hTx
      have HI := hid hI
      clear hI hR hPI hok hTx
      go_wp2_with fail
      refine (iIsValidImage_any 0 _ _ I _ HR.out (by simp)).mono ?_
      rw [HOK.out]
      rintro e w5 ⟨rfl, x5⟩
      have R0 := hid ((Blk.new w 25 [.int .i64 0, .int .i64 0, .slice none 0 0]).ext (x1.trans XD.out))
      have X0 := hid (X1.trans XD.out)
      cases ok
      · have er : resI t = (⟨0, 0, []⟩, false) := by
          unfold resI
          rw [if_neg]
          rintro ⟨_, _, h3, _⟩
          rw [HPI.out, HOK.out] at h3
          cases h3
        replace er := hid er
        have R5 := R0.out.ext x5
        have r0 := R5.cell 0 rfl
        have r1 := R5.cell 1 rfl
        have r2 := R5.cell 2 rfl
        have g0 := R5.free 0
        have g1 := R5.free 1
        have g2 := R5.free 2
        have z5 := R5.lt
        go_wp2
        rw [er.out]
        refine bodyPost_ret (v := .tuple #[.agg #[.int .i64 0, .int .i64 0, .slice none 0 0], .bool false]) (by simp [results, Tryd.results7, go_sem, *]) rfl ⟨_, rfl, ⟨_, rfl, ⟨by decide, by decide⟩, ⟨by decide, by decide⟩, OwnInts.nil _ _⟩, ?_⟩
        exact (((X0.out.trans x5).setCell (Nat.le_refl _) _).setCell (Nat.le_refl _) _).setCell (Nat.le_refl _) _
      · have BE := BD.ext x5
        have y0 := BE.cell 0 rfl
        have y1 := BE.cell 1 rfl
        have y2 := BE.cell 2 rfl
        have zy := BE.lt
        go_wp2_with fail
        refine (iFormatImage_any 0 _ _ I _ (HR.out.ext (by simp) x5) (by simpa using x5.size) (HT.out.1.ext (X0.out.trans x5))).mono ?_
        rw [HTX.out]
        rintro e w6 ⟨rfl, x6⟩
        have R6 := (R0.out.ext x5).ext x6
        have r0 := R6.cell 0 rfl
        have r1 := R6.cell 1 rfl
        have r2 := R6.cell 2 rfl
        have g0 := R6.free 0
        have g1 := R6.free 1
        have g2 := R6.free 2
        have z6 := R6.lt
        have BF := BE.ext x6
        clear y0 y1 y2 zy BE d0 d1 d2 BD
        by_cases hTt : T = t
        · have e1 := str_same hTt
          have er : resI t = (I, true) := by
            unfold resI
            rw [if_pos, HPI.out]
            exact ⟨by rw [HL.out, HLn.out]; exact h4', by rw [HL.out, HLn.out]; omega, by rw [HPI.out, HOK.out], by rw [HPI.out, HTX.out, hTt]⟩
          replace er := hid er
          have y0 := BF.cell 0 rfl
          have y1 := BF.cell 1 rfl
          have y2 := BF.cell 2 rfl
          have zy := BF.lt
          clear hTt
          go_wp2
          rw [er.out, HI.out]
          refine bodyPost_ret (v := .tuple #[.agg #[.int .i64 W, .int .i64 H, .slice a4 n4 c4], .bool true]) (by simp [results, Tryd.results7, go_sem, *]) rfl ⟨_, rfl, ⟨_, rfl, iW.out, iH.out, ?_⟩, ?_⟩
          · have hlo : w.heap.size < w3.heap.size := by omega
            exact (((((HD.out.ext x5).ext x6).setLow hlo _).setLow hlo _).setLow hlo _).low (by omega)
          · exact ((((X0.out.trans x5).trans x6).setCell (Nat.le_refl _) _).setCell (Nat.le_refl _) _).setCell (Nat.le_refl _) _
        · have e1 := str_other hTt
          have er : resI t = (⟨0, 0, []⟩, false) := by
            unfold resI
            rw [if_neg]
            rintro ⟨_, _, _, h3⟩
            rw [HPI.out, HTX.out] at h3
            exact hTt h3
          replace er := hid er
          go_wp2
          rw [er.out]
          refine bodyPost_ret (v := .tuple #[.agg #[.int .i64 0, .int .i64 0, .slice none 0 0], .bool false]) (by simp [results, Tryd.results7, go_sem, *]) rfl ⟨_, rfl, ⟨_, rfl, ⟨by decide, by decide⟩, ⟨by decide, by decide⟩, OwnInts.nil _ _⟩, ?_⟩
          exact ((((X0.out.trans x5).trans x6).setCell (Nat.le_refl _) _).setCell (Nat.le_refl _) _).setCell (Nat.le_refl _) _
  · have er : resI t = (⟨0, 0, []⟩, false) := by
      unfold resI
      rw [if_neg]
      rintro ⟨h1, h2, _⟩
      rw [HL.out] at h1 h2
      exact h4 ⟨h1, h2⟩
    rw [er]
    obtain ⟨n, hn⟩ : ∃ n, L.length = n := ⟨_, rfl⟩
    have hc : (decide ((n : Int) < 4) || decide (15 < (n : Int))) = true := by
      rw [hn] at h4
      by_cases h : n < 4
      · simp; omega
      · simp; omega
    clear er h4
    go_enter Tryd.func7, Tryd.ntmps7
    go_wp2_with fail
    refine (HS.out _).mono ?_
    rintro e w1 ⟨v, rfl, ho, x1⟩
    obtain ⟨a, c, rfl, -⟩ := ho.open
    rw [hn]
    have B1 := (Blk.new w 25 [.int .i64 0, .int .i64 0, .slice none 0 0]).ext x1
    have b0 := B1.cell 0 rfl
    have b1 := B1.cell 1 rfl
    have b2 := B1.cell 2 rfl
    have f0 := B1.free 0
    have f1 := B1.free 1
    have f2 := B1.free 2
    have z1 := B1.lt
    clear hn ho
    by_cases h3 : n < 4
    all_goals
      go_wp2
      refine bodyPost_ret (v := .tuple #[.agg #[.int .i64 0, .int .i64 0, .slice none 0 0], .bool false]) (by simp [results, Tryd.results7, go_sem, *]) rfl ⟨_, rfl, ⟨_, rfl, ⟨by decide, by decide⟩, ⟨by decide, by decide⟩, OwnInts.nil _ _⟩, ?_⟩
      exact (((Ext.trans (by repeat (with_reducible (first | assumption | exact Ext.refl _ | apply Ext.alloc | apply Ext.drew | apply Ext.drewN))) x1).setCell (Nat.le_refl _) _).setCell (Nat.le_refl _) _).setCell (Nat.le_refl _) _
end Go.Proofs.YtodblnccgpiigaaDoor
