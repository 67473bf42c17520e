/- This text holds the walk of the program's CachedLookup. -/
import Derived.Test.YtcogkglkioejaaaCLk
import Derived.Test.YtcogkglkioejaaaUse3
import Derived.Test.YtcogkglkioejaaaL16c
import Derived.Test.YtcogkglkioejaaaL15j
namespace Go.Proofs.Ytcogkglkioejaaa
open Go.RowKit

set_option maxRecDepth 10000 in
set_option maxHeartbeats 3200000 in
theorem iCached_any (lo hi lo2 : Nat) (v cv : Value) (t : Tex) (C : CV) (ua va l : Int) (w : World) (hv : TexR lo hi w v t) (hh : hi ≤ w.heap.size) (hc : CO lo2 w cv C) (hL : C.L.length < 100000000) :
    Calls Try.prog 8 #[v, cv, .int .i64 ua, .int .i64 va, .int .i64 l] w fun e w' => ∃ r, e = .returned (.tuple #[.int .i64 (t.cachedN C ua va l), r]) ∧ CO w.heap.size w' r (t.cachedC C ua va l) ∧ Ext w w' := by
  have HV := hid hv
  obtain ⟨u, rfl, hlog⟩ := hv.shape
  have HC := hid hc
  obtain ⟨tv, rfl, hu, hr, hl⟩ := hc
  have HU := hid hu
  obtain ⟨ta, tc, rfl, _⟩ := hu.form
  rw [TLof_n] at *
  clear hu hv
  by_cases hok : (t.okB && C.ok) = true
  · have e1 : t.cachedN C ua va l = t.lookR ua va l := by unfold Tex.cachedN; rw [if_pos hok]
    have e2 : t.cachedC C ua va l = C.uses (t.tiles ua va l) := by unfold Tex.cachedC; rw [if_pos hok]
    rw [e1, e2]
    simp only [Bool.and_eq_true] at hok
    have HT := hid hok.1
    have HK := hid hok.2
    clear e1 e2 hok
    obtain ⟨x, hx⟩ : ∃ x, t.lookR ua va l = x := ⟨_, rfl⟩
    rw [hx]
    have HX := hid hx
    clear hx
    obtain ⟨ts, hts⟩ : ∃ ts, t.tiles ua va l = ts := ⟨_, rfl⟩
    rw [hts]
    have HTS := hid hts
    have hln := t.tiles_len ua va l
    rw [hts] at hln
    clear hts
    go_enter Try.func8, Try.ntmps8
    go_upto_region 1 with fail
    have hub : LB w (((w.alloc (.cells #[.int .i64 t.log, u] 25)).alloc (.cells #[.int .i64 C.room, .slice ta C.L.length tc, .int .i64 C.loads] 29)).alloc (.cells #[.int .i64 0, .slice none 0 0, .int .i64 0] 29)) t.log u C ta tc := by
      constructor
      case ext => exact (by repeat (with_reducible (first | assumption | exact Ext.refl _ | apply Ext.alloc | apply Ext.drew | apply Ext.drewN)))
      all_goals simp [go_sem]
    have hsz : w.heap.size + 3 = (((w.alloc (.cells #[.int .i64 t.log, u] 25)).alloc (.cells #[.int .i64 C.room, .slice ta C.L.length tc, .int .i64 C.loads] 29)).alloc (.cells #[.int .i64 0, .slice none 0 0, .int .i64 0] 29)).heap.size := by simp
    obtain ⟨w0, hw0⟩ : ∃ W, (((w.alloc (.cells #[.int .i64 t.log, u] 25)).alloc (.cells #[.int .i64 C.room, .slice ta C.L.length tc, .int .i64 C.loads] 29)).alloc (.cells #[.int .i64 0, .slice none 0 0, .int .i64 0] 29)) = W := ⟨_, rfl⟩
    rw [hw0] at hub hsz ⊢
    clear hw0
    have HB := hid hub
    have t0 := hub.t0
    have t1 := hub.t1
    have c0 := hub.c0
    have c1 := hub.c1
    have c2 := hub.c2
    have lt := hub.lt
    have s1 : w.heap.size < w0.heap.size := by omega
    have s2 : w.heap.size + 1 < w0.heap.size := by omega
    clear hub
    go_wp2_with fail
    refine (iIsValidTexture_val HT.out lo hi _ _ (HV.out.ext hh HB.out.ext) (Nat.le_trans hh HB.out.ext.size)).mono ?_
    rintro e w1 ⟨rfl, x1⟩
    have hub := HB.out.to x1
    have H1 := hid hub
    clear t0 t1 c0 c1 c2 lt s1 s2 HB x1
    have t0 := hub.t0
    have t1 := hub.t1
    have c0 := hub.c0
    have c1 := hub.c1
    have c2 := hub.c2
    have lt := hub.lt
    have s1 : w.heap.size < w1.heap.size := by omega
    have s2 : w.heap.size + 1 < w1.heap.size := by omega
    clear hub
    go_wp2_with fail
    refine (iIsValidCache_any lo2 _ _ C _ ((HC.out.ext H1.out.ext).R) (Nat.le_refl _)).mono ?_
    rintro e w2 ⟨rfl, x2⟩
    rw [HK.out]
    have hub := H1.out.to x2
    have H2 := hid hub
    clear t0 t1 c0 c1 c2 lt s1 s2 H1 x2
    have t0 := hub.t0
    have t1 := hub.t1
    have c0 := hub.c0
    have c1 := hub.c1
    have c2 := hub.c2
    have lt := hub.lt
    have s1 : w.heap.size < w2.heap.size := by omega
    have s2 : w.heap.size + 1 < w2.heap.size := by omega
    clear hub
    go_wp2_with fail
    refine (copyCache_any lo2 _ C _ (HC.out.ext H2.out.ext) hL).mono ?_
    rintro e w3 ⟨r3, rfl, hco, x3⟩
    obtain ⟨tv3, rfl, hco1, hco2, hco3⟩ := hco
    obtain ⟨a3, n3, rfl, _⟩ := hco1.form
    rw [TLof_n] at *
    have hub := H2.out.to x3
    have HO3 := hid (hco1.low (show w.heap.size + 3 ≤ _ by omega))
    have H3 := hid hub
    clear t0 t1 c0 c1 c2 lt s1 s2 H2 x3 hco1
    have t0 := hub.t0
    have t1 := hub.t1
    have c0 := hub.c0
    have c1 := hub.c1
    have c2 := hub.c2
    have lt := hub.lt
    have s1 : w.heap.size < w3.heap.size := by omega
    have s2 : w.heap.size + 1 < w3.heap.size := by omega
    clear hub
    have t0a : (w3.alloc (.cells #[.int .i64 C.room, .slice a3 C.L.length n3, .int .i64 C.loads] 29)).cell? ⟨w.heap.size, 0, none⟩ = some (.int .i64 t.log) := by simp [go_sem, *]
    go_upto_region 4 with fail
    have hlp : LP w (w3.alloc (.cells #[.int .i64 C.room, .slice a3 C.L.length n3, .int .i64 C.loads] 29)) t.log u C ta tc w3.heap.size C (.slice a3 C.L.length n3) :=
      ⟨by omega, H3.out.to (by repeat (with_reducible (first | assumption | exact Ext.refl _ | apply Ext.alloc | apply Ext.drew | apply Ext.drewN))), CBx.made w3 _ _ _, HO3.out.ext (by repeat (with_reducible (first | assumption | exact Ext.refl _ | apply Ext.alloc | apply Ext.drew | apply Ext.drewN)))⟩
    obtain ⟨B, hB⟩ : ∃ B, w3.heap.size = B := ⟨_, rfl⟩
    obtain ⟨w4, hw4⟩ : ∃ W, w3.alloc (.cells #[.int .i64 C.room, .slice a3 C.L.length n3, .int .i64 C.loads] 29) = W := ⟨_, rfl⟩
    rw [hB, hw4] at hlp
    rw [hB, hw4]
    clear t0a t0 t1 c0 c1 c2 lt s1 s2 hB hw4 H3 HO3
    have HPX := hid hlp
    have t0 := hlp.2.1.t0
    have t1 := hlp.2.1.t1
    have lt := hlp.2.1.lt
    have s1 : w.heap.size < w4.heap.size := by omega
    clear hlp
    go_wp2_with fail
    refine (iTilesFor_any lo hi _ t ua va l _ (HV.out.ext hh HPX.out.2.1.ext) (Nat.le_trans hh HPX.out.2.1.ext.size)).mono ?_
    rintro e w5 ⟨r5, rfl, ho5, x5⟩
    replace ho5 := tiles_own ho5
    rw [HTS.out] at ho5
    obtain ⟨ra, rc, rfl, _⟩ := ho5.form
    rw [TLof_n] at *
    have hlr : LR w w5 t.log u C ta tc B ts ra rc 0 := ⟨⟨_, _, HPX.out.ext x5⟩, ho5.low (by omega), CV.ok_len HK.out, hr, hl⟩
    clear x5 ho5 HPX t0 t1 lt s1
    go_wp2_with fail
    go_loopw [33] (fun i wr => ∃ k : Nat, k ≤ ts.length ∧ i = .int .i64 k ∧ LR w wr t.log u C ta tc B ts ra rc k) (fun i _ => ts.length - (intOf i).toNat)
    case atStart => exact ⟨0, by omega, rfl, hlr⟩
    case round =>
      obtain ⟨k, hk, rfl, hlr⟩ := hrel
      have HL := hid hlr
      obtain ⟨⟨da, dn, hlp⟩, -, -, -, -⟩ := hlr
      have HPX := hid hlp
      have g0 := hlp.2.2.1.c0
      have g1 := hlp.2.2.1.c1
      have g2 := hlp.2.2.1.c2
      have gl := hlp.2.2.1.lt
      have t0 := hlp.2.1.t0
      have t1 := hlp.2.1.t1
      have ltx := hlp.2.1.lt
      have szx : w.heap.size < wr.heap.size := by omega
      clear hlp
      by_cases hlt : k < ts.length
      · have hti : ts[k].I := (ownT_iff.1 HL.out.tl).2 _ (List.getElem_mem hlt)
        obtain ⟨a', cap', e', HF⟩ := Flats.open HL.out.tl.R
        obtain ⟨rfl, -, rfl⟩ : ra = a' ∧ True ∧ rc = cap' := by simp at e'; exact ⟨e'.1, trivial, by omega⟩
        clear e'
        obtain ⟨g, off, rfl, hb1, hb2, hcx⟩ := HF.at hlt (by decide)
        have q0 := hcx 0 (by decide)
        have q1 := hcx 1 (by decide)
        have q2 := hcx 2 (by decide)
        obtain ⟨e0, e1, e2⟩ := TLof_at hlt
        simp only [Nat.add_zero] at q0
        rw [e0] at q0
        rw [e1] at q1
        rw [e2] at q2
        have hle := HF.le
        have hcap := HF.cap
        rw [TLof_n] at hle
        clear e0 e1 e2 hcx HF
        have HXT := hid (show ts[k] = ts[k] from rfl)
        obtain ⟨ty, hty⟩ : ∃ x, ts[k] = x := ⟨_, rfl⟩
        rw [hty] at q0 q1 q2 hti
        have HTY := hid hty
        clear hty HXT
        go_wp2_with fail
        refine (iUseTile_any _ _ _ ty _ ((HL.out.ext (by repeat (with_reducible (first | assumption | exact Ext.refl _ | apply Ext.alloc | apply Ext.drew | apply Ext.drewN)))).co (HPX.out.ext (by repeat (with_reducible (first | assumption | exact Ext.refl _ | apply Ext.alloc | apply Ext.drew | apply Ext.drewN))))) hti (by have := HL.out.len; omega)).mono ?_
        rintro e w4 ⟨r4, rfl, hco, x4⟩
        have X4 : Ext wr w4 := Ext.trans (by repeat (with_reducible (first | assumption | exact Ext.refl _ | apply Ext.alloc | apply Ext.drew | apply Ext.drewN))) x4
        have z4 := x4.size
        simp at z4
        obtain ⟨tv4, rfl, hco1, hco2, hco3⟩ := hco
        obtain ⟨a4, n4, hv4, _⟩ := hco1.form
        rw [TLof_n] at hv4
        subst hv4
        have cb4 := HPX.out.2.2.1.ext X4
        have f0 := cb4.fz 0
        have f1 := cb4.fz 1
        have f2 := cb4.fz 2
        have g0 := cb4.c0
        have g1 := cb4.c1
        have g2 := cb4.c2
        have gl := cb4.lt
        have ho4 := hid (hco1.low (show wr.heap.size ≤ _ by simp))
        clear cb4 x4 hco1
        go_wp2_with fail
        go_roundw
        case rel =>
          refine ⟨k + 1, by omega, by go_num, ?_⟩
          have h := HL.out.next hlt X4 (by omega) (da := a4) (dn := n4) (r := .int .i64 0) (by rw [HTY.out]; exact ⟨_, rfl, ho4.out, hco2, hco3⟩)
          rw [HTY.out] at h
          exact h
        case measure => simp [intOf]; omega
      · obtain rfl : k = ts.length := by omega
        have HI := hid (⟨HL.out.room, HL.out.loads⟩ : I64 (C.uses (ts.take ts.length)).room ∧ I64 (C.uses (ts.take ts.length)).loads)
        rw [List.take_length] at *
        clear HL
        generalize hD : C.uses ts = D at *
        have HD := hid hD
        clear hD
        go_wp2_with fail
        refine wp_region_stages [([0, 1, 2, 3, 5], 4), ([6], 7)] 7 wr.heap.size (by kernel_rfl) (by kernel_rfl) ?_
        refine wpStages_cons ?_
        simp only [List.filterMap_cons, List.filterMap_nil, List.getElem?_toArray, List.getElem?_cons_zero, List.getElem?_cons_succ]
        show wpQuiet _ _ _ _ [_, _, _, _, _] _
        repeat (go_big_quiet_step (fail))
        refine wpQuiet_nil ⟨_, rfl, fun K hK => ?_⟩
        go_wp2_with (go_at_call 9; refine (iLookup_val HX.out lo hi _ _ (HV.out.ext hh (HPX.out.2.1.ext.trans (by repeat (with_reducible (first | assumption | exact Ext.refl _ | apply Ext.alloc | apply Ext.drew | apply Ext.drewN))))) (by have := HPX.out.2.1.ext.size; simp; omega)).mono ?_; rintro e w5 ⟨rfl, x5⟩)
        have X5 : Ext wr w5 := Ext.trans (by repeat (with_reducible (first | assumption | exact Ext.refl _ | apply Ext.alloc | apply Ext.drew | apply Ext.drewN))) x5
        refine hK _ _ (.inr (fun k _ hk => X5.block (by omega))) ?_
        clear hK K x5
        have hcp := HPX.out.ext X5
        clear HPX t0 t1 g0 g1 g2 gl ltx szx X5
        have HPX := hid hcp
        have p0 := HPX.out.2.1.p0
        have p1 := HPX.out.2.1.p1
        have p2 := HPX.out.2.1.p2
        have f0 := HPX.out.2.1.f0
        have f1 := HPX.out.2.1.f1
        have f2 := HPX.out.2.1.f2
        have ltx := HPX.out.2.1.lt
        have szx : w.heap.size + 1 + 1 < w5.heap.size := by omega
        clear hcp
        refine wpStages_cons ?_
        simp only [List.filterMap_cons, List.filterMap_nil, List.getElem?_toArray, List.getElem?_cons_zero, List.getElem?_cons_succ]
        show wpQuiet _ _ _ _ [_] _
        repeat (go_big_quiet_step (fail))
        refine wpQuiet_nil ⟨_, rfl, fun K hK => ?_⟩
        go_wp2
        refine hK _ _ (.inl trivial) ?_
        clear hK K
        refine wpStages_nil ?_
        go_wp2_with fail
        refine bodyPost_ret (v := .tuple #[.int .i64 x, .agg #[.int .i64 D.room, .slice da D.L.length dn, .int .i64 D.loads]]) (by simp [results, Try.results8, go_sem, *]) rfl ⟨_, rfl, ?_, HPX.out.done.2⟩
        rw [HD.out]
        exact ⟨_, rfl, HPX.out.done.1, HI.out.1, HI.out.2⟩
  · have e1 : t.cachedN C ua va l = 0 := by unfold Tex.cachedN; rw [if_neg hok]
    have e2 : t.cachedC C ua va l = C := by unfold Tex.cachedC; rw [if_neg hok]
    rw [e1, e2]
    clear e1 e2
    obtain ⟨b1, hb1⟩ : ∃ b, t.okB = b := ⟨_, rfl⟩
    obtain ⟨b2, hb2⟩ : ∃ b, C.ok = b := ⟨_, rfl⟩
    rw [hb1, hb2] at hok
    have HT := hid hb1
    have HK := hid hb2
    clear hb1 hb2
    go_enter Try.func8, Try.ntmps8
    go_upto_region 1 with fail
    have hub : LB w (((w.alloc (.cells #[.int .i64 t.log, u] 25)).alloc (.cells #[.int .i64 C.room, .slice ta C.L.length tc, .int .i64 C.loads] 29)).alloc (.cells #[.int .i64 0, .slice none 0 0, .int .i64 0] 29)) t.log u C ta tc := by
      constructor
      case ext => exact (by repeat (with_reducible (first | assumption | exact Ext.refl _ | apply Ext.alloc | apply Ext.drew | apply Ext.drewN)))
      all_goals simp [go_sem]
    have hsz : w.heap.size + 3 = (((w.alloc (.cells #[.int .i64 t.log, u] 25)).alloc (.cells #[.int .i64 C.room, .slice ta C.L.length tc, .int .i64 C.loads] 29)).alloc (.cells #[.int .i64 0, .slice none 0 0, .int .i64 0] 29)).heap.size := by simp
    obtain ⟨w0, hw0⟩ : ∃ W, (((w.alloc (.cells #[.int .i64 t.log, u] 25)).alloc (.cells #[.int .i64 C.room, .slice ta C.L.length tc, .int .i64 C.loads] 29)).alloc (.cells #[.int .i64 0, .slice none 0 0, .int .i64 0] 29)) = W := ⟨_, rfl⟩
    rw [hw0] at hub hsz ⊢
    clear hw0
    have HB := hid hub
    have t0 := hub.t0
    have t1 := hub.t1
    have c0 := hub.c0
    have c1 := hub.c1
    have c2 := hub.c2
    have lt := hub.lt
    have s1 : w.heap.size < w0.heap.size := by omega
    have s2 : w.heap.size + 1 < w0.heap.size := by omega
    clear hub
    have hcases : (b1 = false) ∨ (b1 = true ∧ b2 = false) := by cases b1 <;> cases b2 <;> simp_all
    clear hok
    rcases hcases with rfl | ⟨rfl, rfl⟩
    · go_wp2_with fail
      refine (iIsValidTexture_val HT.out lo hi _ _ (HV.out.ext hh HB.out.ext) (Nat.le_trans hh HB.out.ext.size)).mono ?_
      rintro e w1 ⟨rfl, x1⟩
      have hub := HB.out.to x1
      have H1 := hid hub
      clear t0 t1 c0 c1 c2 lt s1 s2 HB x1
      have t0 := hub.t0
      have t1 := hub.t1
      have c0 := hub.c0
      have c1 := hub.c1
      have c2 := hub.c2
      have lt := hub.lt
      have s1 : w.heap.size < w1.heap.size := by omega
      have s2 : w.heap.size + 1 < w1.heap.size := by omega
      clear hub
      go_wp2_with fail
      refine (copyCache_any lo2 _ C _ (HC.out.ext H1.out.ext) hL).mono ?_
      rintro e w3 ⟨r3, rfl, hco, x3⟩
      obtain ⟨tv3, rfl, hco1, hco2, hco3⟩ := hco
      obtain ⟨a3, n3, rfl, _⟩ := hco1.form
      rw [TLof_n] at *
      have hub := H1.out.to x3
      have HO3 := hid (hco1.low (show w.heap.size + 3 ≤ _ by omega))
      have H3 := hid hub
      clear t0 t1 c0 c1 c2 lt s1 s2 H1 x3 hco1
      have p0 := hub.p0
      have p1 := hub.p1
      have p2 := hub.p2
      have f0 := hub.f0
      have f1 := hub.f1
      have f2 := hub.f2
      have lt := hub.lt
      have s1 : w.heap.size + 1 + 1 < w3.heap.size := by omega
      clear hub
      go_wp2_with fail
      refine bodyPost_ret (v := .tuple #[.int .i64 0, .agg #[.int .i64 C.room, .slice a3 C.L.length n3, .int .i64 C.loads]]) (by simp [results, Try.results8, go_sem, *]) rfl ⟨_, rfl, ⟨_, rfl, ?_, hr, hl⟩, ?_⟩
      · exact (((HO3.out.setLow (by simp) _).setLow (by simp) _).setLow (by simp) _).low (by omega)
      · exact ((H3.out.ext.setCell (by simp; omega) _).setCell (by simp; omega) _).setCell (by simp; omega) _
    · go_wp2_with fail
      refine (iIsValidTexture_val HT.out lo hi _ _ (HV.out.ext hh HB.out.ext) (Nat.le_trans hh HB.out.ext.size)).mono ?_
      rintro e w1 ⟨rfl, x1⟩
      have hub := HB.out.to x1
      have H1 := hid hub
      clear t0 t1 c0 c1 c2 lt s1 s2 HB x1
      have t0 := hub.t0
      have t1 := hub.t1
      have c0 := hub.c0
      have c1 := hub.c1
      have c2 := hub.c2
      have lt := hub.lt
      have s1 : w.heap.size < w1.heap.size := by omega
      have s2 : w.heap.size + 1 < w1.heap.size := by omega
      clear hub
      go_wp2_with fail
      refine (iIsValidCache_any lo2 _ _ C _ ((HC.out.ext H1.out.ext).R) (Nat.le_refl _)).mono ?_
      rintro e w2 ⟨rfl, x2⟩
      rw [HK.out]
      have hub := H1.out.to x2
      have H2 := hid hub
      clear t0 t1 c0 c1 c2 lt s1 s2 H1 x2
      have t0 := hub.t0
      have t1 := hub.t1
      have c0 := hub.c0
      have c1 := hub.c1
      have c2 := hub.c2
      have lt := hub.lt
      have s1 : w.heap.size < w2.heap.size := by omega
      have s2 : w.heap.size + 1 < w2.heap.size := by omega
      clear hub
      go_wp2_with fail
      refine (copyCache_any lo2 _ C _ (HC.out.ext H2.out.ext) hL).mono ?_
      rintro e w3 ⟨r3, rfl, hco, x3⟩
      obtain ⟨tv3, rfl, hco1, hco2, hco3⟩ := hco
      obtain ⟨a3, n3, rfl, _⟩ := hco1.form
      rw [TLof_n] at *
      have hub := H2.out.to x3
      have HO3 := hid (hco1.low (show w.heap.size + 3 ≤ _ by omega))
      have H3 := hid hub
      clear t0 t1 c0 c1 c2 lt s1 s2 H2 x3 hco1
      have p0 := hub.p0
      have p1 := hub.p1
      have p2 := hub.p2
      have f0 := hub.f0
      have f1 := hub.f1
      have f2 := hub.f2
      have lt := hub.lt
      have s1 : w.heap.size + 1 + 1 < w3.heap.size := by omega
      clear hub
      go_wp2_with fail
      refine bodyPost_ret (v := .tuple #[.int .i64 0, .agg #[.int .i64 C.room, .slice a3 C.L.length n3, .int .i64 C.loads]]) (by simp [results, Try.results8, go_sem, *]) rfl ⟨_, rfl, ⟨_, rfl, ?_, hr, hl⟩, ?_⟩
      · exact (((HO3.out.setLow (by simp) _).setLow (by simp) _).setLow (by simp) _).low (by omega)
      · exact ((H3.out.ext.setCell (by simp; omega) _).setCell (by simp; omega) _).setCell (by simp; omega) _
end Go.Proofs.Ytcogkglkioejaaa
