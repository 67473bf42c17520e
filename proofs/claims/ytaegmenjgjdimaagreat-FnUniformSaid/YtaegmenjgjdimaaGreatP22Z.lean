/- Texts of this claim, one behind another: Ps5, Ps6, Ps7, Ps8, Ps9, Dr2, L02a, L02b, L02c, L02d, L02e, Gd1, Gd2, Gd3, Gd4, Gd5, Gd6, LawUni, LiftTex, LiftBy0, P22. -/
import Derived.Test.YtaegmenjgjdimaaGreatP22Y3
import Derived.Maps.AppendAt
import Derived.Test.YtaegmenjgjdimaaGreatP22Y1
import Derived.Test.YtaegmenjgjdimaaGreatL01
import Derived.Test.YtaegmenjgjdimaaGreatPlan
import Derived.Deep.Cut
import Derived.Deep.CutRange
import Derived.Laws.StructEq
import Derived.Test.YtaegmenjgjdimaaGreatFlat
import Derived.Test.YtaegmenjgjdimaaGreatP22Y2
import Derived.Test.YtaegmenjgjdimaaGreatGr1
import Derived.Test.YtaegmenjgjdimaaGreatL15g
import Derived.Test.YtaegmenjgjdimaaGreatL15e
import Derived.Test.YtaegmenjgjdimaaGreatEx2
import Derived.OpenShut
import Derived.ShutString
import Derived.ChangeOld
import Derived.Below
import Derived.Carry
import Derived.Lib.SmallJoins
import Derived.Test.YtaegmenjgjdimaaGreatRows
import Derived.ProofKit
section
/- This text proves the parser's factors, if the steps with fewer tokens left are known. -/
namespace Go.Proofs.YtaegmenjgjdimaaGreat
open Go.RowKit

set_option maxRecDepth 20000 in
set_option maxHeartbeats 12800000 in
theorem sFactor_of {lo B : Nat} {tk : List Tok} {gs : List Asg} {tv gv : Value} (m : Nat) (hF : PCF lo B tk gs tv gv m) (hE : PCE lo B tk gs tv gv m) (hC : PCC lo B tk gs tv gv m) : PCF lo B tk gs tv gv (m + 1) := by
  intro X w k ns bad nv d h hbad hk1 hm hd0 hd
  have HP := hid h
  have HF := hid hF
  have HE := hid hE
  have HC := hid hC
  have kb := h.k3000
  have zlo := h.low
  have HE := hid hE
  clear hF hE hC
  by_cases hd64 : d > 64
  · go_enter Tryz.func144, Tryz.ntmps144
    go_wp2_with fail
    refine (sFail_any HP.out).mono ?_
    rintro e w2 ⟨z, rfl, hz, P2, K2⟩
    have HP2 := hid P2
    have HK2 := hid K2
    clear P2 K2 h
    go_wp2
    go_ret
    exact ⟨0, k, ns, z, nv, rfl, by omega, HP2.out, HK2.out, .inl hz, fun x hx => by
      obtain ⟨t, t1, _, _, _, _, _, _, h1⟩ := hx
      omega⟩
  · obtain ⟨t, ht, tk64, tts, tn64, o1, o2, hkl⟩ := h.ends.at h.here
    obtain ⟨g, cap, etv, g1, g2, g3, g4, ⟨cg, hcg⟩, hc⟩ := OwnG.at h.toks (fun _ => rfl) ht
    have hk := h.here
    have c0 := h.box.cell 0 rfl
    have c1 := h.box.cell 1 rfl
    have z := h.box.lt
    have d0 := hc 0 (by decide)
    have d1 := hc 1 (by decide)
    have d2 := hc 2 (by decide)
    have d3 := hc 3 (by decide)
    simp only [Tok.cs, Nat.add_zero, List.getElem?_cons_zero, List.getElem?_cons_succ] at d0 d1 d2 d3
    have HT := hid ht
    have HKL := hid hkl
    have HETV := hid etv
    rw [etv] at c0
    have gne : g ≠ w.heap.size := by omega
    have bne : B ≠ w.heap.size := by omega
    have hd65 : d + 1 ≤ 65 := by omega
    clear h hc ht hcg hkl etv
    go_enter Tryz.func144, Tryz.ntmps144
    go_wp2_with fail
    refine wp_region_stagesS [([0, 1, 2, 3, 4, 5, 6, 7, 8, 9], 10), ([], 11)] 99 (fun w' => ∃ d, w' = lowx (w.heap.size) (w.heap.size) _ d) (by kernel_rfl) (by kernel_rfl) ⟨_, lowx_of (fun _ _ _ => rfl)⟩ ?_
    refine wpStagesS_cons ?_
    simp only [List.filterMap_cons, List.filterMap_nil, List.getElem?_toArray, List.getElem?_cons_zero, List.getElem?_cons_succ]
    show wpQuiet _ _ _ _ [_, _, _, _, _, _, _, _, _, _] _
    repeat (go_big_quiet_step (fail))
    refine wpQuiet_nil ⟨_, rfl, fun K hK => ?_⟩
    go_wp2_with fail
    go_wp2_with fail
    refine hK _ _ (.inr ⟨_, lowx_of (fun b hb _ => Ext.block (show Ext w _ from (by repeat (with_reducible (first | assumption | exact Ext.refl _ | apply Ext.alloc | apply Ext.drew | apply Ext.drewN)))) hb)⟩) ?_
    clear hK K
    refine wpStagesS_cons ?_
    simp only [List.filterMap_nil]
    show wpQuiet _ _ _ _ [] _
    try simp only [Act.put, List.setIfInBounds_toArray, List.set_cons_succ, List.set_cons_zero]
    repeat (go_big_quiet_step (fail))
    refine wpQuiet_nil ⟨_, rfl, fun K hK => ?_⟩
    go_wp2_with fail
    go_wp2_with fail
    refine hK _ _ (.inr ⟨_, lowx_of (fun b hb _ => Ext.block (show Ext w _ from (by repeat (first | with_reducible assumption | with_reducible exact Ext.refl _ | with_reducible apply Ext.alloc | with_reducible apply Ext.drew | with_reducible apply Ext.drewN | (with_reducible refine Ext.setCell ?_ (by simp; omega) _) | (with_reducible refine Ext.setCell ?_ (by simp) _)))) hb)⟩) ?_
    clear hK K
    refine wpStagesS_nil ?_
    have x1 : Ext w ((w.alloc (.cells #[.int .i64 t.kind, .string t.text, .int .i64 t.num, .int .i64 t.off] 145)).drew) := (by repeat (first | with_reducible assumption | with_reducible exact Ext.refl _ | with_reducible apply Ext.alloc | with_reducible apply Ext.drew | with_reducible apply Ext.drewN | (with_reducible refine Ext.setCell ?_ (by simp; omega) _) | (with_reducible refine Ext.setCell ?_ (by simp) _)))
    have B1 : Blk ((w.alloc (.cells #[.int .i64 t.kind, .string t.text, .int .i64 t.num, .int .i64 t.off] 145)).drew) w.heap.size 145 [.int .i64 t.kind, .string t.text, .int .i64 t.num, .int .i64 t.off] := (Blk.new w 145 [.int .i64 t.kind, .string t.text, .int .i64 t.num, .int .i64 t.off]).ext (show Ext (w.alloc (.cells #[.int .i64 t.kind, .string t.text, .int .i64 t.num, .int .i64 t.off] 145)) _ from (by repeat (first | with_reducible assumption | with_reducible exact Ext.refl _ | with_reducible apply Ext.alloc | with_reducible apply Ext.drew | with_reducible apply Ext.drewN | (with_reducible refine Ext.setCell ?_ (by simp; omega) _) | (with_reducible refine Ext.setCell ?_ (by simp) _))))
    have HX1 := hid x1
    have HB1 := hid B1
    clear x1 B1
    go_wp2_with fail
    refine (sPeek_any (HP.out.ext HX1.out) HT.out).mono ?_
    rintro e w2 ⟨rfl, x2⟩
    have HX2 := hid (HX1.out.trans x2)
    have HB2 := hid (HB1.out.ext x2)
    have HP2 := hid (HP.out.ext HX2.out)
    have z2 := HX2.out.size
    have zB2 := HB2.out.lt
    have c1' := HP2.out.box.cell 1 rfl
    have f1' := HP2.out.box.free 1
    clear HX1 HB1 x2 c0 c1 d0 d1 d2 d3 g1 g2 g3 g4
    by_cases h45 : ((peekB t).toList == [45]) = true
    · have hp : peekB t = ⟨#[45]⟩ := ByteArray.ext (Array.ext' (by rw [← Lib.toList_data]; exact beq_iff_eq.1 h45))
      have hk3 := (peekB_ne hp (by decide)).1
      have hkk := HKL.out (by omega)
      have HP3 := hid (HP2.out.step hkk)
      have HK3 := hid ((HX2.out.kn lo B 79).set zlo 1 (.int .i64 ((k : Int) + 1)))
      clear hp
      go_wp2_with fail
      refine (HF.out _ _ (k + 1) ns bad nv (d + 1) HP3.out hbad (by omega) (by omega) (by omega) hd65).mono ?_
      rintro e w4 ⟨r, q, ns', z4, nv', rfl, hr, P4, K4, hz4, -⟩
      have HP4 := hid P4
      have HK4 := hid (HK3.out.trans K4)
      have c4 := P4.box.cell 4 rfl
      clear P4 K4 c1' f1'
      have hno : ∀ x, ¬ LoneT tk k ns d x := fun x hx => by
        have := (hx.not HT.out).1
        omega
      by_cases hz0 : 0 ≤ z4
      · go_wp2
        go_ret
        exact ⟨0, q, ns', z4, nv', rfl, by omega, HP4.out, HK4.out, .inl hz0, fun x hx => (hno x hx).elim⟩
      · have hzb := hz4.resolve_left hz0
        go_wp2_with fail
        have hu : OwnInts lo (w4.alloc (.cells #[.int .i64 (r : Nat)] 3)) (.slice (some ⟨w4.heap.size, 0, none⟩) 1 1) [(r : Int)] := OwnInts.lits (xs := [(r : Int)]) (by have := HP4.out.box.lt; omega) (Blk.new w4 3 [.int .i64 (r : Nat)]) (fun y hy => by
          simp only [List.mem_cons, List.not_mem_nil, or_false] at hy
          subst hy
          exact ⟨by omega, by omega⟩) (by simp)
        have y4 : Ext w4 (w4.alloc (.cells #[.int .i64 (r : Nat)] 3)) := (by repeat (with_reducible (first | assumption | exact Ext.refl _ | apply Ext.alloc | apply Ext.drew | apply Ext.drewN)))
        refine (sEmit_any (HP4.out.ext y4) (by omega) ⟨3, ⟨#[]⟩, 0, [(r : Int)]⟩ (.slice (some ⟨w4.heap.size, 0, none⟩) 1 1) hu (fun j hj hx => by
          have e : w4.heap.size = j := by simpa [Value.ownBlock] using hj
          have := HP4.out.xlt j hx
          omega) (NdG.of ⟨by omega, by omega⟩ ⟨by omega, by omega⟩ (by decide) (by simp))).mono ?_
        rintro e w5 ⟨r5, q5, ns5, z5, nv5, rfl, hr5, P5, K5, hz5, -⟩
        have HP5 := hid P5
        have HK5 := hid ((HK4.out.ext y4).trans K5)
        clear P5 K5 hu y4
        go_wp2
        go_ret
        exact ⟨r5, q5, ns5, z5, nv5, rfl, hr5, HP5.out, HK5.out, hz5.imp id (fun h => ⟨h.2.2.1.trans hzb.1, by omega⟩), fun x hx => (hno x hx).elim⟩
    · have e45 : ((peekB t).toList == [45]) = false := by simpa using h45
      clear h45
      go_wp2_with fail
      refine (sPeek_any HP2.out HT.out).mono ?_
      rintro e w3 ⟨rfl, x3⟩
      have HX3 := hid (HX2.out.trans x3)
      have HB3 := hid (HB2.out.ext x3)
      have HP3 := hid (HP.out.ext HX3.out)
      have z3 := x3.size
      have c1' := HP3.out.box.cell 1 rfl
      have f1' := HP3.out.box.free 1
      have d0 := HB3.out.cell 0 rfl
      have d1 := HB3.out.cell 1 rfl
      have d2 := HB3.out.cell 2 rfl
      have zB3 := HP3.out.box.lt
      clear HX2 HB2 HP2 x3 
      by_cases h40 : ((peekB t).toList == [40]) = true
      · have hp : peekB t = ⟨#[40]⟩ := ByteArray.ext (Array.ext' (by rw [← Lib.toList_data]; exact beq_iff_eq.1 h40))
        have hk3 := (peekB_ne hp (by decide)).1
        have hkk := HKL.out (by omega)
        have HP4 := hid (HP3.out.step hkk)
        have HK4 := hid ((HX3.out.kn lo B 79).set zlo 1 (.int .i64 ((k : Int) + 1)))
        have hno : ∀ x, ¬ LoneT tk k ns d x := fun x hx => by
          have := (hx.not HT.out).1
          omega
        clear hp d0 d1 d2
        go_wp2_with fail
        refine (HE.out _ _ (k + 1) ns bad nv (d + 1) HP4.out hbad (by omega) (by omega) (by omega) hd65).mono ?_
        rintro e w5 ⟨r, q, ns', z5, nv', rfl, hr, P5, K5, hz5, -⟩
        have HP5 := hid P5
        have HK5 := hid (HK4.out.trans K5)
        have c4 := P5.box.cell 4 rfl
        clear P5 K5 c1' f1'
        by_cases hz0 : 0 ≤ z5
        · go_wp2
          go_ret
          exact ⟨0, q, ns', z5, nv', rfl, by omega, HP5.out, HK5.out, .inl hz0, fun x hx => (hno x hx).elim⟩
        · have hzb := hz5.resolve_left hz0
          obtain ⟨t5, ht5, _⟩ := HP5.out.ends.at HP5.out.here
          go_wp2_with fail
          refine (sExpect_any HP5.out ht5 ⟨#[41]⟩ (by decide)).mono ?_
          rintro e w6 ⟨b, q6, z6, rfl, P6, K6, hb1, hb2, -⟩
          have HP6 := hid P6
          have HK6 := hid (HK5.out.trans K6)
          clear P6 K6
          cases b
          · have := hb2 rfl
            go_wp2
            go_ret
            exact ⟨0, q6, ns', z6, nv', rfl, by omega, HP6.out, HK6.out, .inl this, fun x hx => (hno x hx).elim⟩
          · obtain ⟨rfl, rfl⟩ := hb1 rfl
            go_wp2
            go_ret
            exact ⟨r, q + 1, ns', z6, nv', rfl, hr, HP6.out, HK6.out, .inr ⟨hzb.1, by omega⟩, fun x hx => (hno x hx).elim⟩
      · have e40 : ((peekB t).toList == [40]) = false := by simpa using h40
        clear h40
        by_cases k1 : t.kind = 1
        · have hkk := HKL.out (by omega)
          have HP4 := hid (HP3.out.step hkk)
          have HK4 := hid ((HX3.out.kn lo B 79).set zlo 1 (.int .i64 ((k : Int) + 1)))
          have hno : ∀ x, ¬ LoneT tk k ns d x := fun x hx => by
            have := (hx.not HT.out).1
            omega
          go_wp2_with fail
          refine (sEmit_any HP4.out (by omega) ⟨1, ⟨#[]⟩, t.num, []⟩ (.slice none 0 0) (OwnInts.nil _ _) (fun _ h => nomatch h) (NdG.of ⟨by omega, by omega⟩ tn64 (by decide) (by simp))).mono ?_
          rintro e w5 ⟨r5, q5, ns5, z5, nv5, rfl, hr5, P5, K5, hz5, -⟩
          have HP5 := hid P5
          have HK5 := hid (HK4.out.trans K5)
          clear P5 K5
          go_wp2
          go_ret
          exact ⟨r5, q5, ns5, z5, nv5, rfl, hr5, HP5.out, HK5.out, hz5.imp id (fun h => ⟨h.2.2.1, by omega⟩), fun x hx => (hno x hx).elim⟩
        · by_cases k2 : t.kind = 2
          · have hkk := HKL.out (by omega)
            have HP4 := hid (HP3.out.step hkk)
            have HK4 := hid ((HX3.out.kn lo B 79).set zlo 1 (.int .i64 ((k : Int) + 1)))
            obtain ⟨t4, ht4, _, _, _, _, _, hkl4⟩ := HP4.out.ends.at HP4.out.here
            have HT4 := hid ht4
            have HB4 := hid (HB3.out.other (a := ⟨B, 1, none⟩) (by simp only; omega) (.int .i64 ((k : Int) + 1)))
            clear ht4
            go_wp2_with fail
            refine (sPeek_any HP4.out HT4.out).mono ?_
            rintro e w5 ⟨rfl, x5⟩
            have HB5 := hid (HB4.out.ext x5)
            have HP5 := hid (HP4.out.ext x5)
            have HK5 := hid (HK4.out.ext x5)
            have c5 := HP5.out.box.cell 1 rfl
            have f5 := HP5.out.box.free 1
            have b1 := HB5.out.cell 1 rfl
            have z5 := HB5.out.lt
            have z6 := HP5.out.box.lt
            clear x5 d0 d1 d2 HB3 HB4 HK4 HP4 c1' f1'
            by_cases h40 : ((peekB t4).toList == [40]) = true
            · have hp : peekB t4 = ⟨#[40]⟩ := ByteArray.ext (Array.ext' (by rw [← Lib.toList_data]; exact beq_iff_eq.1 h40))
              have hk3 := (peekB_ne hp (by decide)).1
              have hkk4 := hkl4 (by omega)
              have HP6 := hid (HP5.out.step hkk4)
              have HK6 := hid (HK5.out.set zlo 1 (.int .i64 (((k + 1 : Nat) : Int) + 1)))
              have hno : ∀ x, ¬ LoneT tk k ns d x := fun x hx => by
                obtain ⟨_, _, t1, h1, h2⟩ := hx.not HT.out
                rw [HT4.out] at h1
                cases h1
                rw [hp] at h2
                exact absurd h2 (by decide)
              clear hp hkl4
              go_wp2_with fail
              refine (HC.out _ _ (k + 1 + 1) ns bad nv t.text (d + 1) HP6.out hbad (by omega) (by omega) (by omega) hd65 tts).mono ?_
              rintro e w7 ⟨r, q, ns', z7, nv', rfl, hr, P7, K7, hz7⟩
              have HP7 := hid P7
              have HK7 := hid (HK6.out.trans K7)
              clear P7 K7
              go_wp2
              go_ret
              exact ⟨r, q, ns', z7, nv', rfl, hr, HP7.out, HK7.out, hz7.imp id (fun h => ⟨h.1, by omega⟩), fun x hx => (hno x hx).elim⟩
            · have e40b : ((peekB t4).toList == [40]) = false := by simpa using h40
              clear h40 hkl4
              go_wp2_with fail
              refine (sEmit_any HP5.out (by omega) ⟨2, t.text, 0, []⟩ (.slice none 0 0) (OwnInts.nil _ _) (fun _ h => nomatch h) (NdG.of ⟨by omega, by omega⟩ ⟨by omega, by omega⟩ tts (by simp))).mono ?_
              rintro e w7 ⟨r7, q7, ns7, z7, nv7, rfl, hr7, P7, K7, hz7, hx7⟩
              have HP7 := hid P7
              have HK7 := hid (HK5.out.trans K7)
              clear P7 K7
              go_wp2
              go_ret
              exact ⟨r7, q7, ns7, z7, nv7, rfl, hr7, HP7.out, HK7.out, hz7.imp id (fun h => ⟨h.2.2.1, by omega⟩), fun x hx => by
                obtain ⟨t', t1, g1, g2, g3, g4, g5, g6, g7⟩ := hx
                rw [HT.out] at g1
                cases g1
                obtain ⟨i1, i2, i3, i4⟩ := hx7 g6
                exact ⟨i3, i1, by rw [i2, g3], i4⟩⟩
          · go_wp2_with fail
            refine (sFail_any HP3.out).mono ?_
            rintro e w4 ⟨z4, rfl, hz, P4, K4⟩
            have HP4 := hid P4
            have HK4 := hid ((HX3.out.kn lo B 79).trans K4)
            clear P4 K4
            go_wp2
            go_ret
            exact ⟨0, k, ns, z4, nv, rfl, by omega, HP4.out, HK4.out, .inl hz, fun x hx => by
              have := (hx.not HT.out).1
              omega⟩
end Go.Proofs.YtaegmenjgjdimaaGreat
end

section
/- This text proves the parser's chains of operators, if the operands are known. -/
namespace Go.Proofs.YtaegmenjgjdimaaGreat
open Go.RowKit

set_option maxRecDepth 20000 in
set_option maxHeartbeats 3200000 in
theorem sOperandT_of {lo B : Nat} {tk : List Tok} {gs : List Asg} {tv gv : Value} (m : Nat) (hB : PCB lo B tk gs tv gv false m) : PCO lo B tk gs tv gv true m := by
  intro X w k ns bad nv d h hbad hk1 hm hd0 hd
  have H := hid (hB X w k ns bad nv d h hbad hk1 hm hd0 hd)
  clear hB h
  go_enter Tryz.func134, Tryz.ntmps134
  go_wp2_with fail
  refine H.out.mono ?_
  rintro e w2 ⟨r, q, ns', z, nv', rfl, h2⟩
  have H2 := hid h2
  clear h2
  go_wp2
  go_ret
  exact ⟨r, q, ns', z, nv', rfl, H2.out⟩
set_option maxRecDepth 20000 in
set_option maxHeartbeats 3200000 in
theorem sOperandF_of {lo B : Nat} {tk : List Tok} {gs : List Asg} {tv gv : Value} (m : Nat) (hB : PCF lo B tk gs tv gv m) : PCO lo B tk gs tv gv false m := by
  intro X w k ns bad nv d h hbad hk1 hm hd0 hd
  have H := hid (hB X w k ns bad nv d h hbad hk1 hm hd0 hd)
  clear hB h
  go_enter Tryz.func134, Tryz.ntmps134
  go_wp2_with fail
  refine H.out.mono ?_
  rintro e w2 ⟨r, q, ns', z, nv', rfl, h2⟩
  have H2 := hid h2
  clear h2
  go_wp2
  go_ret
  exact ⟨r, q, ns', z, nv', rfl, H2.out⟩
set_option maxRecDepth 20000 in
set_option maxHeartbeats 3200000 in
theorem sExpression_of {lo B : Nat} {tk : List Tok} {gs : List Asg} {tv gv : Value} (m : Nat) (hB : PCB lo B tk gs tv gv true m) : PCE lo B tk gs tv gv m := by
  intro X w k ns bad nv d h hbad hk1 hm hd0 hd
  have H := hid (hB X w k ns bad nv d h hbad hk1 hm hd0 hd)
  clear hB h
  go_enter Tryz.func73, Tryz.ntmps73
  go_wp2_with fail
  refine H.out.mono ?_
  rintro e w2 ⟨r, q, ns', z, nv', rfl, h2⟩
  have H2 := hid h2
  clear h2
  go_wp2
  go_ret
  exact ⟨r, q, ns', z, nv', rfl, H2.out⟩
/-- how far a chain has still to go -/
def msr (B n : Nat) (w : World) : Nat :=
  match w.cell? ⟨B, 4, none⟩, w.cell? ⟨B, 1, none⟩ with
  | some (.int _ z), some (.int _ k) => if 0 ≤ z then 0 else 1 + (n - k.toNat)
  | _, _ => 0
theorem Pst.msr {lo B n : Nat} {X : Nat → Prop} {tk : List Tok} {gs : List Asg} {w : World} {k : Nat} {ns : List Nd} {bad : Int} {tv nv gv : Value} (h : Pst lo X B tk gs w k ns bad tv nv gv) : Go.Proofs.YtaegmenjgjdimaaGreat.msr B n w = if 0 ≤ bad then 0 else 1 + (n - k) := by
  unfold Go.Proofs.YtaegmenjgjdimaaGreat.msr
  rw [h.box.cell 4 rfl, h.box.cell 1 rfl]
  rfl
set_option maxRecDepth 20000 in
set_option maxHeartbeats 12800000 in
theorem sBinary_of {lo B : Nat} {tk : List Tok} {gs : List Asg} {tv gv : Value} (m : Nat) (b : Bool) (hO : PCO lo B tk gs tv gv b m) : PCB lo B tk gs tv gv b m := by
  intro X w k ns bad nv d h hbad hk1 hm hd0 hd
  have HP := hid h
  have HO := hid hO
  have zlo := h.low
  have hk := h.here
  clear hO h
  go_enter Tryz.func106, Tryz.ntmps106
  go_wp2_with fail
  refine (HO.out X w k ns bad nv d HP.out hbad hk1 hm hd0 hd).mono ?_
  rintro e w1 ⟨r1, q1, ns1, z1, nv1, rfl, hr1, P1, K1, hz1, hx1⟩
  have HP1 := hid P1
  have HK1 := hid K1
  have HX1 := hid hx1
  clear P1 K1 hx1
  go_wp2_with fail
  go_loopw [7] (fun v wr => ∃ (r q : Nat) (ns' : List Nd) (z : Int) (nv' : Value), v = .int .i64 (r : Nat) ∧ r ≤ 60 ∧ Pst lo X B tk gs wr q ns' z tv nv' gv ∧ KN lo B 79 w wr ∧ (0 ≤ z ∨ (z = bad ∧ k + 1 ≤ q)) ∧ (∀ x, LoneT tk k ns d x → z = bad ∧ q = k + 1 ∧ ns' = ns ++ [⟨2, x, 0, []⟩] ∧ r = ns.length)) (fun _ wr => msr B tk.length wr)
  case atStart => exact ⟨r1, q1, ns1, z1, nv1, rfl, hr1, HP1.out, HK1.out, hz1, HX1.out⟩
  case round =>
    obtain ⟨r, q, ns', z, nv', rfl, hr, P, K, hz, hx⟩ := hrel
    have HP2 := hid P
    have HK2 := hid K
    have HX2 := hid hx
    have hq := P.here
    have kb := P.k3000
    have c4 := P.box.cell 4 rfl
    clear P K hx HP1 HK1 HX1
    by_cases hz0 : z < 0
    · obtain ⟨zb, hkq⟩ := hz.resolve_left (by omega)
      obtain ⟨t, ht, _, _, _, _, _, hkl⟩ := HP2.out.ends.at hq
      have HT := hid ht
      have HKL := hid hkl
      clear ht hkl
      go_wp2_with fail
      refine (sPeek_any HP2.out HT.out).mono ?_
      rintro e w2 ⟨rfl, x2⟩
      have HX3 := hid x2
      clear x2
      go_wp2_with fail
      refine (sOp_any2 (peekB t) b w2).mono ?_
      rintro e w3 ⟨o, rfl, ho0, ho8, x3, hs, hne⟩
      have HX4 := hid (HX3.out.trans x3)
      have HP4 := hid (HP2.out.ext HX4.out)
      have HK4 := hid (HK2.out.ext HX4.out)
      have hs' := hid hs
      clear x3 hs c4 HX3
      by_cases ho : o = 0
      · go_wp2
        go_ret
        exact ⟨r, q, ns', z, nv', rfl, hr, HP4.out, HK4.out, .inr ⟨zb, hkq⟩, HX2.out⟩
      · have hno : ∀ x, ¬ LoneT tk k ns d x := fun x hx => by
          obtain ⟨_, g2, _⟩ := HX2.out x hx
          obtain ⟨_, t1, _, _, _, g4, g5, _⟩ := hx
          rw [g2] at HT
          have := HT.out
          rw [g4] at this
          cases this
          exact ho (hs'.out g5)
        have hk3 : t.kind ≠ 0 := fun e => hne ho (by unfold peekB; rw [if_neg (by omega)])
        have hkk := HKL.out hk3
        have HP5 := hid (HP4.out.step hkk)
        have HK5 := hid (HK4.out.set zlo 1 (.int .i64 ((q : Int) + 1)))
        have c1 := HP4.out.box.cell 1 rfl
        have f1 := HP4.out.box.free 1
        clear hne hk3 hs'
        go_wp2_with fail
        refine (HO.out _ _ (q + 1) ns' z nv' d HP5.out hz0 (by omega) (by omega) hd0 hd).mono ?_
        rintro e w5 ⟨r5, q5, ns5, z5, nv5, rfl, hr5, P5, K5, hz5, -⟩
        have HP6 := hid P5
        have HK6 := hid (HK5.out.trans K5)
        have c4 := P5.box.cell 4 rfl
        clear P5 K5 c1 f1
        by_cases hz50 : 0 ≤ z5
        · go_wp2
          go_ret
          exact ⟨0, q5, ns5, z5, nv5, rfl, by omega, HP6.out, HK6.out, .inl hz50, fun x hx => (hno x hx).elim⟩
        · obtain ⟨zb5, hq5⟩ := hz5.resolve_left hz50
          have hl : OwnInts lo (w5.alloc (.cells #[.int .i64 (r : Nat), .int .i64 (r5 : Nat)] 3)) (.slice (some ⟨w5.heap.size, 0, none⟩) 2 2) [(r : Int), (r5 : Int)] := OwnInts.lits (xs := [(r : Int), (r5 : Int)]) (by have := HP6.out.box.lt; omega) (Blk.new w5 3 [.int .i64 (r : Nat), .int .i64 (r5 : Nat)]) (fun y hy => by
            simp only [List.mem_cons, List.not_mem_nil, or_false] at hy
            rcases hy with rfl | rfl
            · exact ⟨by omega, by omega⟩
            · exact ⟨by omega, by omega⟩) (by simp)
          have y5 : Ext w5 (w5.alloc (.cells #[.int .i64 (r : Nat), .int .i64 (r5 : Nat)] 3)) := (by repeat (with_reducible (first | assumption | exact Ext.refl _ | apply Ext.alloc | apply Ext.drew | apply Ext.drewN)))
          have HU := hid hl
          have HY := hid y5
          clear hl y5
          go_wp2_with fail
          refine (sEmit_any (HP6.out.ext HY.out) (by omega) ⟨o, ⟨#[]⟩, 0, [(r : Int), (r5 : Int)]⟩ (.slice (some ⟨w5.heap.size, 0, none⟩) 2 2) HU.out (fun j hj hx => by
            have e : w5.heap.size = j := by simpa [Value.ownBlock] using hj
            have := HP6.out.xlt j hx
            omega) (NdG.of ⟨by omega, by omega⟩ ⟨by omega, by omega⟩ (by decide) (by simp))).mono ?_
          rintro e w7 ⟨r7, q7, ns7, z7, nv7, rfl, hr7, P7, K7, hz7, -⟩
          have HP7 := hid P7
          have HK7 := hid ((HK6.out.ext HY.out).trans K7)
          have hz8 : 0 ≤ z7 ∨ (z7 = bad ∧ q + 2 ≤ q7) := hz7.imp id (fun h => ⟨h.2.2.1.trans (zb5.trans zb), by omega⟩)
          clear P7 K7 hz7
          go_wp2
          go_roundw
          case rel => exact ⟨r7, q7, ns7, z7, nv7, rfl, hr7, HP7.out, HK7.out, hz8.imp id (fun h => ⟨h.1, by omega⟩), fun x hx => (hno x hx).elim⟩
          case measure =>
            rw [HP7.out.msr, HP2.out.msr, if_neg (show ¬ (0 ≤ z) by omega)]
            split
            · omega
            · have := HP7.out.here
              omega
    · go_wp2
      go_ret
      exact ⟨r, q, ns', z, nv', rfl, hr, HP2.out, HK2.out, hz, HX2.out⟩
end Go.Proofs.YtaegmenjgjdimaaGreat
end

section
/- This text proves the parser's calls, and all its recursive functions together. -/
namespace Go.Proofs.YtaegmenjgjdimaaGreat
open Go.RowKit

/-- append of one integer to an owned row: where the row lies then -/
theorem wpList_append1_at (w : World) {ops : Array Oper} {rest : List Oper} {o : Oper} {a : Act} {Q : Exit → Act → World → Prop} (hg : o.guard = none) (s x : Operand)
    (hop : o.op = Op.call { callee := Callee.builtin Builtin.append, args := #[s, x], argTypes := #[29, 29] }) (lo : Nat) (v : Value) (xs : List Int) (hs : a.eval s = v) (hown : OwnInts lo w v xs)
    (y : Int) (hy : I64 y) (b : Nat) (hx : a.eval x = .slice (some ⟨b, 0, none⟩) 1 1) (hcell : w.cell? ⟨b, 0, none⟩ = some (.int .i64 y)) (hlen : xs.length < 1000000000) (hlo : lo ≤ w.heap.size)
    (hK : ∀ v' w', OwnInts lo w' v' (xs ++ [y]) → w.grownBy w' v.ownBlock → (v'.ownBlock = v.ownBlock ∨ v'.ownBlock = some w.heap.size) → wpList Tryz.prog ops Q rest (a.put o.dst v') w') : wpList Tryz.prog ops Q (o :: rest) a w := by
  obtain ⟨i0, hi0, hz0, hz1, hz2⟩ := info_parts info_int
  refine wpList_append_own_at w hg s x 29 hop lo 3 i0 (.int .i64 0) 1 8 Tryz.underlying29 hi0 hz0 hz1 hz2 rfl (by decide) v xs.length _ hs hown.1 ⟨b, 0, none⟩ 1 1 [.int .i64 y] hx rfl ?_ ?_ ?_ ?_ hlo ?_
  · intro j u hj
    match j, hj with
    | 0, hj => simp at hj; subst hj; exact hcell
  · intro u hu; simp at hu; subst hu; rfl
  · unfold maxLen; omega
  · omega
  · intro v' w1 hown' hgrow _ hat
    refine hK v' w1 ⟨by simpa using hown', fun z hz => ?_⟩ hgrow hat
    rcases List.mem_append.1 hz with h | h
    · exact hown.2 z h
    · simp at h; rw [h]; exact hy
theorem KN.grownNew {lo B : Nat} {e : TypeId} {w w1 w2 : World} {row : Option Nat} (h : KN lo B e w w1) (hg : w1.grownBy w2 row) (hr : ∀ k, row = some k → w.heap.size ≤ k) : KN lo B e w w2 :=
  ⟨hg.os.trans h.os, hg.tape.trans h.tape, hg.output.trans h.output, Nat.le_trans h.size hg.size, fun b hb hn => (hg.block b (Nat.lt_of_lt_of_le hb h.size) (fun e1 => by have := hr b e1.symm; omega)).trans (h.block b hb hn)⟩
/-- X and the block of v -/
def XV (X : Nat → Prop) (v : Value) : Nat → Prop := fun b => X b ∨ v.ownBlock = some b
theorem Pst.reX {lo B : Nat} {X Y : Nat → Prop} {tk : List Tok} {gs : List Asg} {w : World} {k : Nat} {ns : List Nd} {bad : Int} {tv nv gv : Value} (h : Pst lo X B tk gs w k ns bad tv nv gv) (hx : ∀ k, k < w.heap.size → ¬ X k → ¬ Y k) (hl : ∀ b, Y b → b < w.heap.size) : Pst lo Y B tk gs w k ns bad tv nv gv :=
  ⟨h.box, h.low, h.toks, h.nds.other hx, h.asgs, h.ends, h.here, h.len, h.good, h.b64, hl⟩
theorem Pst.unV {lo B : Nat} {X : Nat → Prop} {tk : List Tok} {gs : List Asg} {w : World} {k : Nat} {ns : List Nd} {bad : Int} {tv nv gv v : Value} (h : Pst lo (XV X v) B tk gs w k ns bad tv nv gv) : Pst lo X B tk gs w k ns bad tv nv gv :=
  h.reX (fun _ _ hn hx => hn (.inl hx)) (fun b hb => h.xlt b (.inl hb))
theorem Pst.addV {lo B : Nat} {X : Nat → Prop} {tk : List Tok} {gs : List Asg} {w w' : World} {k : Nat} {ns : List Nd} {bad : Int} {tv nv gv v : Value} (h : Pst lo X B tk gs w k ns bad tv nv gv) (x : Ext w w') (hv : ∀ b, v.ownBlock = some b → w.heap.size ≤ b ∧ b < w'.heap.size) : Pst lo (XV X v) B tk gs w' k ns bad tv nv gv :=
  ⟨h.box.ext x, h.low, OwnG.ext h.toks x, (h.nds.other (Y := XV X v) (fun k hk hn hx => hx.elim hn fun e => by have := (hv k e).1; omega)).ext x, OwnG.ext h.asgs x, h.ends, h.here, h.len, h.good, h.b64, fun b hb => hb.elim (fun hb => Nat.lt_of_lt_of_le (h.xlt b hb) x.size) (fun e => (hv b e).2)⟩
theorem Pst.notBox {lo B : Nat} {X : Nat → Prop} {tk : List Tok} {gs : List Asg} {w : World} {k : Nat} {ns : List Nd} {bad : Int} {tv nv gv : Value} (h : Pst lo X B tk gs w k ns bad tv nv gv) {e : TypeId} (he : e ≠ 143) : ∀ c, w.heap[B]? ≠ some (.cells c e (0, 0)) := fun c hc => by
  have := h.box
  unfold Blk at this
  rw [this] at hc
  simp only [Option.some.injEq, Obj.cells.injEq] at hc
  exact he hc.2.1.symm
theorem OwnG.grownI {α : Type} {cs : α → List Value} {lo sz : Nat} {e e' : TypeId} {w w' : World} {v : Value} {xs : List α} {row : Option Nat} (h : OwnG cs lo e sz w v xs) (hg : w.grownBy w' row) (he : e ≠ e') (hr : ∀ k, row = some k → ∃ c, w.heap[k]? = some (.cells c e' (0, 0))) : OwnG cs lo e sz w' v xs :=
  h.of fun b c _ hb => (hg.block b (Array.getElem?_eq_some_iff.1 hb).1 fun e1 => by
    obtain ⟨c', hc'⟩ := hr b e1.symm
    rw [hb] at hc'
    simp only [Option.some.injEq, Obj.cells.injEq] at hc'
    exact he hc'.2.1).trans hb
/-- the row of integers v grew into v' -/
theorem Pst.grownV {lo l2 B : Nat} {X : Nat → Prop} {tk : List Tok} {gs : List Asg} {w w' : World} {k : Nat} {ns : List Nd} {bad : Int} {tv nv gv v v' : Value} {xs ys : List Int} (h : Pst lo (XV X v) B tk gs w k ns bad tv nv gv) (hu : OwnInts l2 w v xs) (hu' : OwnInts l2 w' v' ys) (hg : w.grownBy w' v.ownBlock) (hat : v'.ownBlock = v.ownBlock ∨ v'.ownBlock = some w.heap.size) : Pst lo (XV X v') B tk gs w' k ns bad tv nv gv := by
  have hr : ∀ k, v.ownBlock = some k → ∃ c, w.heap[k]? = some (.cells c 3 (0, 0)) := fun k hk => hu.block hk
  refine ⟨h.box.grown hg (fun e => ?_), h.low, OwnG.grownI h.toks hg (by decide) hr, ?_, OwnG.grownI h.asgs hg (by decide) hr, h.ends, h.here, h.len, h.good, h.b64, fun b hb => hb.elim (fun hb => Nat.lt_of_lt_of_le (h.xlt b (.inl hb)) hg.size) (fun e => (hu'.lt b e).2)⟩
  · obtain ⟨c, hc⟩ := hr B e.symm
    exact h.notBox (by decide) c hc
  · have h1 := h.nds.other (Y := fun b => XV X v b ∨ v'.ownBlock = some b) (fun k hk hn hx => hx.elim hn fun e => by
      rcases hat with ha | ha
      · exact hn (.inr (ha.symm.trans e))
      · rw [ha] at e
        cases e
        omega)
    exact (h1.grownI hg (fun k hk => ⟨.inl (.inr hk), hr k hk⟩)).other (fun k _ hn hx => hn (hx.elim (fun h => .inl (.inl h)) .inr))
/-- the length of a slice -/
def lenOf : Value → Nat
  | .slice _ n _ => n
  | _ => 0
set_option maxRecDepth 20000 in
set_option maxHeartbeats 3200000 in
theorem sCall_of {lo B : Nat} {tk : List Tok} {gs : List Asg} {tv gv : Value} (m : Nat) (hE : PCE lo B tk gs tv gv m) : PCC lo B tk gs tv gv m := by
  intro X w k ns bad nv name d h hbad hk1 hm hd0 hd hname
  have HP := hid h
  have HE := hid hE
  have zlo := h.low
  have hk := h.here
  have zB := h.box.lt
  obtain ⟨t, ht, _⟩ := h.ends.at h.here
  have HT := hid ht
  clear hE ht
  have x1 : Ext w (w.alloc (.cells #[] 3)) := (by repeat (with_reducible (first | assumption | exact Ext.refl _ | apply Ext.alloc | apply Ext.drew | apply Ext.drewN)))
  have hu1 : OwnInts w.heap.size (w.alloc (.cells #[] 3)) (.slice (some ⟨w.heap.size, 0, none⟩) 0 0) [] := OwnInts.fresh0 (Nat.le_refl _) (Blk.new w 3 [])
  have hv1 : ∀ b, (Value.slice (some ⟨w.heap.size, 0, none⟩) 0 0).ownBlock = some b → w.heap.size ≤ b ∧ b < (w.alloc (.cells #[] 3)).heap.size := fun b hb => hu1.lt b hb
  have HP1 := hid (h.addV x1 hv1)
  have HX1 := hid x1
  have HU1 := hid hu1
  clear x1 hu1 hv1 h
  go_enter Tryz.func149, Tryz.ntmps149
  go_wp2_with fail
  refine (sPeek_any HP1.out HT.out).mono ?_
  rintro e w2 ⟨rfl, x2⟩
  have HX2 := hid (HX1.out.trans x2)
  have HU2 := hid (HU1.out.ext x2)
  have HP2 := hid (HP1.out.ext x2)
  have HK2 := hid (HX2.out.kn lo B 79)
  clear x2 HX1 HU1 HP1
  by_cases h41 : ((peekB t).toList == [41]) = true
  · go_wp2_with fail
    refine (sExpect_any HP2.out HT.out ⟨#[41]⟩ (by decide)).mono ?_
    rintro e w4 ⟨b, q4, z4, rfl, P4, K4, hb1, hb2, -⟩
    have HU4 := hid (KN.ints HU2.out K4 (HP2.out.notBox (by decide)) (by decide))
    have HK4 := hid (HK2.out.trans K4)
    have HP4 := hid P4
    clear P4 K4
    cases b
    · have := hb2 rfl
      go_wp2
      go_ret
      exact ⟨0, q4, ns, z4, nv, rfl, by omega, HP4.out.unV, HK4.out, .inl this⟩
    · obtain ⟨rfl, rfl⟩ := hb1 rfl
      go_wp2_with fail
      refine (sEmit_any HP4.out.unV (by omega) ⟨8, name, 0, []⟩ (.slice (some ⟨w.heap.size, 0, none⟩) 0 0) (HU4.out.low (by omega)) (fun j hj hx => by
        have := (HU4.out.lt j hj).1
        have := HP.out.xlt j hx
        omega) (NdG.of ⟨by omega, by omega⟩ ⟨by omega, by omega⟩ hname (by simp))).mono ?_
      rintro e w5 ⟨r5, q5, ns5, z5, nv5, rfl, hr5, P5, K5, hz5, -⟩
      have HP5 := hid P5
      have HK5 := hid (HK4.out.trans K5)
      clear P5 K5
      go_wp2
      go_ret
      exact ⟨r5, q5, ns5, z5, nv5, rfl, hr5, HP5.out, HK5.out, hz5.imp id (fun h => ⟨h.2.2.1, by omega⟩)⟩
  · have e41 : ((peekB t).toList == [41]) = false := by simpa using h41
    clear h41
    go_wp2_with fail
    go_loopw [7] (fun v wr => ∃ (q : Nat) (xs : List Int) (ns' : List Nd) (nv' : Value), OwnInts w.heap.size wr v xs ∧ xs.length ≤ 3 ∧ Pst lo (XV X v) B tk gs wr q ns' bad tv nv' gv ∧ KN lo B 79 w wr ∧ k ≤ q) (fun v _ => 3 - lenOf v)
    case atStart => exact ⟨k, [], ns, nv, HU2.out, by simp, HP2.out, HK2.out, Nat.le_refl _⟩
    case round =>
      obtain ⟨q, xs, ns', nv', U, hxl, P, K, hkq⟩ := hrel
      obtain ⟨va, vc, rfl, -⟩ := U.form
      have HU3 := hid U
      have HP3 := hid P
      have HK3 := hid K
      clear U P K HP2 HU2 HK2 HX2 e41 HT
      by_cases h3 : xs.length = 3
      · go_wp2_with fail
        refine (sFail_any HP3.out).mono ?_
        rintro e w4 ⟨z4, rfl, hz, P4, K4⟩
        have HP4 := hid P4.unV
        have HK4 := hid (HK3.out.trans K4)
        clear P4 K4
        go_wp2
        go_ret
        exact ⟨0, q, ns', z4, nv', rfl, by omega, HP4.out, HK4.out, .inl hz⟩
      · have h3' : ¬ ((xs.length : Nat) : Int) = 3 := by omega
        have hq := HP3.out.here
        go_wp2_with fail
        refine (HE.out _ wr q ns' bad nv' d HP3.out hbad (by omega) (by omega) hd0 hd).mono ?_
        rintro e w4 ⟨r, q4, ns4, z4, nv4, rfl, hr, P4, K4, hz4, -⟩
        have HU4 := hid (KN.ints HU3.out K4 (HP3.out.notBox (by decide)) (by decide))
        have HK4 := hid (HK3.out.trans K4)
        have HP4 := hid P4
        have c4 := P4.box.cell 4 rfl
        clear P4 K4
        by_cases hz40 : 0 ≤ z4
        · go_wp2
          go_ret
          exact ⟨0, q4, ns4, z4, nv4, rfl, by omega, HP4.out.unV, HK4.out, .inl hz40⟩
        · obtain ⟨rfl, hq4⟩ := hz4.resolve_left hz40
          have y4 : Ext w4 (w4.alloc (.cells #[.int .i64 (r : Nat)] 3)) := (by repeat (with_reducible (first | assumption | exact Ext.refl _ | apply Ext.alloc | apply Ext.drew | apply Ext.drewN)))
          have b4 := Blk.new w4 3 [.int .i64 (r : Nat)]
          have zw := HK4.out.size
          have HY := hid y4
          have HB := hid b4
          have HU5 := hid (HU4.out.ext y4)
          have HP5 := hid (HP4.out.ext y4)
          have HK5 := hid (HK4.out.ext y4)
          have zy := y4.size
          clear y4 b4
          go_wp2_with (at_builtin; refine wpList_append1_at _ rfl _ _ rfl w.heap.size (.slice va xs.length vc) xs rfl HU5.out (r : Nat) ⟨by omega, by omega⟩ w4.heap.size rfl (HB.out.cell 0 rfl) (by omega) (by omega) ?_; intro v' w6 hown hg hat)
          have HU6 := hid hown
          have HP6 := hid (HP5.out.grownV HU5.out hown hg hat)
          have HK6 := hid (HK5.out.grownNew hg (fun k hk => (HU5.out.lt k hk).1))
          obtain ⟨va', vc', hv', -⟩ := hown.form
          have hll : (xs ++ [(r : Int)]).length = xs.length + 1 := by simp
          rw [hll] at hv'
          subst hv'
          clear hown hg hat
          obtain ⟨t6, ht6, _, _, _, _, _, hkl⟩ := HP6.out.ends.at HP6.out.here
          have HT6 := hid ht6
          clear ht6
          refine (sPeek_any HP6.out HT6.out).mono ?_
          rintro e w7 ⟨rfl, x7⟩
          have HU7 := hid (HU6.out.ext x7)
          have HP7 := hid (HP6.out.ext x7)
          have HK7 := hid (HK6.out.ext x7)
          clear x7 HU6 HP6 HK6
          have c1 := HP7.out.box.cell 1 rfl
          have f1 := HP7.out.box.free 1
          have k7 := HP7.out.k3000
          by_cases h44 : ((peekB t6).toList == [44]) = true
          · have hp : peekB t6 = ⟨#[44]⟩ := ByteArray.ext (Array.ext' (by rw [← Lib.toList_data]; exact beq_iff_eq.1 h44))
            have hk3 := (peekB_ne hp (by decide)).1
            have hkk := hkl (by omega)
            have HP8 := hid (HP7.out.step hkk)
            have HU8 := hid (HU7.out.setOther (a := ⟨B, 1, none⟩) (fun e => by
              obtain ⟨c, hc⟩ := HU7.out.block e
              exact HP7.out.notBox (by decide) c hc) (.int .i64 ((q4 : Int) + 1)))
            have HK8 := hid (HK7.out.set zlo 1 (.int .i64 ((q4 : Int) + 1)))
            clear hp hkl
            go_wp2
            go_roundw
            case rel => exact ⟨q4 + 1, xs ++ [(r : Int)], ns4, nv4, HU8.out, by omega, HP8.out, HK8.out, by omega⟩
            case measure => simp only [lenOf]; omega
          · have e44 : ((peekB t6).toList == [44]) = false := by simpa using h44
            clear h44 hkl
            go_wp2_with fail
            refine (sExpect_any HP7.out HT6.out ⟨#[41]⟩ (by decide)).mono ?_
            rintro e w8 ⟨b, q8, z8, rfl, P8, K8, hb1, hb2, -⟩
            have HU8 := hid (KN.ints HU7.out K8 (HP7.out.notBox (by decide)) (by decide))
            have HK8 := hid (HK7.out.trans K8)
            have HP8 := hid P8
            clear P8 K8 c1 f1
            cases b
            · have := hb2 rfl
              go_wp2
              go_ret
              exact ⟨0, q8, ns4, z8, nv4, rfl, by omega, HP8.out.unV, HK8.out, .inl this⟩
            · obtain ⟨rfl, rfl⟩ := hb1 rfl
              go_wp2_with fail
              refine (sEmit_any HP8.out.unV (by omega) ⟨8, name, 0, xs ++ [(r : Int)]⟩ (.slice va' (xs.length + 1) vc') (HU8.out.low (by omega)) (fun j hj hx => by
                have := (HU8.out.lt j hj).1
                have := HP.out.xlt j hx
                omega) (NdG.of ⟨by omega, by omega⟩ ⟨by omega, by omega⟩ hname (by omega))).mono ?_
              rintro e w9 ⟨r9, q9, ns9, z9, nv9, rfl, hr9, P9, K9, hz9, -⟩
              have HP9 := hid P9
              have HK9 := hid (HK8.out.trans K9)
              clear P9 K9
              go_wp2
              go_ret
              exact ⟨r9, q9, ns9, z9, nv9, rfl, hr9, HP9.out, HK9.out, hz9.imp id (fun h => ⟨h.2.2.1, by omega⟩)⟩
/-- a contract for so many tokens serves fewer -/
theorem PCF.le {lo B : Nat} {tk : List Tok} {gs : List Asg} {tv gv : Value} {m n : Nat} (h : PCF lo B tk gs tv gv m) (hn : n ≤ m) : PCF lo B tk gs tv gv n := fun X w k ns bad nv d hp hb hk hm => h X w k ns bad nv d hp hb hk (by omega)
theorem sParts_all {lo B : Nat} {tk : List Tok} {gs : List Asg} {tv gv : Value} : ∀ m, PCF lo B tk gs tv gv m ∧ PCE lo B tk gs tv gv m
  | 0 => by
    have hF : PCF lo B tk gs tv gv 0 := fun X w k ns bad nv d hp hb hk hm => by
      have := hp.here
      omega
    exact ⟨hF, sExpression_of 0 (sBinary_of 0 true (sOperandT_of 0 (sBinary_of 0 false (sOperandF_of 0 hF))))⟩
  | m + 1 => by
    obtain ⟨hF, hE⟩ := sParts_all (lo := lo) (B := B) (tk := tk) (gs := gs) (tv := tv) (gv := gv) m
    have hF1 := sFactor_of m hF hE (sCall_of m hE)
    exact ⟨hF1, sExpression_of _ (sBinary_of _ true (sOperandT_of _ (sBinary_of _ false (sOperandF_of _ hF1))))⟩
/-- the expression at a token -/
theorem sExpression_any {lo B : Nat} {X : Nat → Prop} {tk : List Tok} {gs : List Asg} {w : World} {k : Nat} {ns : List Nd} {bad : Int} {tv nv gv : Value} (h : Pst lo X B tk gs w k ns bad tv nv gv) (hb : bad < 0) (hk : 1 ≤ k) (d : Int) (hd0 : 0 ≤ d) (hd : d ≤ 65) :
    Calls Tryz.prog 73 #[.pointer (some ⟨B, 0, none⟩), .int .i64 d] w (PRes lo X B tk gs tv gv 1 w k ns bad d) :=
  (sParts_all (tk.length - k)).2 X w k ns bad nv d h hb hk (Nat.le_refl _) hd0 hd
end Go.Proofs.YtaegmenjgjdimaaGreat
end

section
/- This text says how the parser's rows read as a program, and what the parser does with the text "color = u;". -/
namespace Go.Proofs.YtaegmenjgjdimaaGreat
open Go.RowKit

theorem OwnNds.nds {lo l2 : Nat} {X : Nat → Prop} {w : World} {v : Value} {xs : List Nd} (h : OwnNds lo X w v xs) (hl : l2 ≤ lo) (hg : ∀ x ∈ xs, NdG x) : Nds l2 w.heap.size w v xs := by
  obtain ⟨a, c, rfl, _⟩ := h.form
  obtain ⟨ps, rfl, h1, h2⟩ := h
  have hc : (List.map (·.1) ps).length ≤ c ∧ c ≤ maxLen := by
    rcases h1.2 with ⟨e, h4⟩ | ⟨g, cap, cur, e, hb, hh, hc, hm, _⟩
    · simp only [Value.slice.injEq] at e
      obtain ⟨rfl, e2, rfl⟩ := e
      exact ⟨by omega, by unfold maxLen; omega⟩
    · simp only [Value.slice.injEq] at e
      obtain ⟨rfl, e2, rfl⟩ := e
      exact ⟨by omega, hm⟩
  refine ⟨a, c, rfl, hc.1, hc.2, fun i x hx => ?_⟩
  obtain ⟨p, hp, rfl⟩ := List.getElem?_map .. ▸ hx |> fun h => by
    rw [Option.map_eq_some_iff] at h
    exact h
  obtain ⟨g, cap, e, g1, g2, _, _, _, hcell⟩ := h1.at (fun _ => rfl) hp
  simp only [Value.slice.injEq] at e
  obtain ⟨rfl, _, rfl⟩ := e
  have hm := List.mem_of_getElem? hp
  have G := hg p.1 (List.mem_map.2 ⟨p, hm, rfl⟩)
  have c0 := hcell 0 (by decide)
  have c1 := hcell 1 (by decide)
  have c2 := hcell 2 (by decide)
  have c3 := hcell 3 (by decide)
  simp only [ndCs, Nat.add_zero, List.getElem?_cons_zero, List.getElem?_cons_succ] at c0 c1 c2 c3
  exact ⟨⟨G.1, G.2.1⟩, g, 0, p.2, rfl, by omega, g2, by rw [Nat.zero_add]; exact c0, by rw [Nat.zero_add]; exact c1, by rw [Nat.zero_add]; exact c2, by rw [Nat.zero_add]; exact c3, ((h2 p hm).1.low hl).ints⟩
theorem OwnAsgs.asgs {lo l2 : Nat} {w : World} {v : Value} {xs : List Asg} (h : OwnAsgs lo w v xs) (hl : l2 ≤ lo) (hg : ∀ x ∈ xs, I64 x.root) : Asgs l2 w.heap.size w v xs := by
  obtain ⟨a, c, rfl, _⟩ := OwnG.form h
  have hc : xs.length ≤ c ∧ c ≤ maxLen := by
    rcases h.2 with ⟨e, h4⟩ | ⟨g, cap, cur, e, hb, hh, hc, hm, _⟩
    · simp only [Value.slice.injEq] at e
      obtain ⟨rfl, e2, rfl⟩ := e
      exact ⟨by omega, by unfold maxLen; omega⟩
    · simp only [Value.slice.injEq] at e
      obtain ⟨rfl, e2, rfl⟩ := e
      exact ⟨hc, hm⟩
  refine ⟨a, c, rfl, hc.1, hc.2, fun i x hx => ?_⟩
  obtain ⟨g, cap, e, g1, g2, _, _, _, hcell⟩ := OwnG.at h (fun _ => rfl) hx
  simp only [Value.slice.injEq] at e
  obtain ⟨rfl, _, rfl⟩ := e
  have c0 := hcell 0 (by decide)
  have c1 := hcell 1 (by decide)
  simp only [Asg.cs, Nat.add_zero, List.getElem?_cons_zero, List.getElem?_cons_succ] at c0 c1
  exact ⟨hg x (List.mem_of_getElem? hx), g, 0, rfl, by omega, g2, by rw [Nat.zero_add]; exact c0, by rw [Nat.zero_add]; exact c1⟩
/-- what is asked of an assignment under way -/
def AsgG (x : Asg) : Prop := I64 x.root ∧ x.name.size ≤ 2000
theorem Pst.prog {lo l2 B : Nat} {X : Nat → Prop} {tk : List Tok} {gs : List Asg} {w : World} {k : Nat} {ns : List Nd} {bad : Int} {tv nv gv : Value} (h : Pst lo X B tk gs w k ns bad tv nv gv) (hl : l2 ≤ lo) (hg : ∀ x ∈ gs, AsgG x) : (⟨ns, gs⟩ : Prg).R l2 w.heap.size w (.agg #[nv, gv]) :=
  ⟨nv, gv, rfl, h.nds.nds hl h.good, OwnAsgs.asgs h.asgs hl fun x hx => (hg x hx).1⟩
theorem Pst.bd {lo B : Nat} {X : Nat → Prop} {tk : List Tok} {gs : List Asg} {w : World} {k : Nat} {ns : List Nd} {bad : Int} {tv nv gv : Value} (h : Pst lo X B tk gs w k ns bad tv nv gv) (hg : ∀ x ∈ gs, AsgG x) : (⟨ns, gs⟩ : Prg).bd :=
  ⟨fun x hx => by have := (h.good x hx).2.2.1; unfold maxLen; omega, fun x hx => by have := (hg x hx).2; unfold maxLen; omega⟩
theorem Pst.small {lo B : Nat} {X : Nat → Prop} {tk : List Tok} {gs : List Asg} {w : World} {k : Nat} {ns : List Nd} {bad : Int} {tv nv gv : Value} (h : Pst lo X B tk gs w k ns bad tv nv gv) (hg : gs.length ≤ 4000) : (⟨ns, gs⟩ : Prg).small :=
  ⟨⟨by have := h.len; show ns.length ≤ _; omega, fun x hx => by have := (h.good x hx).2.2.2; omega⟩, by show gs.length ≤ _; omega⟩
theorem Prg.rNone (lo hi : Nat) (w : World) : (⟨[], []⟩ : Prg).R lo hi w (.agg #[.slice Option.none 0 0, .slice Option.none 0 0]) :=
  ⟨.slice Option.none 0 0, .slice Option.none 0 0, rfl, ⟨Option.none, 0, rfl, Nat.le_refl _, Nat.zero_le _, (fun i x h => by simp at h)⟩, ⟨Option.none, 0, rfl, Nat.le_refl _, Nat.zero_le _, (fun i x h => by simp at h)⟩⟩
theorem Prg.bd_none : (⟨[], []⟩ : Prg).bd := ⟨(fun _ h => nomatch h), (fun _ h => nomatch h)⟩
theorem Prg.small_none : (⟨[], []⟩ : Prg).small := ⟨⟨Nat.zero_le _, (fun _ h => nomatch h)⟩, Nat.zero_le _⟩
/-- the program "color = u;" -/
def cuN : Nd := ⟨2, ⟨#[117]⟩, 0, []⟩
def cuA : Asg := ⟨⟨#[99, 111, 108, 111, 114]⟩, 0⟩
def cuP : Prg := ⟨[cuN], [cuA]⟩
def cuK : List Tok := cuT ++ [⟨0, ⟨#[]⟩, 0, 10⟩]
/-- how far the parser is with "color = u;" ahead of an assignment -/
def CuP (q : Nat) (ns : List Nd) (gs : List Asg) : Prop := (q = 0 ∧ ns = [] ∧ gs = []) ∨ (q = 4 ∧ ns = [cuN] ∧ gs = [cuA])
theorem CuP.name {q : Nat} {ns : List Nd} {gs : List Asg} (h : CuP q ns gs) {t : Tok} (ht : cuK[q]? = some t) (hk : t.kind ≠ 0) : q = 0 ∧ ns = [] ∧ gs = [] ∧ t.kind = 2 ∧ t.text = cuA.name := by
  rcases h with ⟨rfl, h1, h2⟩ | ⟨rfl, h1, h2⟩
  · have e : t = ⟨2, ⟨#[99, 111, 108, 111, 114]⟩, 0, 0⟩ := by
      have : cuK[0]? = some ⟨2, ⟨#[99, 111, 108, 111, 114]⟩, 0, 0⟩ := rfl
      rw [this] at ht
      exact (Option.some.inj ht).symm
    subst e
    exact ⟨rfl, h1, h2, rfl, rfl⟩
  · have e : t = ⟨0, ⟨#[]⟩, 0, 10⟩ := by
      have : cuK[4]? = some ⟨0, ⟨#[]⟩, 0, 10⟩ := rfl
      rw [this] at ht
      exact (Option.some.inj ht).symm
    subst e
    exact absurd rfl hk
theorem CuP.done {q : Nat} {ns : List Nd} {gs : List Asg} (h : CuP q ns gs) {t : Tok} (ht : cuK[q]? = some t) (hk : t.kind = 0) : (⟨ns, gs⟩ : Prg) = cuP := by
  rcases h with ⟨rfl, h1, h2⟩ | ⟨rfl, h1, h2⟩
  · have e : t = ⟨2, ⟨#[99, 111, 108, 111, 114]⟩, 0, 0⟩ := by
      have : cuK[0]? = some ⟨2, ⟨#[99, 111, 108, 111, 114]⟩, 0, 0⟩ := rfl
      rw [this] at ht
      exact (Option.some.inj ht).symm
    subst e
    exact absurd hk (by decide)
  · subst h1 h2
    rfl
theorem cu_eq {t : Tok} (ht : cuK[1]? = some t) : peekB t = ⟨#[61]⟩ := by
  have : cuK[1]? = some ⟨3, ⟨#[61]⟩, 0, 6⟩ := rfl
  rw [this] at ht
  cases ht
  rfl
theorem cu_semi {t : Tok} (ht : cuK[3]? = some t) : peekB t = ⟨#[59]⟩ := by
  have : cuK[3]? = some ⟨3, ⟨#[59]⟩, 0, 9⟩ := rfl
  rw [this] at ht
  cases ht
  rfl
theorem cu_lone : LoneT cuK 2 [] 1 ⟨#[117]⟩ := ⟨⟨2, ⟨#[117]⟩, 0, 8⟩, ⟨3, ⟨#[59]⟩, 0, 9⟩, rfl, rfl, rfl, rfl, rfl, by decide, by decide⟩
/-- what is asked of the parser's answer -/
def ParseR (s : ByteArray) (w : World) (e : Ending) (w' : World) : Prop := ∃ (p : Prg) (v : Value) (n : Int), e = .returned (.tuple #[v, .int .i64 n]) ∧ p.R w.heap.size w'.heap.size w' v ∧ p.bd ∧ p.small ∧ Ext w w' ∧ (s = cuS → p = cuP)
end Go.Proofs.YtaegmenjgjdimaaGreat
end

section
/- This text proves the reference's Parse: the answer is a program of small size, and it is known at the text "color = u;". -/
namespace Go.Proofs.YtaegmenjgjdimaaGreat
open Go.RowKit

/-- the cells of block b -/
def CBk (b : Nat) : Addr → Prop := fun a => a.block = b
@[go_sem] theorem CBk_1 (b o : Nat) : CBk b ⟨b, o, none⟩ := rfl
theorem Ints.low {lo l2 hi : Nat} {w : World} {v : Value} {xs : List Int} (h : Ints lo hi w v xs) (hl : l2 ≤ lo) : Ints l2 hi w v xs := by
  obtain ⟨a, cap, h1, h2, h3, h4⟩ := h
  refine ⟨a, cap, h1, h2, h3, fun i x hx => ?_⟩
  obtain ⟨g1, b, off, g2, g3, g4⟩ := h4 i x hx
  exact ⟨g1, b, off, g2, by omega, g4⟩
theorem Prg.R.low {p : Prg} {lo l2 hi h2 : Nat} {w : World} {v : Value} (h : p.R lo hi w v) (hl : l2 ≤ lo) (hh : hi ≤ h2) : p.R l2 h2 w v := by
  obtain ⟨nu, au, rfl, ⟨a, c, e1, e2, e3, e4⟩, ⟨a', c', f1, f2, f3, f4⟩⟩ := h
  refine ⟨nu, au, rfl, ⟨a, c, e1, e2, e3, fun i x hx => ?_⟩, ⟨a', c', f1, f2, f3, fun i x hx => ?_⟩⟩
  · obtain ⟨g1, b, off, u, g2, g3, g4, g5, g6, g7, g8, g9⟩ := e4 i x hx
    obtain ⟨ia, ic, i1, i2, i3, i4⟩ := g9
    exact ⟨g1, b, off, u, g2, by omega, by omega, g5, g6, g7, g8, ia, ic, i1, i2, i3, fun j y hy => by
      obtain ⟨j1, jb, jo, j2, j3, j4, j5⟩ := i4 j y hy
      exact ⟨j1, jb, jo, j2, by omega, by omega, j5⟩⟩
  · obtain ⟨g1, b, off, g2, g3, g4, g5, g6⟩ := f4 i x hx
    exact ⟨g1, b, off, g2, by omega, by omega, g5, g6⟩
theorem Same.trans {lo hi : Nat} {a b c : World} (h : Same lo hi a b) (k : Same lo hi b c) : Same lo hi a c := fun i h1 h2 => (k i h1 h2).trans (h i h1 h2)
theorem OwnG.row {α : Type} {cs : α → List Value} {lo : Nat} {e : TypeId} {sz : Nat} {w : World} {v : Value} {xs : List α} (h : OwnG cs lo e sz w v xs) : ∀ k, v.ownBlock = some k → lo ≤ k ∧ ∃ c, w.heap[k]? = some (.cells c e (0, 0)) := by
  intro k hk
  rcases h.2 with ⟨rfl, h4⟩ | ⟨g, cap, cur, rfl, hb, hg, _⟩
  · cases hk
  · simp only [Value.ownBlock, Option.some.injEq] at hk
    subst hk
    exact ⟨hb, cur, hg⟩
theorem OwnNds.grownO {lo : Nat} {X : Nat → Prop} {w w' : World} {v : Value} {xs : List Nd} {row : Option Nat} {e : TypeId} (h : OwnNds lo X w v xs) (hg : w.grownBy w' row) (h1 : 79 ≠ e) (h2 : 3 ≠ e) (hr : ∀ k, row = some k → ∃ c, w.heap[k]? = some (.cells c e (0, 0))) : OwnNds lo X w' v xs := by
  obtain ⟨ps, h0, h3, h4⟩ := h
  refine ⟨ps, h0, OwnG.grownI h3 hg h1 hr, fun p hp => ⟨(h4 p hp).1.grown hg fun k hk e => ?_, (h4 p hp).2⟩⟩
  obtain ⟨c, hc⟩ := (h4 p hp).1.block hk
  obtain ⟨c', hc'⟩ := hr k e.symm
  rw [hc] at hc'
  simp only [Option.some.injEq, Obj.cells.injEq] at hc'
  exact h2 hc'.2.1
/-- the assignments grew -/
theorem Pst.setGs {lo B : Nat} {X : Nat → Prop} {tk : List Tok} {gs gs' : List Asg} {w w' : World} {k : Nat} {ns : List Nd} {bad : Int} {tv nv gv gv' : Value} (h : Pst lo X B tk gs w k ns bad tv nv gv) (hg : w.grownBy w' gv.ownBlock) (hn : OwnAsgs lo w' gv' gs') : Pst lo X B tk gs' (w'.setCell ⟨B, 3, none⟩ gv') k ns bad tv nv gv' := by
  have hr := fun k hk => (OwnG.row h.asgs k hk).2
  have hb := h.box.grown hg (fun e => by
    obtain ⟨c, hc⟩ := hr B e.symm
    exact h.notBox (by decide) c hc)
  exact ⟨hb.set 3 _, h.low, OwnG.set (OwnG.grownI h.toks hg (by decide) hr) hb (by decide) 3 _, OwnNds.set (h.nds.grownO hg (by decide) (by decide) hr) hb (by decide) (by decide) 3 _, OwnG.set hn hb (by decide) 3 _, h.ends, h.here, h.len, h.good, h.b64, fun b hb => by rw [World.size_setCell]; exact Nat.lt_of_lt_of_le (h.xlt b hb) hg.size⟩
set_option maxRecDepth 20000 in
set_option maxHeartbeats 6400000 in
theorem sParse_any (s : ByteArray) (w : World) (hs : s.size ≤ maxLen) : Calls Tryz.prog 45 #[.string s] w (ParseR s w) := by
  have hB := Blk.new w 26 [.slice none 0 0, .slice none 0 0]
  have x1 : Ext w (w.alloc (.cells #[.slice none 0 0, .slice none 0 0] 26)) := (by repeat (with_reducible (first | assumption | exact Ext.refl _ | apply Ext.alloc | apply Ext.drew | apply Ext.drewN)))
  have hA : w.heap.size < (w.alloc (.cells #[.slice none 0 0, .slice none 0 0] 26)).heap.size := by rw [World.size_alloc]; omega
  have rA := hid hB
  have HX1 := hid x1
  have z1 : (w.alloc (.cells #[.slice none 0 0, .slice none 0 0] 26)).heap.size = w.heap.size + 1 := World.size_alloc _ _
  clear hB x1
  go_enter Tryz.func45, Tryz.ntmps45
  go_wp2_with fail
  refine (sTokenize_any s _ hs).mono ?_
  rintro e w2 ⟨tv, n, rfl, x2, hcu, hn⟩
  have HX2 := hid x2
  have HCU := hid hcu
  have HN := hid hn
  have b2 := (x2.block hA).trans rA.out
  have q0 := Blk.cell (show Blk w2 w.heap.size 26 [.slice none 0 0, .slice none 0 0] from b2) 0 rfl
  have q1 := Blk.cell (show Blk w2 w.heap.size 26 [.slice none 0 0, .slice none 0 0] from b2) 1 rfl
  have q0f := Blk.free (show Blk w2 w.heap.size 26 [.slice none 0 0, .slice none 0 0] from b2) 0
  have q1f := Blk.free (show Blk w2 w.heap.size 26 [.slice none 0 0, .slice none 0 0] from b2) 1
  have zw2 := x2.size
  clear x2 hcu hn b2
  by_cases hn0 : 0 ≤ n
  · have EW : Ext w w2 := HX1.out.trans HX2.out
    go_wp2
    refine bodyPost_ret (v := .tuple #[.agg #[.slice none 0 0, .slice none 0 0], .int .i64 n]) (by simp [results, Tryz.results45, go_sem, *]) rfl ?_
    exact ⟨⟨[], []⟩, _, n, rfl, Prg.rNone _ _ _, Prg.bd_none, Prg.small_none, (by repeat (first | with_reducible assumption | with_reducible exact Ext.refl _ | with_reducible apply Ext.alloc | with_reducible apply Ext.drew | with_reducible apply Ext.drewN | (with_reducible refine Ext.setCell ?_ (by simp; omega) _) | (with_reducible refine Ext.setCell ?_ (by simp) _))), fun e => by have := HCU.out e; omega⟩
  · obtain ⟨hn1, tk, OT, HTK, hcut⟩ := HN.out.resolve_left hn0
    subst hn1
    have hlen0 : 0 < tk.length := by
      obtain ⟨ts, n, rfl, _⟩ := HTK
      simp
    obtain ⟨g, cap, rfl, g1, g2, g3, g4, _, _⟩ := OwnG.at OT (fun _ => rfl) (List.getElem?_eq_getElem hlen0)
    have y2 : Ext w2 (w2.alloc (.cells #[.slice (some ⟨g, 0, none⟩) tk.length cap, .int .i64 0, .slice none 0 0, .slice none 0 0, .int .i64 (-1)] 143)) := (by repeat (with_reducible (first | assumption | exact Ext.refl _ | apply Ext.alloc | apply Ext.drew | apply Ext.drewN)))
    have P0 : Pst (w.alloc (.cells #[.slice none 0 0, .slice none 0 0] 26)).heap.size (fun _ => False) w2.heap.size tk [] (w2.alloc (.cells #[.slice (some ⟨g, 0, none⟩) tk.length cap, .int .i64 0, .slice none 0 0, .slice none 0 0, .int .i64 (-1)] 143)) 0 [] (-1) (.slice (some ⟨g, 0, none⟩) tk.length cap) (.slice none 0 0) (.slice none 0 0) :=
      ⟨Blk.new w2 143 [.slice (some ⟨g, 0, none⟩) tk.length cap, .int .i64 0, .slice none 0 0, .slice none 0 0, .int .i64 (-1)], zw2, OwnG.ext OT y2, OwnNds.nil _ _ _, OwnG.nil _ _ _ _ _, HTK, hlen0, by simp, (fun _ h => nomatch h), ⟨by decide, by decide⟩, (fun _ h => h.elim)⟩
    have HP0 := hid P0
    have HX3 := hid (HX2.out.trans y2)
    have HCUT := hid hcut
    clear P0 y2 hcut HCU HN OT q0 q1 q0f q1f
    go_wp2_with fail
    go_loopw [8] (fun _ wr => ∃ (q : Nat) (ns : List Nd) (gs : List Asg) (nv gv : Value), Pst (w.alloc (.cells #[.slice none 0 0, .slice none 0 0] 26)).heap.size (fun _ => False) w2.heap.size tk gs wr q ns (-1) (.slice (some ⟨g, 0, none⟩) tk.length cap) nv gv ∧ Ext (w.alloc (.cells #[.slice none 0 0, .slice none 0 0] 26)) wr ∧ (∀ x ∈ gs, AsgG x) ∧ gs.length ≤ q ∧ (s = cuS → CuP q ns gs)) (fun _ wr => msr w2.heap.size tk.length wr)
    case atStart => exact ⟨0, [], [], _, _, HP0.out, HX3.out, (fun _ h => nomatch h), Nat.le_refl _, fun _ => .inl ⟨rfl, rfl, rfl⟩⟩
    case round =>
      obtain ⟨q, ns, gs, nv, gv, P, EX, hgs', hgl, hcp⟩ := hrel
      have kb := P.k3000
      obtain ⟨t, ht, tk64, tts, tn64, o1, o2, hkl⟩ := P.ends.at P.here
      obtain ⟨g', cap', etv, g1', g2', _, _, _, hc⟩ := OwnG.at P.toks (fun _ => rfl) ht
      simp only [Value.slice.injEq, Option.some.injEq, Addr.mk.injEq] at etv
      obtain ⟨⟨rfl, _⟩, _, rfl⟩ := etv
      have hk := P.here
      have c0 := P.box.cell 0 rfl
      have c1 := P.box.cell 1 rfl
      have c4 := P.box.cell 4 rfl
      have zb := P.box.lt
      have d0 := hc 0 (by decide)
      have d1 := hc 1 (by decide)
      have d2 := hc 2 (by decide)
      have d3 := hc 3 (by decide)
      simp only [Tok.cs, Nat.add_zero, List.getElem?_cons_zero, List.getElem?_cons_succ] at d0 d1 d2 d3
      have HP := hid P
      have HE := hid EX
      have hgs := hid hgs'
      have HT := hid ht
      have HKL := hid hkl
      have HC := hid hcp
      have hcuT : s = cuS → cuK[q]? = some t := fun e => by rw [← ht, HCUT.out e]; rfl
      have HCT := hid hcuT
      have gne : g ≠ wr.heap.size := by omega
      have bne : w2.heap.size ≠ wr.heap.size := by omega
      clear P EX hgs' ht hkl hcp hc hcuT HP0 HX3
      by_cases hk0 : t.kind = 0
      · have hdone : s = cuS → (⟨ns, gs⟩ : Prg) = cuP := fun e => (HC.out e).done (HCT.out e) hk0
        go_wp2_with fail
        refine wp_region_stagesS [([0, 1, 2, 3, 4, 5, 6, 7, 8, 9, 10, 11, 12, 13, 14, 15, 16, 17], 18)] 99 (fun w' => ∃ d, w' = lowx (wr.heap.size) (wr.heap.size) _ d) (by kernel_rfl) (by kernel_rfl) ⟨_, lowx_of (fun _ _ _ => rfl)⟩ ?_
        refine wpStagesS_cons ?_
        simp only [List.filterMap_cons, List.filterMap_nil, List.getElem?_toArray, List.getElem?_cons_zero, List.getElem?_cons_succ]
        show wpQuiet _ _ _ _ [_, _, _, _, _, _, _, _, _, _, _, _, _, _, _, _, _, _] _
        repeat (go_big_quiet_step (fail))
        refine wpQuiet_nil ⟨_, rfl, fun K hK => ?_⟩
        go_wp2_with fail
        go_wp2_with fail
        refine hK _ _ (.inr ⟨_, lowx_of (fun b hb _ => Ext.block (show Ext wr _ from (by repeat (with_reducible (first | assumption | exact Ext.refl _ | apply Ext.alloc | apply Ext.drew | apply Ext.drewN)))) hb)⟩) ?_
        clear hK K
        refine wpStagesS_nil ?_
        clear c0 c1 c4 d0 d1 d2 d3
        have c0 := HP.out.box.cell 0 rfl
        have c2 := HP.out.box.cell 2 rfl
        have c3 := HP.out.box.cell 3 rfl
        have c4 := HP.out.box.cell 4 rfl
        have zB := HP.out.box.lt
        have hlo := HP.out.low
        have r0 := (HE.out.block hA).trans rA.out
        have q0 := Blk.cell (show Blk wr w.heap.size 26 [.slice none 0 0, .slice none 0 0] from r0) 0 rfl
        have q0f := Blk.free (show Blk wr w.heap.size 26 [.slice none 0 0, .slice none 0 0] from r0) 0
        have q1 := Blk.cell (show Blk wr w.heap.size 26 [.slice none 0 0, .slice none 0 0] from r0) 1 rfl
        have q1f := Blk.free (show Blk wr w.heap.size 26 [.slice none 0 0, .slice none 0 0] from r0) 1
        have EW : Ext w wr := HX1.out.trans HE.out
        have R0 := hid (HP.out.prog (Nat.le_refl _) hgs.out)
        have G1 := hid (HP.out.bd hgs.out)
        have G2 := hid (HP.out.small (by omega))
        obtain ⟨na, nc, rfl, -⟩ := HP.out.nds.form
        obtain ⟨ga, gc, rfl, -⟩ := OwnG.form HP.out.asgs
        clear r0
        go_wp2
        refine bodyPost_ret (v := .tuple #[.agg #[.slice na ns.length nc, .slice ga gs.length gc], .int .i64 (-1)]) (by simp [results, Tryz.results45, go_sem, *]) rfl ?_
        refine ⟨⟨ns, gs⟩, _, -1, rfl, ?_, G1.out, G2.out, (by repeat (first | with_reducible assumption | with_reducible exact Ext.refl _ | with_reducible apply Ext.alloc | with_reducible apply Ext.drew | with_reducible apply Ext.drewN | (with_reducible refine Ext.setCell ?_ (by simp; omega) _) | (with_reducible refine Ext.setCell ?_ (by simp) _))), hdone⟩
        have R1 := R0.out.same ((Same.setLow _ (p := ⟨w.heap.size, 0, none⟩) (by simp only; omega) (.slice na ns.length nc)).trans (Same.setLow _ (p := ⟨w.heap.size, 1, none⟩) (by simp only; omega) (.slice ga gs.length gc)))
        exact R1.low (by omega) (by simp)
      · have hkk := HKL.out hk0
        go_wp2_with fail
        refine wp_region_stagesS [([0, 1, 2, 3, 4, 5, 6, 7, 8, 9, 10, 11, 12, 13, 14, 15, 16, 17], 18)] 99 (fun w' => ∃ d, w' = lowx (wr.heap.size) (wr.heap.size) _ d) (by kernel_rfl) (by kernel_rfl) ⟨_, lowx_of (fun _ _ _ => rfl)⟩ ?_
        refine wpStagesS_cons ?_
        simp only [List.filterMap_cons, List.filterMap_nil, List.getElem?_toArray, List.getElem?_cons_zero, List.getElem?_cons_succ]
        show wpQuiet _ _ _ _ [_, _, _, _, _, _, _, _, _, _, _, _, _, _, _, _, _, _] _
        repeat (go_big_quiet_step (fail))
        refine wpQuiet_nil ⟨_, rfl, fun K hK => ?_⟩
        go_wp2_with fail
        go_wp2_with fail
        refine hK _ _ (.inr ⟨_, lowx_of (fun b hb _ => Ext.block (show Ext wr _ from (by repeat (with_reducible (first | assumption | exact Ext.refl _ | apply Ext.alloc | apply Ext.drew | apply Ext.drewN)))) hb)⟩) ?_
        clear hK K
        refine wpStagesS_nil ?_
        go_wp2_with fail
        have zB6 := HP.out.box.lt
        refine wp_region_stagesS [([0, 1, 2, 3, 4, 5, 6, 7, 8, 9], 10), ([], 11)] 99 (fun w' => ∃ d, w' = lowx (wr.heap.size) (wr.heap.size) _ d) (by kernel_rfl) (by kernel_rfl) ⟨_, lowx_of (fun _ _ _ => rfl)⟩ ?_
        refine wpStagesS_cons ?_
        simp only [List.filterMap_cons, List.filterMap_nil, List.getElem?_toArray, List.getElem?_cons_zero, List.getElem?_cons_succ]
        show wpQuiet _ _ _ _ [_, _, _, _, _, _, _, _, _, _] _
        repeat (go_big_quiet_step (fail))
        refine wpQuiet_nil ⟨_, rfl, fun K hK => ?_⟩
        go_wp2_with fail
        go_wp2_with fail
        refine hK _ _ (.inr ⟨_, lowx_of (fun b hb _ => Ext.block (show Ext wr _ from (by repeat (with_reducible (first | assumption | exact Ext.refl _ | apply Ext.alloc | apply Ext.drew | apply Ext.drewN)))) hb)⟩) ?_
        clear hK K
        refine wpStagesS_cons ?_
        simp only [List.filterMap_nil]
        show wpQuiet _ _ _ _ [] _
        try simp only [Act.put, List.setIfInBounds_toArray, List.set_cons_succ, List.set_cons_zero]
        repeat (go_big_quiet_step (fail))
        refine wpQuiet_nil ⟨_, rfl, fun K hK => ?_⟩
        go_wp2_with fail
        go_wp2_with fail
        refine hK _ _ (.inr ⟨_, lowx_of (fun b hb _ => Ext.block (show Ext wr _ from (by repeat (first | with_reducible assumption | with_reducible exact Ext.refl _ | with_reducible apply Ext.alloc | with_reducible apply Ext.drew | with_reducible apply Ext.drewN | (with_reducible refine Ext.setCell ?_ (by simp; omega) _) | (with_reducible refine Ext.setCell ?_ (by simp) _)))) hb)⟩) ?_
        clear hK K
        refine wpStagesS_nil ?_
        have y1 : Ext wr ((wr.drew.alloc (.cells #[.int .i64 t.kind, .string t.text, .int .i64 t.num, .int .i64 t.off] 145)).drew) := (by repeat (first | with_reducible assumption | with_reducible exact Ext.refl _ | with_reducible apply Ext.alloc | with_reducible apply Ext.drew | with_reducible apply Ext.drewN | (with_reducible refine Ext.setCell ?_ (by simp; omega) _) | (with_reducible refine Ext.setCell ?_ (by simp) _)))
        have T1 : Blk ((wr.drew.alloc (.cells #[.int .i64 t.kind, .string t.text, .int .i64 t.num, .int .i64 t.off] 145)).drew) wr.heap.size 145 [.int .i64 t.kind, .string t.text, .int .i64 t.num, .int .i64 t.off] := (Blk.new wr.drew 145 [.int .i64 t.kind, .string t.text, .int .i64 t.num, .int .i64 t.off]).ext (show Ext (wr.drew.alloc (.cells #[.int .i64 t.kind, .string t.text, .int .i64 t.num, .int .i64 t.off] 145)) _ from (by repeat (first | with_reducible assumption | with_reducible exact Ext.refl _ | with_reducible apply Ext.alloc | with_reducible apply Ext.drew | with_reducible apply Ext.drewN | (with_reducible refine Ext.setCell ?_ (by simp; omega) _) | (with_reducible refine Ext.setCell ?_ (by simp) _))))
        have HY1 := hid y1
        have HP1 := hid (HP.out.ext y1)
        have HE1 := hid (Ext.trans HE.out y1)
        have HT1 := hid T1
        clear y1 T1 c0 c1 c4 d0 d1 d2 d3
        by_cases hk2 : t.kind = 2
        · have c1 := HP.out.box.cell 1 rfl
          have f1 := HP.out.box.free 1
          have e3 : Ext (wr.setCell ⟨w2.heap.size, 1, none⟩ (.int .i64 ((q : Int) + 1))) (((wr.setCell ⟨w2.heap.size, 1, none⟩ (.int .i64 ((q : Int) + 1))).alloc (.cells #[.int .i64 2, .string t.text, .int .i64 t.num, .int .i64 t.off] 145)).drew.drew) := (by repeat (with_reducible (first | assumption | exact Ext.refl _ | apply Ext.alloc | apply Ext.drew | apply Ext.drewN)))
          have b3 := (Blk.new (wr.setCell ⟨w2.heap.size, 1, none⟩ (.int .i64 ((q : Int) + 1))) 145 [.int .i64 2, .string t.text, .int .i64 t.num, .int .i64 t.off]).ext (show Ext ((wr.setCell ⟨w2.heap.size, 1, none⟩ (.int .i64 ((q : Int) + 1))).alloc (.cells #[.int .i64 2, .string t.text, .int .i64 t.num, .int .i64 t.off] 145)) (((wr.setCell ⟨w2.heap.size, 1, none⟩ (.int .i64 ((q : Int) + 1))).alloc (.cells #[.int .i64 2, .string t.text, .int .i64 t.num, .int .i64 t.off] 145)).drew.drew) from (by repeat (with_reducible (first | assumption | exact Ext.refl _ | apply Ext.alloc | apply Ext.drew | apply Ext.drewN))))
          rw [World.size_setCell] at b3
          have HP3 := hid ((HP.out.step hkk).ext e3)
          have HE3 := hid ((Ext.setCell HE.out (p := ⟨w2.heap.size, 1, none⟩) HP.out.low (.int .i64 ((q : Int) + 1))).trans e3)
          have HT3 := hid b3
          have zB0 := HP.out.box.lt
          obtain ⟨t3, ht3, _, _, _, _, _, hkl3⟩ := HP3.out.ends.at HP3.out.here
          have HTk3 := hid ht3
          clear e3 b3 ht3 HT1 HP1 HE1 HY1
          go_wp2_with fail
          refine (sExpect_any HP3.out HTk3.out ⟨#[61]⟩ (by decide)).mono ?_
          rintro e w5 ⟨b5, q5, z5, rfl, P5, K5, hb1, hb2, hb3⟩
          have HP5 := hid P5
          have HE5 := hid (K5.up HE3.out (Nat.le_refl _))
          have HT5 := hid (K5.blk HT3.out (by omega) (by decide))
          have hB3 := hid hb3
          clear P5 K5 hb3 c1 f1 HP3 HE3 HT3
          cases b5
          · have hz5 := hb2 rfl
            have hno : s = cuS → False := fun e => by
              obtain ⟨e1, _⟩ := (HC.out e).name (HCT.out e) hk0
              have := HTk3.out
              rw [e1, HCUT.out e] at this
              exact absurd (hB3.out (cu_eq this)) (by decide)
            clear hb1 hb2
            have c0 := HP5.out.box.cell 0 rfl
            have c4 := HP5.out.box.cell 4 rfl
            have zB := HP5.out.box.lt
            have hlo := HP5.out.low
            have r0 := (HE5.out.block hA).trans rA.out
            have q0 := Blk.cell (show Blk w5 w.heap.size 26 [.slice none 0 0, .slice none 0 0] from r0) 0 rfl
            have q0f := Blk.free (show Blk w5 w.heap.size 26 [.slice none 0 0, .slice none 0 0] from r0) 0
            have q1 := Blk.cell (show Blk w5 w.heap.size 26 [.slice none 0 0, .slice none 0 0] from r0) 1 rfl
            have q1f := Blk.free (show Blk w5 w.heap.size 26 [.slice none 0 0, .slice none 0 0] from r0) 1
            have EW : Ext w w5 := HX1.out.trans HE5.out
            clear r0
            go_wp2_with fail
            refine wp_region_stagesS [([0, 1, 2, 3, 4], 5), ([], 6)] 6 (fun w' => ∃ d, w' = lowc (CBk w2.heap.size) _ d) (by kernel_rfl) (by kernel_rfl) (SC.drew _ _) ?_
            refine wpStagesS_cons ?_
            simp only [List.filterMap_cons, List.filterMap_nil, List.getElem?_toArray, List.getElem?_cons_zero, List.getElem?_cons_succ]
            show wpQuiet _ _ _ _ [_, _, _, _, _] _
            repeat (go_big_quiet_step (fail))
            refine wpQuiet_nil ⟨_, rfl, fun K hK => ?_⟩
            go_wp2_with fail
            refine hK _ _ (.inr (SC.blocks fun a ha => ?_)) ?_
            · unfold CBk at ha
              exact (Below.heap_setCell _ _ _ _ (by rw [ha]; simp only; omega)).trans (Below.heap_setCell _ _ _ _ (by rw [ha]; simp only; omega))
            clear hK K
            refine wpStagesS_cons ?_
            simp only [List.filterMap_nil]
            show wpQuiet _ _ _ _ [] _
            try simp only [Act.put, List.setIfInBounds_toArray, List.set_cons_succ, List.set_cons_zero]
            repeat (go_big_quiet_step (fail))
            refine wpQuiet_nil ⟨_, rfl, fun K hK => ?_⟩
            go_wp2_with fail
            refine hK _ _ (.inl trivial) ?_
            clear hK K
            refine wpStagesS_nil ?_
            go_wp2
            refine bodyPost_ret (v := .tuple #[.agg #[.slice none 0 0, .slice none 0 0], .int .i64 z5]) (by simp [results, Tryz.results45, go_sem, *]) rfl ?_
            exact ⟨⟨[], []⟩, _, z5, rfl, Prg.rNone _ _ _, Prg.bd_none, Prg.small_none, (by repeat (first | with_reducible assumption | with_reducible exact Ext.refl _ | with_reducible apply Ext.alloc | with_reducible apply Ext.drew | with_reducible apply Ext.drewN | (with_reducible refine Ext.setCell ?_ (by simp; omega) _) | (with_reducible refine Ext.setCell ?_ (by simp) _))), fun e => (hno e).elim⟩
          · obtain ⟨rfl, rfl⟩ := hb1 rfl
            clear hb1 hb2 hB3
            go_wp2_with fail
            refine (sExpression_any HP5.out (by decide) (by omega) 1 (by omega) (by omega)).mono ?_
            rintro e w6 ⟨r, q6, ns6, z6, nv6, rfl, hr, P6, K6, hz6, hx6⟩
            have HP6 := hid P6
            have HE6 := hid (K6.up HE5.out (Nat.le_refl _))
            have HT6 := hid (K6.blk HT5.out (by omega) (by decide))
            have HX6 := hid hx6
            have c4 := P6.box.cell 4 rfl
            have k6 := P6.k3000
            have hcu6 : s = cuS → z6 = -1 ∧ q6 = 3 ∧ ns6 = [cuN] ∧ r = 0 ∧ gs = [] := fun e => by
              obtain ⟨e1, e2, e3, _⟩ := (HC.out e).name (HCT.out e) hk0
              obtain ⟨i1, i2, i3, i4⟩ := HX6.out ⟨#[117]⟩ (by rw [HCUT.out e, e1, e2]; exact cu_lone)
              exact ⟨i1, by omega, by rw [i3, e2]; rfl, by rw [i4, e2]; rfl, e3⟩
            have HCU6 := hid hcu6
            clear P6 K6 hx6 hcu6 HP5 HE5 HT5
            by_cases hz60 : 0 ≤ z6
            · have hno : s = cuS → False := fun e => by
                have := (HCU6.out e).1
                omega
              have c0 := HP6.out.box.cell 0 rfl
              have c4 := HP6.out.box.cell 4 rfl
              have zB := HP6.out.box.lt
              have hlo := HP6.out.low
              have r0 := (HE6.out.block hA).trans rA.out
              have q0 := Blk.cell (show Blk w6 w.heap.size 26 [.slice none 0 0, .slice none 0 0] from r0) 0 rfl
              have q0f := Blk.free (show Blk w6 w.heap.size 26 [.slice none 0 0, .slice none 0 0] from r0) 0
              have q1 := Blk.cell (show Blk w6 w.heap.size 26 [.slice none 0 0, .slice none 0 0] from r0) 1 rfl
              have q1f := Blk.free (show Blk w6 w.heap.size 26 [.slice none 0 0, .slice none 0 0] from r0) 1
              have EW : Ext w w6 := HX1.out.trans HE6.out
              clear r0
              go_wp2_with fail
              refine wp_region_stagesS [([0, 1, 2, 3, 4], 5), ([], 6)] 6 (fun w' => ∃ d, w' = lowc (CBk w2.heap.size) _ d) (by kernel_rfl) (by kernel_rfl) (SC.drew _ _) ?_
              refine wpStagesS_cons ?_
              simp only [List.filterMap_cons, List.filterMap_nil, List.getElem?_toArray, List.getElem?_cons_zero, List.getElem?_cons_succ]
              show wpQuiet _ _ _ _ [_, _, _, _, _] _
              repeat (go_big_quiet_step (fail))
              refine wpQuiet_nil ⟨_, rfl, fun K hK => ?_⟩
              go_wp2_with fail
              refine hK _ _ (.inr (SC.blocks fun a ha => ?_)) ?_
              · unfold CBk at ha
                exact (Below.heap_setCell _ _ _ _ (by rw [ha]; simp only; omega)).trans (Below.heap_setCell _ _ _ _ (by rw [ha]; simp only; omega))
              clear hK K
              refine wpStagesS_cons ?_
              simp only [List.filterMap_nil]
              show wpQuiet _ _ _ _ [] _
              try simp only [Act.put, List.setIfInBounds_toArray, List.set_cons_succ, List.set_cons_zero]
              repeat (go_big_quiet_step (fail))
              refine wpQuiet_nil ⟨_, rfl, fun K hK => ?_⟩
              go_wp2_with fail
              refine hK _ _ (.inl trivial) ?_
              clear hK K
              refine wpStagesS_nil ?_
              go_wp2
              refine bodyPost_ret (v := .tuple #[.agg #[.slice none 0 0, .slice none 0 0], .int .i64 z6]) (by simp [results, Tryz.results45, go_sem, *]) rfl ?_
              exact ⟨⟨[], []⟩, _, z6, rfl, Prg.rNone _ _ _, Prg.bd_none, Prg.small_none, (by repeat (first | with_reducible assumption | with_reducible exact Ext.refl _ | with_reducible apply Ext.alloc | with_reducible apply Ext.drew | with_reducible apply Ext.drewN | (with_reducible refine Ext.setCell ?_ (by simp; omega) _) | (with_reducible refine Ext.setCell ?_ (by simp) _))), fun e => (hno e).elim⟩
            · obtain ⟨rfl, hq6⟩ := hz6.resolve_left hz60
              obtain ⟨t6, ht6, _, _, _, _, _, _⟩ := HP6.out.ends.at HP6.out.here
              have HTk6 := hid ht6
              clear ht6
              go_wp2_with fail
              refine (sExpect_any HP6.out HTk6.out ⟨#[59]⟩ (by decide)).mono ?_
              rintro e w7 ⟨b7, q7, z7, rfl, P7, K7, hb1, hb2, hb3⟩
              have HP7 := hid P7
              have HE7 := hid (K7.up HE6.out (Nat.le_refl _))
              have HT7 := hid (K7.blk HT6.out (by omega) (by decide))
              have hB3 := hid hb3
              clear P7 K7 hb3 c4 HP6 HE6 HT6
              cases b7
              · have hz7 := hb2 rfl
                have hno : s = cuS → False := fun e => by
                  obtain ⟨_, e1, _⟩ := HCU6.out e
                  have := HTk6.out
                  rw [e1, HCUT.out e] at this
                  exact absurd (hB3.out (cu_semi this)) (by decide)
                clear hb1 hb2
                have c0 := HP7.out.box.cell 0 rfl
                have c4 := HP7.out.box.cell 4 rfl
                have zB := HP7.out.box.lt
                have hlo := HP7.out.low
                have r0 := (HE7.out.block hA).trans rA.out
                have q0 := Blk.cell (show Blk w7 w.heap.size 26 [.slice none 0 0, .slice none 0 0] from r0) 0 rfl
                have q0f := Blk.free (show Blk w7 w.heap.size 26 [.slice none 0 0, .slice none 0 0] from r0) 0
                have q1 := Blk.cell (show Blk w7 w.heap.size 26 [.slice none 0 0, .slice none 0 0] from r0) 1 rfl
                have q1f := Blk.free (show Blk w7 w.heap.size 26 [.slice none 0 0, .slice none 0 0] from r0) 1
                have EW : Ext w w7 := HX1.out.trans HE7.out
                clear r0
                go_wp2_with fail
                refine wp_region_stagesS [([0, 1, 2, 3, 4], 5), ([], 6)] 6 (fun w' => ∃ d, w' = lowc (CBk w2.heap.size) _ d) (by kernel_rfl) (by kernel_rfl) (SC.drew _ _) ?_
                refine wpStagesS_cons ?_
                simp only [List.filterMap_cons, List.filterMap_nil, List.getElem?_toArray, List.getElem?_cons_zero, List.getElem?_cons_succ]
                show wpQuiet _ _ _ _ [_, _, _, _, _] _
                repeat (go_big_quiet_step (fail))
                refine wpQuiet_nil ⟨_, rfl, fun K hK => ?_⟩
                go_wp2_with fail
                refine hK _ _ (.inr (SC.blocks fun a ha => ?_)) ?_
                · unfold CBk at ha
                  exact (Below.heap_setCell _ _ _ _ (by rw [ha]; simp only; omega)).trans (Below.heap_setCell _ _ _ _ (by rw [ha]; simp only; omega))
                clear hK K
                refine wpStagesS_cons ?_
                simp only [List.filterMap_nil]
                show wpQuiet _ _ _ _ [] _
                try simp only [Act.put, List.setIfInBounds_toArray, List.set_cons_succ, List.set_cons_zero]
                repeat (go_big_quiet_step (fail))
                refine wpQuiet_nil ⟨_, rfl, fun K hK => ?_⟩
                go_wp2_with fail
                refine hK _ _ (.inl trivial) ?_
                clear hK K
                refine wpStagesS_nil ?_
                go_wp2
                refine bodyPost_ret (v := .tuple #[.agg #[.slice none 0 0, .slice none 0 0], .int .i64 z7]) (by simp [results, Tryz.results45, go_sem, *]) rfl ?_
                exact ⟨⟨[], []⟩, _, z7, rfl, Prg.rNone _ _ _, Prg.bd_none, Prg.small_none, (by repeat (first | with_reducible assumption | with_reducible exact Ext.refl _ | with_reducible apply Ext.alloc | with_reducible apply Ext.drew | with_reducible apply Ext.drewN | (with_reducible refine Ext.setCell ?_ (by simp; omega) _) | (with_reducible refine Ext.setCell ?_ (by simp) _))), fun e => (hno e).elim⟩
              · obtain ⟨rfl, rfl⟩ := hb1 rfl
                clear hb1 hb2 hB3
                have c3 := HP7.out.box.cell 3 rfl
                have c0 := HP7.out.box.cell 0 rfl
                have f3 := HP7.out.box.free 3
                have t1 := HT7.out.cell 1 rfl
                have zT := HT7.out.lt
                have zB7 := HP7.out.box.lt
                have hlo := HP7.out.low
                obtain ⟨ga, gc, rfl, -⟩ := OwnG.form HP7.out.asgs
                go_wp2_with fail
                refine wp_region_phases [([0, 1, 2, 3, 4, 5, 6, 7, 8, 9], 10), ([], 11)] [([], 12), ([], 13), ([], 14), ([], 15)] 12 (fun w' => ∃ d, w' = lowc (C2b w2.heap.size wr.heap.size) _ d) (by kernel_rfl) (by kernel_rfl) (SC.drew _ _) ?_
                refine wpStagesS_cons ?_
                simp only [List.filterMap_cons, List.filterMap_nil, List.getElem?_toArray, List.getElem?_cons_zero, List.getElem?_cons_succ]
                show wpQuiet _ _ _ _ [_, _, _, _, _, _, _, _, _, _] _
                repeat (go_big_quiet_step (fail))
                refine wpQuiet_nil ⟨_, rfl, fun K hK => ?_⟩
                go_wp2_with fail
                have y8 : Ext w7 ((w7.alloc (.cells #[.string t.text, .int .i64 (r : Nat)] 74)).drew) := (by repeat (first | with_reducible assumption | with_reducible exact Ext.refl _ | with_reducible apply Ext.alloc | with_reducible apply Ext.drew | with_reducible apply Ext.drewN | (with_reducible refine Ext.setCell ?_ (by simp; omega) _) | (with_reducible refine Ext.setCell ?_ (by simp) _)))
                have B8 := (Blk.new w7 74 [.string t.text, .int .i64 (r : Nat)]).ext (show Ext (w7.alloc (.cells #[.string t.text, .int .i64 (r : Nat)] 74)) ((w7.alloc (.cells #[.string t.text, .int .i64 (r : Nat)] 74)).drew) from (by repeat (first | with_reducible assumption | with_reducible exact Ext.refl _ | with_reducible apply Ext.alloc | with_reducible apply Ext.drew | with_reducible apply Ext.drewN | (with_reducible refine Ext.setCell ?_ (by simp; omega) _) | (with_reducible refine Ext.setCell ?_ (by simp) _))))
                refine hK _ _ (.inr (SC.blocks fun a ha => ?_)) ?_
                · rcases ha with ha | ha
                  · exact y8.block (by rw [ha]; omega)
                  · exact y8.block (by rw [ha]; omega)
                clear hK K
                have HB8 := hid B8
                have HP8 := hid (HP7.out.ext y8)
                have HE8 := hid (HE7.out.trans y8)
                have HY8 := hid y8
                have z8 := y8.size
                clear y8 B8
                refine wpStagesS_cons ?_
                simp only [List.filterMap_nil]
                show wpQuiet _ _ _ _ [] _
                try simp only [Act.put, List.setIfInBounds_toArray, List.set_cons_succ, List.set_cons_zero]
                repeat (go_big_quiet_step (fail))
                refine wpQuiet_nil ⟨_, rfl, fun K hK => ?_⟩
                refine wpList_append_asg _ rfl _ _ rfl (w.alloc (.cells #[.slice none 0 0, .slice none 0 0] 26)).heap.size (.slice ga gs.length gc) gs rfl HP8.out.asgs ⟨t.text, (r : Nat)⟩ w7.heap.size rfl ⟨HB8.out.cell 0 rfl, HB8.out.cell 1 rfl⟩ (by omega) (by omega) ?_
                intro gv2 w9 hown hg
                have hrow := OwnG.row HP8.out.asgs
                have kB : w9.heap[w2.heap.size]? = w7.heap[w2.heap.size]? := (hg.block _ (by omega) (fun e => by
                  obtain ⟨_, c, hc⟩ := hrow _ e.symm
                  exact HP8.out.notBox (by decide) c hc)).trans (HY8.out.block zB7)
                have kT : w9.heap[wr.heap.size]? = w7.heap[wr.heap.size]? := (hg.block _ (by omega) (fun e => by
                  obtain ⟨_, c, hc⟩ := hrow _ e.symm
                  have h1 := HT7.out.ext HY8.out
                  unfold Blk at h1
                  rw [h1] at hc
                  simp only [Option.some.injEq, Obj.cells.injEq] at hc
                  exact absurd hc.2.1 (by decide))).trans (HY8.out.block zT)
                have HP9 := hid (HP8.out.setGs hg hown)
                have HE9 := hid (Ext.setCell (Ext.grown HE8.out hg (fun k hk => (hrow k hk).1)) (p := ⟨w2.heap.size, 3, none⟩) HP8.out.low gv2)
                have B9 := HP7.out.box.of kB
                have e3 := B9.cell 3 rfl
                have e0 := B9.cell 0 rfl
                have g3 := B9.free 3
                go_wp2_with fail
                refine hK _ _ (.inr (SC.blocks fun a ha => ?_)) ?_
                · rcases ha with ha | ha
                  · rw [ha]; exact kB
                  · rw [ha]; exact kT
                clear hK K
                obtain ⟨ga2, gc2, hv, _⟩ := OwnG.form hown
                have hll : (gs ++ [(⟨t.text, (r : Nat)⟩ : Asg)]).length = gs.length + 1 := by simp
                rw [hll] at hv
                subst hv
                clear hown hg hrow kB kT c3 c0 f3 t1 B9
                refine wpPhase_end (wpPhase_free ?_)
                refine wpStagesS_cons ?_
                simp only [List.filterMap_nil]
                show wpQuiet _ _ _ _ [] _
                try simp only [Act.put, List.setIfInBounds_toArray, List.set_cons_succ, List.set_cons_zero]
                repeat (go_big_quiet_step (fail))
                refine wpQuiet_nil ⟨_, rfl, fun K hK => ?_⟩
                go_wp2_with fail
                go_wp2_with fail
                refine hK _ _ (.inr (trivial)) ?_
                clear hK K
                refine wpStagesS_cons ?_
                simp only [List.filterMap_nil]
                show wpQuiet _ _ _ _ [] _
                try simp only [Act.put, List.setIfInBounds_toArray, List.set_cons_succ, List.set_cons_zero]
                repeat (go_big_quiet_step (fail))
                refine wpQuiet_nil ⟨_, rfl, fun K hK => ?_⟩
                go_wp2_with fail
                go_wp2_with fail
                refine hK _ _ (.inr (trivial)) ?_
                clear hK K
                refine wpStagesS_cons ?_
                simp only [List.filterMap_nil]
                show wpQuiet _ _ _ _ [] _
                try simp only [Act.put, List.setIfInBounds_toArray, List.set_cons_succ, List.set_cons_zero]
                repeat (go_big_quiet_step (fail))
                refine wpQuiet_nil ⟨_, rfl, fun K hK => ?_⟩
                go_wp2_with fail
                go_wp2_with fail
                refine hK _ _ (.inr (trivial)) ?_
                clear hK K
                refine wpStagesS_cons ?_
                simp only [List.filterMap_nil]
                show wpQuiet _ _ _ _ [] _
                try simp only [Act.put, List.setIfInBounds_toArray, List.set_cons_succ, List.set_cons_zero]
                repeat (go_big_quiet_step (fail))
                refine wpQuiet_nil ⟨_, rfl, fun K hK => ?_⟩
                go_wp2_with fail
                go_wp2_with fail
                refine hK _ _ (.inr (trivial)) ?_
                clear hK K
                refine wpStagesS_nil ?_
                go_wp2
                go_roundw
                case rel => exact ⟨q6 + 1, ns6, gs ++ [(⟨t.text, (r : Nat)⟩ : Asg)], _, _, HP9.out, HE9.out, (fun y hy => by
                  rcases List.mem_append.1 hy with hy | hy
                  · exact hgs.out y hy
                  · simp only [List.mem_cons, List.not_mem_nil, or_false] at hy
                    subst hy
                    exact ⟨⟨by show (-9223372036854775808 : Int) ≤ ((r : Nat) : Int); omega, by show ((r : Nat) : Int) ≤ 9223372036854775807; omega⟩, tts⟩), by omega, fun e => by
                  obtain ⟨_, i1, i2, i3, i4⟩ := HCU6.out e
                  obtain ⟨_, _, _, _, i5⟩ := (HC.out e).name (HCT.out e) hk0
                  exact .inr ⟨by omega, i2, by rw [i3, i4, i5]; rfl⟩⟩
                case measure =>
                  rw [HP9.out.msr, HP.out.msr, if_neg (by omega), if_neg (by omega)]
                  have := HP9.out.here
                  omega
        · go_wp2_with fail
          refine (sFail_any HP1.out).mono ?_
          rintro e w3 ⟨z3, rfl, hz, P3, K3⟩
          have HP3 := hid P3
          have HE3 := hid (K3.up HE1.out (Nat.le_refl _))
          have hno : s = cuS → False := fun e => hk2 ((HC.out e).name (HCT.out e) hk0).2.2.2.1
          clear P3 K3
          have c0 := HP3.out.box.cell 0 rfl
          have c4 := HP3.out.box.cell 4 rfl
          have zB := HP3.out.box.lt
          have hlo := HP3.out.low
          have r0 := (HE3.out.block hA).trans rA.out
          have q0 := Blk.cell (show Blk w3 w.heap.size 26 [.slice none 0 0, .slice none 0 0] from r0) 0 rfl
          have q0f := Blk.free (show Blk w3 w.heap.size 26 [.slice none 0 0, .slice none 0 0] from r0) 0
          have q1 := Blk.cell (show Blk w3 w.heap.size 26 [.slice none 0 0, .slice none 0 0] from r0) 1 rfl
          have q1f := Blk.free (show Blk w3 w.heap.size 26 [.slice none 0 0, .slice none 0 0] from r0) 1
          have EW : Ext w w3 := HX1.out.trans HE3.out
          clear r0
          go_wp2_with fail
          refine wp_region_stagesS [([0, 1, 2, 3, 4], 5), ([], 6)] 6 (fun w' => ∃ d, w' = lowc (CBk w2.heap.size) _ d) (by kernel_rfl) (by kernel_rfl) (SC.drew _ _) ?_
          refine wpStagesS_cons ?_
          simp only [List.filterMap_cons, List.filterMap_nil, List.getElem?_toArray, List.getElem?_cons_zero, List.getElem?_cons_succ]
          show wpQuiet _ _ _ _ [_, _, _, _, _] _
          repeat (go_big_quiet_step (fail))
          refine wpQuiet_nil ⟨_, rfl, fun K hK => ?_⟩
          go_wp2_with fail
          refine hK _ _ (.inr (SC.blocks fun a ha => ?_)) ?_
          · unfold CBk at ha
            exact (Below.heap_setCell _ _ _ _ (by rw [ha]; simp only; omega)).trans (Below.heap_setCell _ _ _ _ (by rw [ha]; simp only; omega))
          clear hK K
          refine wpStagesS_cons ?_
          simp only [List.filterMap_nil]
          show wpQuiet _ _ _ _ [] _
          try simp only [Act.put, List.setIfInBounds_toArray, List.set_cons_succ, List.set_cons_zero]
          repeat (go_big_quiet_step (fail))
          refine wpQuiet_nil ⟨_, rfl, fun K hK => ?_⟩
          go_wp2_with fail
          refine hK _ _ (.inl trivial) ?_
          clear hK K
          refine wpStagesS_nil ?_
          go_wp2
          refine bodyPost_ret (v := .tuple #[.agg #[.slice none 0 0, .slice none 0 0], .int .i64 z3]) (by simp [results, Tryz.results45, go_sem, *]) rfl ?_
          exact ⟨⟨[], []⟩, _, z3, rfl, Prg.rNone _ _ _, Prg.bd_none, Prg.small_none, (by repeat (first | with_reducible assumption | with_reducible exact Ext.refl _ | with_reducible apply Ext.alloc | with_reducible apply Ext.drew | with_reducible apply Ext.drewN | (with_reducible refine Ext.setCell ?_ (by simp; omega) _) | (with_reducible refine Ext.setCell ?_ (by simp) _))), fun e => (hno e).elim⟩
end Go.Proofs.YtaegmenjgjdimaaGreat
end

section
/- This text proves the draw of programs: a program that the checker passes, of small size. -/
namespace Go.Proofs.YtaegmenjgjdimaaGreat
open Go.RowKit

theorem Prg.R.set2 {p : Prg} {lo hi l2 A : Nat} {w : World} {v : Value} (h : p.R lo hi w v) (hA : A < lo) (hl : l2 ≤ lo) (hh : hi ≤ w.heap.size) (u u' : Value) : p.R l2 ((w.setCell ⟨A, 0, none⟩ u).setCell ⟨A, 1, none⟩ u').heap.size ((w.setCell ⟨A, 0, none⟩ u).setCell ⟨A, 1, none⟩ u') v :=
  (h.same ((Same.setLow _ (p := ⟨A, 0, none⟩) hA u).trans (Same.setLow _ (p := ⟨A, 1, none⟩) hA u'))).low hl (by rw [World.size_setCell, World.size_setCell]; exact hh)
theorem Prg.R.ext' {p : Prg} {lo : Nat} {w w' : World} {v : Value} (h : p.R lo w.heap.size w v) (e : Ext w w') : p.R lo w'.heap.size w' v := (h.ext (Nat.le_refl _) e).low (Nat.le_refl _) e.size
theorem cu_chk : cuP.chkB = true := by
  unfold Prg.chkB
  simp only [Bool.and_eq_true]
  refine ⟨⟨⟨⟨?_, ?_⟩, ?_⟩, ?_⟩, ?_⟩
  · decide
  · simp [cuP, cuN, cuA, Prg.nameB, isVar, Lib.toList_data]
  · simp [cuP, cuN, cuA, Prg.arB]
  · simp [cuP, cuN, cuA, Prg.asB, isVar, asgB, Lib.toList_data]
  · simp [cuP, cuN, cuA, Prg.colB, asgB, Lib.toList_data]
set_option maxRecDepth 10000 in
set_option maxHeartbeats 6400000 in
theorem l14Good_any (hi B : Nat) (w : World) (hc : Cur hi w B) : Calls Tryz.prog 19 #[.pointer (some ⟨B, 0, none⟩)] w fun e w' => ∃ (p : Prg) (v : Value), e = .returned v ∧ p.R w.heap.size w'.heap.size w' v ∧ p.bd ∧ p.small ∧ p.chkB = true ∧ Gr B w w' := by
  have zB := hc.lt
  have hB := Blk.new w 26 [.slice none 0 0, .slice none 0 0]
  have x1 : Ext w (w.alloc (.cells #[.slice none 0 0, .slice none 0 0] 26)) := (by repeat (with_reducible (first | assumption | exact Ext.refl _ | apply Ext.alloc | apply Ext.drew | apply Ext.drewN)))
  have HC1 := hid (hc.ext x1)
  have HB1 := hid hB
  have HX1 := hid x1
  have z1 : (w.alloc (.cells #[.slice none 0 0, .slice none 0 0] 26)).heap.size = w.heap.size + 1 := World.size_alloc _ _
  clear hc hB x1
  go_enter Tryz.func19, Tryz.ntmps19
  go_wp2_with fail
  go_loopw [3] (fun i wr => ∃ k : Nat, k ≤ 20 ∧ i = .int .i64 (k : Nat) ∧ Cur hi wr B ∧ Gr B (w.alloc (.cells #[.slice none 0 0, .slice none 0 0] 26)) wr) (fun i _ => 20 - (intOf i).toNat)
  case atStart => exact ⟨0, by omega, rfl, HC1.out, Gr.refl _ _⟩
  case round =>
    obtain ⟨k, hk, rfl, C, G⟩ := hrel
    have HC := hid C
    have HG := hid G
    clear C G HC1
    by_cases hlt : k < 20
    · go_wp2_with fail
      refine (sSource_any hi B _ HC.out).mono ?_
      rintro e w3 ⟨s, rfl, hs, C3, G3⟩
      have HC3 := hid C3
      have HG3 := hid (HG.out.trans G3)
      clear C3 G3 HC HG
      go_wp2_with fail
      refine (sParse_any s w3 (by unfold maxLen; omega)).mono ?_
      rintro e w4 ⟨p, v, n, rfl, R4, bd4, sm4, x4, -⟩
      obtain ⟨na, nc, ga, gc, rfl, -, -⟩ := R4.form
      have HR := hid R4
      have HX4 := hid x4
      have zx := x4.size
      have y5 : Ext w4 (w4.alloc (.cells #[.slice na p.ns.length nc, .slice ga p.gs.length gc] 26)) := (by repeat (with_reducible (first | assumption | exact Ext.refl _ | apply Ext.alloc | apply Ext.drew | apply Ext.drewN)))
      have HR5 := hid (R4.ext (Nat.le_refl _) y5)
      have HY5 := hid y5
      have zy := y5.size
      clear R4 x4 y5
      have b5 := Blk.new w4 26 [.slice na p.ns.length nc, .slice ga p.gs.length gc]
      have HB5 := hid b5
      clear b5
      go_wp2_with fail
      refine (sCheck_any _ _ _ p _ HR5.out zy bd4 sm4.1.1 sm4.2).mono ?_
      rintro e w6 ⟨⟨c, q, rfl, hcc⟩, x6⟩
      have HX6 := hid (HY5.out.trans x6)
      have HB6 := hid (HB5.out.ext x6)
      have r0 := HG3.out.blk HB1.out (by omega)
      have HR0 := hid (r0.ext (HX4.out.trans (HY5.out.trans x6)))
      have HG6 := hid (HG3.out.ext (HX4.out.trans (HY5.out.trans x6)))
      have HC6 := hid (HC3.out.ext (HX4.out.trans (HY5.out.trans x6)))
      have HR6 := hid (HR5.out.ext zy x6)
      have q0 := HB6.out.cell 0 rfl
      have q1 := HB6.out.cell 1 rfl
      have z6 := x6.size
      have zg3 := HG3.out.size
      have hh6 := HX6.out.size
      have zlt := HB6.out.lt
      clear x6 r0 HX4 HY5 HR5 HB5 HC3 HG3 HR
      by_cases h0 : c = 0
      · have hchk : p.chkB = true := by rw [← hcc]; exact beq_iff_eq.2 h0
        have HCH := hid hchk
        have g0 := HR0.out.cell 0 rfl
        have g1 := HR0.out.cell 1 rfl
        have k0 := HR0.out.free 0
        have k1 := HR0.out.free 1
        have zR := HR0.out.lt
        have zg := HG6.out.size
        clear hchk hcc
        go_wp2
        refine bodyPost_ret (v := .agg #[.slice na p.ns.length nc, .slice ga p.gs.length gc]) (by simp [results, Tryz.results19, go_sem, *]) rfl ?_
        exact ⟨p, _, rfl, HR6.out.set2 (by omega) (by omega) (by omega) _ _, bd4, sm4, HCH.out, ((((Gr.refl B w).ext HX1.out).trans HG6.out).setNew (Nat.le_refl _) _ _).setNew (Nat.le_refl _) _ _⟩
      · clear hcc
        go_wp2
        go_roundw
        case rel => exact ⟨k + 1, by omega, by go_num, HC6.out, HG6.out⟩
        case measure => simp [intOf]; omega
    · obtain rfl : k = 20 := by omega
      go_wp2_with fail
      refine (sParse_any cuS wr (by decide)).mono ?_
      rintro e w4 ⟨p, v, n, rfl, R4, bd4, sm4, x4, hcu⟩
      obtain rfl := hcu rfl
      obtain ⟨na, nc, ga, gc, rfl, -, -⟩ := R4.form
      have HR := hid R4
      have HX4 := hid x4
      have r0 := (HG.out.blk HB1.out (by omega)).ext x4
      have HG6 := hid (HG.out.ext x4)
      have zx := x4.size
      have zg3 := HG.out.size
      have g0 := r0.cell 0 rfl
      have g1 := r0.cell 1 rfl
      have k0 := r0.free 0
      have k1 := r0.free 1
      have zR := r0.lt
      clear R4 x4 hcu r0 HC HG
      go_wp2
      refine bodyPost_ret (v := .agg #[.slice na cuP.ns.length nc, .slice ga cuP.gs.length gc]) (by simp [results, Tryz.results19, go_sem, *]) rfl ?_
      exact ⟨cuP, _, rfl, (HR.out.set2 (A := w.heap.size) (l2 := w.heap.size) (by omega) (by omega) (Nat.le_refl _) _ _).ext' (by repeat (with_reducible (first | assumption | exact Ext.refl _ | apply Ext.alloc | apply Ext.drew | apply Ext.drewN))), bd4, sm4, cu_chk, (((((Gr.refl B w).ext HX1.out).trans HG6.out).setNew (Nat.le_refl _) _ _).setNew (Nat.le_refl _) _ _).ext (by repeat (with_reducible (first | assumption | exact Ext.refl _ | apply Ext.alloc | apply Ext.drew | apply Ext.drewN)))⟩
set_option maxHeartbeats 800000 in
theorem MakeProgram_any (hi : Nat) (v : Value) (n : Nat) (w : World) (hv : Byts hi w v n) (hh : hi ≤ w.heap.size) (hn : n ≤ 1048576) :
    Calls Tryz.prog 6 #[v] w fun e w' => ∃ (p : Prg) (v : Value), e = .returned v ∧ p.R w.heap.size w'.heap.size w' v ∧ p.bd ∧ p.small ∧ p.chkB = true ∧ Ext w w' := by
  have HV := hid hv
  obtain ⟨a, cap, rfl, k1, k2⟩ := hv.open
  clear hv
  go_enter Tryz.func6, Tryz.ntmps6
  go_wp2_with fail
  refine (l01New_any hi _ n _ (HV.out.ext hh (by repeat (with_reducible (first | assumption | exact Ext.refl _ | apply Ext.alloc | apply Ext.drew | apply Ext.drewN)))) (by simp; omega) hn).mono ?_
  rintro e w1 ⟨B, rfl, hB, C1, x1⟩
  go_wp2_with fail
  refine (l14Good_any hi B _ C1).mono ?_
  rintro e w2 ⟨p, v2, rfl, R2, bd2, sm2, ch2, G2⟩
  obtain ⟨na, nc, ga, gc, rfl, -, -⟩ := R2.form
  rw [World.size_alloc] at hB
  have x1' : Ext w w1 := Ext.trans (by repeat (with_reducible (first | assumption | exact Ext.refl _ | apply Ext.alloc | apply Ext.drew | apply Ext.drewN))) x1
  have R0 := G2.blk ((Blk.new w 26 [.slice none 0 0, .slice none 0 0]).ext x1) (by omega)
  have r0 := R0.cell 0 rfl
  have r1 := R0.cell 1 rfl
  have f0 := R0.free 0
  have f1 := R0.free 1
  have z1 := R0.lt
  have zz := x1.size
  rw [World.size_alloc] at zz
  have HR := hid R2
  have HG := hid (G2.up x1' (by omega))
  clear R2
  go_wp2
  refine bodyPost_ret (v := .agg #[.slice na p.ns.length nc, .slice ga p.gs.length gc]) (by simp [results, Tryz.results6, go_sem, *]) rfl ?_
  exact ⟨p, _, rfl, HR.out.set2 (by omega) (by omega) (Nat.le_refl _) _ _, bd2, sm2, ch2, Ext.setCell (Ext.setCell HG.out (Nat.le_refl _) _) (Nat.le_refl _) _⟩
end Go.Proofs.YtaegmenjgjdimaaGreat
end

section
/- This text proves what the basic functions over vectors compute. -/
namespace Go.Proofs.YtaegmenjgjdimaaGreat
open Go.RowKit

/-- a vector as a value -/
def vecV (x y z : Int) : Value := .agg #[.int .i64 x, .int .i64 y, .int .i64 z]
def cl (n : Int) : Int := clampI n (-1000000) 1000000

theorem l02N_cl {n c : Int} (h : cl n = c) (w : World) : Calls Tryz.prog 137 #[.int .i64 n] w fun e w' => e = .returned (.int .i64 c) ∧ w = w' := by
  go_enter Tryz.func137, Tryz.ntmps137
  go_wp2_with fail
  refine (sClamp_val h _).mono ?_
  rintro e w1 ⟨rfl, rfl⟩
  go_wp2
  go_ret
  exact ⟨rfl, rfl⟩

set_option maxHeartbeats 800000 in
theorem l02V_val {x y z a b c : Int} (ha : cl x = a) (hb : cl y = b) (hc : cl z = c) (w : World) :
    Calls Tryz.prog 113 #[.agg #[.int .i64 x, .int .i64 y, .int .i64 z]] w fun e w' => e = .returned (.agg #[.int .i64 a, .int .i64 b, .int .i64 c]) ∧ Ext w w' := by
  have HA := hid ha
  have HB := hid hb
  have HC := hid hc
  clear ha hb hc
  go_enter Tryz.func113, Tryz.ntmps113
  go_wp2
  refine wp_region_stages [([0, 1, 3, 4, 6, 7], 2), ([], 5), ([], 8), ([9], 10)] 10 (w.heap.size + 1 + 1) (by kernel_rfl) (by kernel_rfl) ?_
  refine wpStages_cons ?_
  simp only [List.filterMap_cons, List.filterMap_nil, List.getElem?_toArray, List.getElem?_cons_zero, List.getElem?_cons_succ]
  show wpQuiet _ _ _ _ [_, _, _, _, _, _] _
  repeat (go_big_quiet_step (fail))
  refine wpQuiet_nil ⟨_, rfl, fun K hK => ?_⟩
  go_wp2_with fail
  refine (l02N_cl HA.out _).mono ?_
  rintro e w1 ⟨rfl, rfl⟩
  go_wp2_with fail
  refine hK _ _ (.inr (fun b _ hb => Ext.block (by repeat (with_reducible (first | assumption | exact Ext.refl _ | apply Ext.alloc | apply Ext.drew | apply Ext.drewN))) (by simp; omega))) ?_
  clear hK K
  refine wpStages_cons ?_
  simp only [List.filterMap_nil]
  show wpQuiet _ _ _ _ [] _
  try simp only [Act.put, List.setIfInBounds_toArray, List.set_cons_succ, List.set_cons_zero]
  refine wpQuiet_nil ⟨_, rfl, fun K hK => ?_⟩
  go_wp2_with fail
  refine (l02N_cl HB.out _).mono ?_
  rintro e w1 ⟨rfl, rfl⟩
  go_wp2_with fail
  refine hK _ _ (.inr (fun b _ hb => Ext.block (by repeat (with_reducible (first | assumption | exact Ext.refl _ | apply Ext.alloc | apply Ext.drew | apply Ext.drewN))) (by simp; omega))) ?_
  clear hK K
  refine wpStages_cons ?_
  simp only [List.filterMap_nil]
  show wpQuiet _ _ _ _ [] _
  try simp only [Act.put, List.setIfInBounds_toArray, List.set_cons_succ, List.set_cons_zero]
  refine wpQuiet_nil ⟨_, rfl, fun K hK => ?_⟩
  go_wp2_with fail
  refine (l02N_cl HC.out _).mono ?_
  rintro e w1 ⟨rfl, rfl⟩
  go_wp2_with fail
  refine hK _ _ (.inr (fun b _ hb => Ext.block (by repeat (with_reducible (first | assumption | exact Ext.refl _ | apply Ext.alloc | apply Ext.drew | apply Ext.drewN))) (by simp; omega))) ?_
  clear hK K
  refine wpStages_cons ?_
  simp only [List.filterMap_cons, List.filterMap_nil, List.getElem?_toArray, List.getElem?_cons_zero, List.getElem?_cons_succ]
  show wpQuiet _ _ _ _ [_] _
  try simp only [Act.put, List.setIfInBounds_toArray, List.set_cons_succ, List.set_cons_zero]
  repeat (go_big_quiet_step (fail))
  refine wpQuiet_nil ⟨_, rfl, fun K hK => ?_⟩
  go_wp2_with fail
  refine hK _ _ (.inl (by trivial)) (wpStages_nil ?_)
  clear hK K
  go_wp2
  exact bodyPost_ret (v := .agg #[.int .i64 a, .int .i64 b, .int .i64 c]) (by simp [results, Tryz.results113, go_sem, *]) rfl ⟨rfl, (by repeat (first | with_reducible assumption | with_reducible exact Ext.refl _ | with_reducible apply Ext.alloc | with_reducible apply Ext.drew | with_reducible apply Ext.drewN | (with_reducible refine Ext.setCell ?_ (by simp; omega) _) | (with_reducible refine Ext.setCell ?_ (by simp) _)))⟩
end Go.Proofs.YtaegmenjgjdimaaGreat
end

section
/- This text proves what sums, products and quotients of vectors compute. -/
namespace Go.Proofs.YtaegmenjgjdimaaGreat
open Go.RowKit

end Go.Proofs.YtaegmenjgjdimaaGreat
end

section
/- This text proves what the sum of two vectors is: the program's and the reference's; and when a vector is valid. -/
namespace Go.Proofs.YtaegmenjgjdimaaGreat
open Go.RowKit

def addC (x k : Int) : Int := cl (cl x + cl k)
theorem cl_bd (n : Int) : -1000000 ≤ cl n ∧ cl n ≤ 1000000 := by
  unfold cl clampI
  split
  · omega
  · split <;> omega

end Go.Proofs.YtaegmenjgjdimaaGreat
end

section
/- This text proves what the program's product of two vectors is. -/
namespace Go.Proofs.YtaegmenjgjdimaaGreat
open Go.RowKit

def dotC (x y z k l m : Int) : Int := cl x * cl k + cl y * cl l + cl z * cl m
theorem mul_range {a b : Int} (h1 : -1000000 ≤ a) (h2 : a ≤ 1000000) (h3 : -1000000 ≤ b) (h4 : b ≤ 1000000) : -1000000000000 ≤ a * b ∧ a * b ≤ 1000000000000 := by
  have k1 := Int.mul_nonneg (show 0 ≤ 1000000 - a by omega) (show 0 ≤ 1000000 - b by omega)
  have k2 := Int.mul_nonneg (show 0 ≤ 1000000 + a by omega) (show 0 ≤ 1000000 + b by omega)
  have k3 := Int.mul_nonneg (show 0 ≤ 1000000 - a by omega) (show 0 ≤ 1000000 + b by omega)
  have k4 := Int.mul_nonneg (show 0 ≤ 1000000 + a by omega) (show 0 ≤ 1000000 - b by omega)
  simp only [Int.sub_mul, Int.mul_sub, Int.add_mul, Int.mul_add] at k1 k2 k3 k4
  omega

end Go.Proofs.YtaegmenjgjdimaaGreat
end

section
/- This text proves when a vector is valid: the program's word and the reference's. -/
namespace Go.Proofs.YtaegmenjgjdimaaGreat
open Go.RowKit

def okVec (x y z : Int) : Bool := inB x (-1000000) 1000000 && inB y (-1000000) 1000000 && inB z (-1000000) 1000000
theorem cl_fix (n : Int) : (n = cl n) ↔ inB n (-1000000) 1000000 = true := by
  rw [inB_iff]
  unfold cl clampI
  split
  · omega
  · split <;> omega

theorem run_eqVec (x y z a b c : Int) (w : World) : (binOp .eql 106 (.agg #[.int .i64 x, .int .i64 y, .int .i64 z]) (.agg #[.int .i64 a, .int .i64 b, .int .i64 c])).run Tryz.prog w = .ok (.bool (decide (x = a) && (decide (y = b) && decide (z = c)))) w := by
  by_cases h1 : x = a
  · by_cases h2 : y = b
    · by_cases h3 : z = c <;> simp [go_sem, Tryz.underlying106, Tryz.stoodInHeld106, Tryz.underlying3, h1, h2, h3]
    · simp [go_sem, Tryz.underlying106, Tryz.stoodInHeld106, Tryz.underlying3, h1, h2]
  · simp [go_sem, Tryz.underlying106, Tryz.stoodInHeld106, Tryz.underlying3, h1]
theorem okVec_eq (x y z : Int) : (decide (x = cl x) && (decide (y = cl y) && decide (z = cl z))) = okVec x y z := by
  simp only [cl_fix, okVec, Bool.decide_eq_true, Bool.and_assoc]

set_option maxHeartbeats 800000 in
theorem sIsValidVec_val {x y z : Int} (w : World) :
    Calls Tryz.prog 112 #[.agg #[.int .i64 x, .int .i64 y, .int .i64 z]] w fun e w' => e = .returned (.bool (okVec x y z)) ∧ Ext w w' := by
  obtain ⟨a, ha⟩ : ∃ a, cl x = a := ⟨_, rfl⟩
  obtain ⟨b, hb⟩ : ∃ a, cl y = a := ⟨_, rfl⟩
  obtain ⟨c, hc⟩ : ∃ a, cl z = a := ⟨_, rfl⟩
  have HA := hid ha
  have HB := hid hb
  have HC := hid hc
  have HO := hid (show (decide (x = a) && (decide (y = b) && decide (z = c))) = okVec x y z by rw [← ha, ← hb, ← hc]; exact okVec_eq x y z)
  clear ha hb hc
  have hq := fun w => run_eqVec x y z a b c w
  go_enter Tryz.func112, Tryz.ntmps112
  go_wp2
  refine wp_region_ext (by kernel_rfl) (by kernel_rfl) ?_
  repeat (go_big_quiet_step ((go_at_call 113; exact grow_call (l02V_val HA.out HB.out HC.out _))))
  refine wpQuiet_nil ?_
  intro w1 h1
  go_wp2
  go_ret
  exact ⟨ret_bool HO.out, Ext.trans (by repeat (with_reducible (first | assumption | exact Ext.refl _ | apply Ext.alloc | apply Ext.drew | apply Ext.drewN))) h1⟩
end Go.Proofs.YtaegmenjgjdimaaGreat
end

section
/- This text proves the draw of patches: their corners' numbers are small; and the points of such patches. -/
namespace Go.Proofs.YtaegmenjgjdimaaGreat
open Go.RowKit

/-- small numbers -/
def SmF (f : Nat → Int) : Prop := ∀ i, -1000 ≤ f i ∧ f i ≤ 1000
theorem SmF.put {f : Nat → Int} (h : SmF f) (i : Nat) {x : Int} (hx : -1000 ≤ x ∧ x ≤ 1000) : SmF (fun j => if j = i then x else f j) := fun j => by
  show -1000 ≤ (if j = i then x else f j) ∧ (if j = i then x else f j) ≤ 1000
  split
  · exact hx
  · exact h j
theorem RowI.put1 {w : World} {b : Nat} {t : TypeId} {n : Nat} {f : Nat → Int} (h : RowI w b t n f) (i : Nat) (x : Int) : RowI (w.setCell ⟨b, i, none⟩ (.int .i64 x)) b t n (fun j => if j = i then x else f j) := by
  have := World.rowIs.set h i (.int .i64 x)
  refine World.rowIs.congr this fun j hj => ?_
  show _ = Value.int .i64 (if j = i then x else f j)
  split <;> rfl
theorem twelve1 {i : Nat} (h : i < 12) : i = 0 ∨ i = 1 ∨ i = 2 ∨ i = 3 ∨ i = 4 ∨ i = 5 ∨ i = 6 ∨ i = 7 ∨ i = 8 ∨ i = 9 ∨ i = 10 ∨ i = 11 := by omega
theorem row12_zero {w : World} {b : Nat} {t : TypeId} (hb : w.heap.size = b) : RowI (w.alloc (.cells #[.int .i64 0, .int .i64 0, .int .i64 0, .int .i64 0, .int .i64 0, .int .i64 0, .int .i64 0, .int .i64 0, .int .i64 0, .int .i64 0, .int .i64 0, .int .i64 0] t)) b t 12 (fun _ => 0) :=
  hb ▸ World.rowIs_alloc _ _ _ _ fun i hi => by rcases twelve1 hi with h | h | h | h | h | h | h | h | h | h | h | h <;> subst h <;> rfl
set_option maxRecDepth 20000 in
set_option maxHeartbeats 6400000 in
theorem l05Draw_any (hi B : Nat) (w : World) (hc : Cur hi w B) : Calls Tryz.prog 49 #[.pointer (some ⟨B, 0, none⟩)] w fun e w' => ∃ f : Nat → Int, e = .returned (.agg #[.int .i64 (f 0), .int .i64 (f 1), .int .i64 (f 2), .int .i64 (f 3), .int .i64 (f 4), .int .i64 (f 5), .int .i64 (f 6), .int .i64 (f 7), .int .i64 (f 8), .int .i64 (f 9), .int .i64 (f 10), .int .i64 (f 11)]) ∧ SmF f ∧ Cur hi w' B ∧ Gr B w w' := by
  have HC0 := hid hc
  have zB := hc.lt
  have A0 := row12_zero (w := w) (t := 109) rfl
  have A1 := row12_zero (w := w.alloc (.cells #[.int .i64 0, .int .i64 0, .int .i64 0, .int .i64 0, .int .i64 0, .int .i64 0, .int .i64 0, .int .i64 0, .int .i64 0, .int .i64 0, .int .i64 0, .int .i64 0] 109)) (t := 109) (b := w.heap.size + 1) (World.size_alloc _ _)
  have HA0 := hid (A0.alloc (.cells #[.int .i64 0, .int .i64 0, .int .i64 0, .int .i64 0, .int .i64 0, .int .i64 0, .int .i64 0, .int .i64 0, .int .i64 0, .int .i64 0, .int .i64 0, .int .i64 0] 109))
  have HA1 := hid A1
  have x1 : Ext w ((w.alloc (.cells #[.int .i64 0, .int .i64 0, .int .i64 0, .int .i64 0, .int .i64 0, .int .i64 0, .int .i64 0, .int .i64 0, .int .i64 0, .int .i64 0, .int .i64 0, .int .i64 0] 109)).alloc (.cells #[.int .i64 0, .int .i64 0, .int .i64 0, .int .i64 0, .int .i64 0, .int .i64 0, .int .i64 0, .int .i64 0, .int .i64 0, .int .i64 0, .int .i64 0, .int .i64 0] 109)) := (by repeat (with_reducible (first | assumption | exact Ext.refl _ | apply Ext.alloc | apply Ext.drew | apply Ext.drewN)))
  have HX1 := hid x1
  have HC1 := hid (hc.ext x1)
  clear hc A0 A1 x1
  go_enter Tryz.func49, Tryz.ntmps49
  go_wp2_with fail
  refine (l01Below_any hi B 160 _ HC1.out (by decide) ⟨by decide, by decide⟩).mono ?_
  rintro e w3 ⟨x, rfl, hx, C3, G3⟩
  go_wp2_with fail
  refine (l01Below_any hi B 160 _ C3 (by decide) ⟨by decide, by decide⟩).mono ?_
  rintro e w4 ⟨y, rfl, hy, C4, G4⟩
  go_wp2_with fail
  refine (l01Below_any hi B 200 _ C4 (by decide) ⟨by decide, by decide⟩).mono ?_
  rintro e w5 ⟨z, rfl, hz, C5, G5⟩
  have G6 := (G3.trans G4).trans G5
  have HG6 := hid ((Gr.refl B w).ext HX1.out |>.trans G6)
  have HR6 := hid (HA1.out.of (G6.block _ HA1.out.lt (by simp; omega)))
  have HQ6 := hid (HA0.out.of (G6.block _ HA0.out.lt (by simp; omega)))
  have HC6 := hid C5
  clear C3 G3 C4 G4 C5 G5 G6 HC1 HX1 HA0 HA1 HC0
  go_wp2_with fail
  go_loopw [18] (fun i wr => ∃ k : Nat, k ≤ 4 ∧ i = .int .i64 (k : Nat) ∧ ∃ f, RowI wr w.heap.size 109 12 (fun _ => 0) ∧ RowI wr (w.heap.size + 1) 109 12 f ∧ SmF f ∧ Cur hi wr B ∧ Gr B w wr) (fun i _ => 4 - (intOf i).toNat)
  case atStart => exact ⟨0, by omega, rfl, fun _ => 0, HQ6.out, HR6.out, (fun i => ⟨by show (-1000 : Int) ≤ 0; decide, by show (0 : Int) ≤ 1000; decide⟩), HC6.out, HG6.out⟩
  case round =>
    obtain ⟨k, hk, rfl, f, hq, hr, hf, C, G⟩ := hrel
    have HQ := hid hq
    have HR := hid hr
    have HC := hid C
    have HG := hid G
    clear hq hr C G HR6 HC6 HG6 HQ6
    by_cases hlt : k < 4
    · have hk4 : k = 0 ∨ k = 1 ∨ k = 2 ∨ k = 3 := by omega
      rcases hk4 with h | h | h | h <;> subst h
      · go_wp2_with fail
        refine (l01Below_any hi B 60 _ HC.out (by decide) ⟨by decide, by decide⟩).mono ?_
        rintro e w3 ⟨a3, rfl, ha3, C3, G3⟩
        go_wp2_with fail
        refine (l01Below_any hi B 60 _ C3 (by decide) ⟨by decide, by decide⟩).mono ?_
        rintro e w4 ⟨a4, rfl, ha4, C4, G4⟩
        go_wp2_with fail
        refine (l01Below_any hi B 30 _ C4 (by decide) ⟨by decide, by decide⟩).mono ?_
        rintro e w5 ⟨a5, rfl, ha5, C5, G5⟩
        have G6 := (G3.trans G4).trans G5
        have HC6 := hid C5
        have HG6 := hid (HG.out.trans G6)
        have HR6 := hid (HR.out.of (G6.block _ HR.out.lt (by simp; omega)))
        have HQ6 := hid (HQ.out.of (G6.block _ HQ.out.lt (by simp; omega)))
        have e0 := HR6.out.frozen 0
        have e1 := HR6.out.frozen 1
        have e2 := HR6.out.frozen 2
        have d0 := HR6.out.cell (i := 0) (by decide)
        have d1 := HR6.out.cell (i := 1) (by decide)
        have d2 := HR6.out.cell (i := 2) (by decide)
        have s6 := HR6.out.lt
        clear C3 G3 C4 G4 C5 G5 G6 HC HG HR HQ
        go_wp2
        go_roundw
        case rel => exact ⟨1, by omega, by go_num, _, ((HQ6.out.other (by simp) _).other (by simp) _).other (by simp) _, ((HR6.out.put1 0 _).put1 1 _).put1 2 _, ((hf.put 0 (by omega)).put 1 (by omega)).put 2 (by omega), ((HC6.out.setNew (by omega) _ _).setNew (by omega) _ _).setNew (by omega) _ _, ((HG6.out.setNew (by omega) _ _).setNew (by omega) _ _).setNew (by omega) _ _⟩
        case measure => simp [intOf]
      · go_wp2_with fail
        refine (l01Below_any hi B 60 _ HC.out (by decide) ⟨by decide, by decide⟩).mono ?_
        rintro e w3 ⟨a3, rfl, ha3, C3, G3⟩
        go_wp2_with fail
        refine (l01Below_any hi B 60 _ C3 (by decide) ⟨by decide, by decide⟩).mono ?_
        rintro e w4 ⟨a4, rfl, ha4, C4, G4⟩
        go_wp2_with fail
        refine (l01Below_any hi B 30 _ C4 (by decide) ⟨by decide, by decide⟩).mono ?_
        rintro e w5 ⟨a5, rfl, ha5, C5, G5⟩
        have G6 := (G3.trans G4).trans G5
        have HC6 := hid C5
        have HG6 := hid (HG.out.trans G6)
        have HR6 := hid (HR.out.of (G6.block _ HR.out.lt (by simp; omega)))
        have HQ6 := hid (HQ.out.of (G6.block _ HQ.out.lt (by simp; omega)))
        have e0 := HR6.out.frozen 3
        have e1 := HR6.out.frozen 4
        have e2 := HR6.out.frozen 5
        have d0 := HR6.out.cell (i := 3) (by decide)
        have d1 := HR6.out.cell (i := 4) (by decide)
        have d2 := HR6.out.cell (i := 5) (by decide)
        have s6 := HR6.out.lt
        clear C3 G3 C4 G4 C5 G5 G6 HC HG HR HQ
        go_wp2
        go_roundw
        case rel => exact ⟨2, by omega, by go_num, _, ((HQ6.out.other (by simp) _).other (by simp) _).other (by simp) _, ((HR6.out.put1 3 _).put1 4 _).put1 5 _, ((hf.put 3 (by omega)).put 4 (by omega)).put 5 (by omega), ((HC6.out.setNew (by omega) _ _).setNew (by omega) _ _).setNew (by omega) _ _, ((HG6.out.setNew (by omega) _ _).setNew (by omega) _ _).setNew (by omega) _ _⟩
        case measure => simp [intOf]
      · go_wp2_with fail
        refine (l01Below_any hi B 60 _ HC.out (by decide) ⟨by decide, by decide⟩).mono ?_
        rintro e w3 ⟨a3, rfl, ha3, C3, G3⟩
        go_wp2_with fail
        refine (l01Below_any hi B 60 _ C3 (by decide) ⟨by decide, by decide⟩).mono ?_
        rintro e w4 ⟨a4, rfl, ha4, C4, G4⟩
        go_wp2_with fail
        refine (l01Below_any hi B 30 _ C4 (by decide) ⟨by decide, by decide⟩).mono ?_
        rintro e w5 ⟨a5, rfl, ha5, C5, G5⟩
        have G6 := (G3.trans G4).trans G5
        have HC6 := hid C5
        have HG6 := hid (HG.out.trans G6)
        have HR6 := hid (HR.out.of (G6.block _ HR.out.lt (by simp; omega)))
        have HQ6 := hid (HQ.out.of (G6.block _ HQ.out.lt (by simp; omega)))
        have e0 := HR6.out.frozen 6
        have e1 := HR6.out.frozen 7
        have e2 := HR6.out.frozen 8
        have d0 := HR6.out.cell (i := 6) (by decide)
        have d1 := HR6.out.cell (i := 7) (by decide)
        have d2 := HR6.out.cell (i := 8) (by decide)
        have s6 := HR6.out.lt
        clear C3 G3 C4 G4 C5 G5 G6 HC HG HR HQ
        go_wp2
        go_roundw
        case rel => exact ⟨3, by omega, by go_num, _, ((HQ6.out.other (by simp) _).other (by simp) _).other (by simp) _, ((HR6.out.put1 6 _).put1 7 _).put1 8 _, ((hf.put 6 (by omega)).put 7 (by omega)).put 8 (by omega), ((HC6.out.setNew (by omega) _ _).setNew (by omega) _ _).setNew (by omega) _ _, ((HG6.out.setNew (by omega) _ _).setNew (by omega) _ _).setNew (by omega) _ _⟩
        case measure => simp [intOf]
      · go_wp2_with fail
        refine (l01Below_any hi B 60 _ HC.out (by decide) ⟨by decide, by decide⟩).mono ?_
        rintro e w3 ⟨a3, rfl, ha3, C3, G3⟩
        go_wp2_with fail
        refine (l01Below_any hi B 60 _ C3 (by decide) ⟨by decide, by decide⟩).mono ?_
        rintro e w4 ⟨a4, rfl, ha4, C4, G4⟩
        go_wp2_with fail
        refine (l01Below_any hi B 30 _ C4 (by decide) ⟨by decide, by decide⟩).mono ?_
        rintro e w5 ⟨a5, rfl, ha5, C5, G5⟩
        have G6 := (G3.trans G4).trans G5
        have HC6 := hid C5
        have HG6 := hid (HG.out.trans G6)
        have HR6 := hid (HR.out.of (G6.block _ HR.out.lt (by simp; omega)))
        have HQ6 := hid (HQ.out.of (G6.block _ HQ.out.lt (by simp; omega)))
        have e0 := HR6.out.frozen 9
        have e1 := HR6.out.frozen 10
        have e2 := HR6.out.frozen 11
        have d0 := HR6.out.cell (i := 9) (by decide)
        have d1 := HR6.out.cell (i := 10) (by decide)
        have d2 := HR6.out.cell (i := 11) (by decide)
        have s6 := HR6.out.lt
        clear C3 G3 C4 G4 C5 G5 G6 HC HG HR HQ
        go_wp2
        go_roundw
        case rel => exact ⟨4, by omega, by go_num, _, ((HQ6.out.other (by simp) _).other (by simp) _).other (by simp) _, ((HR6.out.put1 9 _).put1 10 _).put1 11 _, ((hf.put 9 (by omega)).put 10 (by omega)).put 11 (by omega), ((HC6.out.setNew (by omega) _ _).setNew (by omega) _ _).setNew (by omega) _ _, ((HG6.out.setNew (by omega) _ _).setNew (by omega) _ _).setNew (by omega) _ _⟩
        case measure => simp [intOf]
    · obtain rfl : k = 4 := by omega
      have d0 := HR.out.cell (i := 0) (by decide)
      have e0 := HQ.out.frozen 0
      have q0 := HQ.out.cell (i := 0) (by decide)
      have d1 := HR.out.cell (i := 1) (by decide)
      have e1 := HQ.out.frozen 1
      have q1 := HQ.out.cell (i := 1) (by decide)
      have d2 := HR.out.cell (i := 2) (by decide)
      have e2 := HQ.out.frozen 2
      have q2 := HQ.out.cell (i := 2) (by decide)
      have d3 := HR.out.cell (i := 3) (by decide)
      have e3 := HQ.out.frozen 3
      have q3 := HQ.out.cell (i := 3) (by decide)
      have d4 := HR.out.cell (i := 4) (by decide)
      have e4 := HQ.out.frozen 4
      have q4 := HQ.out.cell (i := 4) (by decide)
      have d5 := HR.out.cell (i := 5) (by decide)
      have e5 := HQ.out.frozen 5
      have q5 := HQ.out.cell (i := 5) (by decide)
      have d6 := HR.out.cell (i := 6) (by decide)
      have e6 := HQ.out.frozen 6
      have q6 := HQ.out.cell (i := 6) (by decide)
      have d7 := HR.out.cell (i := 7) (by decide)
      have e7 := HQ.out.frozen 7
      have q7 := HQ.out.cell (i := 7) (by decide)
      have d8 := HR.out.cell (i := 8) (by decide)
      have e8 := HQ.out.frozen 8
      have q8 := HQ.out.cell (i := 8) (by decide)
      have d9 := HR.out.cell (i := 9) (by decide)
      have e9 := HQ.out.frozen 9
      have q9 := HQ.out.cell (i := 9) (by decide)
      have d10 := HR.out.cell (i := 10) (by decide)
      have e10 := HQ.out.frozen 10
      have q10 := HQ.out.cell (i := 10) (by decide)
      have d11 := HR.out.cell (i := 11) (by decide)
      have e11 := HQ.out.frozen 11
      have q11 := HQ.out.cell (i := 11) (by decide)
      have zq := HQ.out.lt
      have zr := HR.out.lt
      go_wp2
      refine bodyPost_ret (v := .agg #[.int .i64 (f 0), .int .i64 (f 1), .int .i64 (f 2), .int .i64 (f 3), .int .i64 (f 4), .int .i64 (f 5), .int .i64 (f 6), .int .i64 (f 7), .int .i64 (f 8), .int .i64 (f 9), .int .i64 (f 10), .int .i64 (f 11)]) (by simp [results, Tryz.results49, go_sem, *]) rfl ?_
      exact ⟨f, rfl, hf, ((((((((((((HC.out.setNew (by omega) _ _).setNew (by omega) _ _).setNew (by omega) _ _).setNew (by omega) _ _).setNew (by omega) _ _).setNew (by omega) _ _).setNew (by omega) _ _).setNew (by omega) _ _).setNew (by omega) _ _).setNew (by omega) _ _).setNew (by omega) _ _).setNew (by omega) _ _), ((((((((((((HG.out.setNew (Nat.le_refl _) _ _).setNew (Nat.le_refl _) _ _).setNew (Nat.le_refl _) _ _).setNew (Nat.le_refl _) _ _).setNew (Nat.le_refl _) _ _).setNew (Nat.le_refl _) _ _).setNew (Nat.le_refl _) _ _).setNew (Nat.le_refl _) _ _).setNew (Nat.le_refl _) _ _).setNew (Nat.le_refl _) _ _).setNew (Nat.le_refl _) _ _).setNew (Nat.le_refl _) _ _)⟩
end Go.Proofs.YtaegmenjgjdimaaGreat
end

section
/- This text proves the points of small patches on small grids. -/
namespace Go.Proofs.YtaegmenjgjdimaaGreat
open Go.RowKit

theorem fdiv_sm {s q m : Int} (hq : 1 ≤ q) (h : -1000 * q ≤ s ∧ s ≤ 1000 * q) (hm : fdiv s q = m) : -1000 ≤ m ∧ m ≤ 1000 := by
  subst hm
  unfold fdiv
  rw [if_neg (by omega)]
  exact ⟨Int.le_ediv_of_mul_le (by omega) h.1, Int.ediv_le_of_le_mul (by omega) (by omega)⟩
set_option maxRecDepth 20000 in
set_option maxHeartbeats 12800000 in
theorem l05Mean_any (a b d e : Int) (ha : -1000 ≤ a ∧ a ≤ 1000) (hb : -1000 ≤ b ∧ b ≤ 1000) (hd : -1000 ≤ d ∧ d ≤ 1000) (he : -1000 ≤ e ∧ e ≤ 1000) (n i j : Nat) (hn : 1 ≤ n ∧ n ≤ 4) (hi : i < n) (hj : j < n) (w : World) :
    Calls Tryz.prog 114 #[.int .i64 a, .int .i64 b, .int .i64 d, .int .i64 e, .int .i64 (i : Nat), .int .i64 (j : Nat), .int .i64 (n : Nat)] w fun x w' => ∃ r, x = .returned (.int .i64 r) ∧ (-1000 ≤ r ∧ r ≤ 1000) ∧ w = w' := by
  rcases (show n = 1 ∨ n = 2 ∨ n = 3 ∨ n = 4 by omega) with rfl | rfl | rfl | rfl
  · obtain rfl : i = 0 := by omega
    obtain rfl : j = 0 := by omega
    (
      go_enter Tryz.func114, Tryz.ntmps114
      go_wp2_with fail
      refine (sFloorDiv_any _ _ _ ⟨by omega, by omega⟩).mono ?_
      rintro e1 w1 ⟨rfl, rfl⟩
      go_wp2
      go_ret
      exact ⟨_, rfl, fdiv_sm (by decide) ⟨by omega, by omega⟩ rfl, rfl⟩)
  · rcases (show i = 0 ∨ i = 1 by omega) with rfl | rfl <;> rcases (show j = 0 ∨ j = 1 by omega) with rfl | rfl <;>
    (
      go_enter Tryz.func114, Tryz.ntmps114
      go_wp2_with fail
      refine (sFloorDiv_any _ _ _ ⟨by omega, by omega⟩).mono ?_
      rintro e1 w1 ⟨rfl, rfl⟩
      go_wp2
      go_ret
      exact ⟨_, rfl, fdiv_sm (by decide) ⟨by omega, by omega⟩ rfl, rfl⟩)
  · rcases (show i = 0 ∨ i = 1 ∨ i = 2 by omega) with rfl | rfl | rfl <;> rcases (show j = 0 ∨ j = 1 ∨ j = 2 by omega) with rfl | rfl | rfl <;>
    (
      go_enter Tryz.func114, Tryz.ntmps114
      go_wp2_with fail
      refine (sFloorDiv_any _ _ _ ⟨by omega, by omega⟩).mono ?_
      rintro e1 w1 ⟨rfl, rfl⟩
      go_wp2
      go_ret
      exact ⟨_, rfl, fdiv_sm (by decide) ⟨by omega, by omega⟩ rfl, rfl⟩)
  · rcases (show i = 0 ∨ i = 1 ∨ i = 2 ∨ i = 3 by omega) with rfl | rfl | rfl | rfl <;> rcases (show j = 0 ∨ j = 1 ∨ j = 2 ∨ j = 3 by omega) with rfl | rfl | rfl | rfl <;>
    (
      go_enter Tryz.func114, Tryz.ntmps114
      go_wp2_with fail
      refine (sFloorDiv_any _ _ _ ⟨by omega, by omega⟩).mono ?_
      rintro e1 w1 ⟨rfl, rfl⟩
      go_wp2
      go_ret
      exact ⟨_, rfl, fdiv_sm (by decide) ⟨by omega, by omega⟩ rfl, rfl⟩)

theorem cl_small {x : Int} (h : -1000 ≤ x ∧ x ≤ 1000) : cl x = x := by
  have := (cl_fix x).2 (inB_iff.2 ⟨by omega, by omega⟩)
  exact this.symm
end Go.Proofs.YtaegmenjgjdimaaGreat
end

section
/- This text proves what the reference's EvalPatch and IsValidPatch do with small patches. -/
namespace Go.Proofs.YtaegmenjgjdimaaGreat
open Go.RowKit

theorem row12_new {w : World} {b : Nat} {t : TypeId} {f : Nat → Int} (hb : w.heap.size = b) : RowI (w.alloc (.cells #[.int .i64 (f 0), .int .i64 (f 1), .int .i64 (f 2), .int .i64 (f 3), .int .i64 (f 4), .int .i64 (f 5), .int .i64 (f 6), .int .i64 (f 7), .int .i64 (f 8), .int .i64 (f 9), .int .i64 (f 10), .int .i64 (f 11)] t)) b t 12 f :=
  hb ▸ World.rowIs_alloc _ _ _ _ fun i hi => by rcases twelve1 hi with h | h | h | h | h | h | h | h | h | h | h | h <;> subst h <;> rfl
set_option maxRecDepth 20000 in
set_option maxHeartbeats 6400000 in
theorem sEvalPatch_any (f : Nat → Int) (hf : SmF f) (n i j : Nat) (hn : 1 ≤ n ∧ n ≤ 4) (hi : i < n) (hj : j < n) (w : World) :
    Calls Tryz.prog 84 #[.agg #[.int .i64 (f 0), .int .i64 (f 1), .int .i64 (f 2), .int .i64 (f 3), .int .i64 (f 4), .int .i64 (f 5), .int .i64 (f 6), .int .i64 (f 7), .int .i64 (f 8), .int .i64 (f 9), .int .i64 (f 10), .int .i64 (f 11)], .int .i64 (i : Nat), .int .i64 (j : Nat), .int .i64 (n : Nat)] w fun e w' => ∃ x y z : Int, e = .returned (.agg #[.int .i64 x, .int .i64 y, .int .i64 z]) ∧ (-1000 ≤ x ∧ x ≤ 1000) ∧ (-1000 ≤ y ∧ y ≤ 1000) ∧ (-1000 ≤ z ∧ z ≤ 1000) ∧ Ext w w' := by
  have r0 := row12_new (w := w) (t := 109) (f := f) rfl
  have q0 := (Blk.new (w.alloc (.cells #[.int .i64 (f 0), .int .i64 (f 1), .int .i64 (f 2), .int .i64 (f 3), .int .i64 (f 4), .int .i64 (f 5), .int .i64 (f 6), .int .i64 (f 7), .int .i64 (f 8), .int .i64 (f 9), .int .i64 (f 10), .int .i64 (f 11)] 109)) 106 [.int .i64 0, .int .i64 0, .int .i64 0])
  rw [World.size_alloc] at q0
  have x0 : Ext w ((w.alloc (.cells #[.int .i64 (f 0), .int .i64 (f 1), .int .i64 (f 2), .int .i64 (f 3), .int .i64 (f 4), .int .i64 (f 5), .int .i64 (f 6), .int .i64 (f 7), .int .i64 (f 8), .int .i64 (f 9), .int .i64 (f 10), .int .i64 (f 11)] 109)).alloc (.cells #[.int .i64 0, .int .i64 0, .int .i64 0] 106)) := (by repeat (with_reducible (first | assumption | exact Ext.refl _ | apply Ext.alloc | apply Ext.drew | apply Ext.drewN)))
  have R0 := hid (r0.alloc (.cells #[.int .i64 0, .int .i64 0, .int .i64 0] 106))
  have Q0 := hid q0
  have X0 := hid x0
  have hnb : inB ((n : Nat) : Int) 1 64 = true := inB_iff.2 ⟨by omega, by omega⟩
  have hib : inB ((i : Nat) : Int) 0 ((n : Nat) : Int) = true := inB_iff.2 ⟨by omega, by omega⟩
  have hjb : inB ((j : Nat) : Int) 0 ((n : Nat) : Int) = true := inB_iff.2 ⟨by omega, by omega⟩
  have HN := hid hnb
  have HI := hid hib
  have HJ := hid hjb
  clear r0 q0 x0 hnb hib hjb
  go_enter Tryz.func84, Tryz.ntmps84
  go_wp2_with fail
  refine (l02V_val (cl_small (hf 0)) (cl_small (hf 1)) (cl_small (hf 2)) _).mono ?_
  rintro e w1 ⟨rfl, x1⟩
  have y1 : Ext w1 (w1.alloc (.cells #[.int .i64 (f 0), .int .i64 (f 1), .int .i64 (f 2)] 106)) := (by repeat (with_reducible (first | assumption | exact Ext.refl _ | apply Ext.alloc | apply Ext.drew | apply Ext.drewN)))
  have b1 := Blk.new w1 106 [.int .i64 (f 0), .int .i64 (f 1), .int .i64 (f 2)]
  have R1 := hid ((R0.out.ext x1).ext y1)
  have Q1 := hid ((Q0.out.ext x1).ext y1)
  have X1 := hid ((X0.out.trans x1).trans y1)
  have B11 := hid b1
  have c3 := R1.out.cell (i := 3) (by decide)
  have c4 := R1.out.cell (i := 4) (by decide)
  have c5 := R1.out.cell (i := 5) (by decide)
  clear R0 Q0 X0 x1 y1 b1
  go_wp2_with fail
  refine (l02V_val (cl_small (hf 3)) (cl_small (hf 4)) (cl_small (hf 5)) _).mono ?_
  rintro e w2 ⟨rfl, x2⟩
  have y2 : Ext w2 (w2.alloc (.cells #[.int .i64 (f 3), .int .i64 (f 4), .int .i64 (f 5)] 106)) := (by repeat (with_reducible (first | assumption | exact Ext.refl _ | apply Ext.alloc | apply Ext.drew | apply Ext.drewN)))
  have b2 := Blk.new w2 106 [.int .i64 (f 3), .int .i64 (f 4), .int .i64 (f 5)]
  have R2 := hid ((R1.out.ext x2).ext y2)
  have Q2 := hid ((Q1.out.ext x2).ext y2)
  have X2 := hid ((X1.out.trans x2).trans y2)
  have B12 := hid ((B11.out.ext x2).ext y2)
  have B22 := hid b2
  have c6 := R2.out.cell (i := 6) (by decide)
  have c7 := R2.out.cell (i := 7) (by decide)
  have c8 := R2.out.cell (i := 8) (by decide)
  clear R1 Q1 X1 x2 y2 b2 B11 c3 c4 c5
  go_wp2_with fail
  refine (l02V_val (cl_small (hf 6)) (cl_small (hf 7)) (cl_small (hf 8)) _).mono ?_
  rintro e w3 ⟨rfl, x3⟩
  have y3 : Ext w3 (w3.alloc (.cells #[.int .i64 (f 6), .int .i64 (f 7), .int .i64 (f 8)] 106)) := (by repeat (with_reducible (first | assumption | exact Ext.refl _ | apply Ext.alloc | apply Ext.drew | apply Ext.drewN)))
  have b3 := Blk.new w3 106 [.int .i64 (f 6), .int .i64 (f 7), .int .i64 (f 8)]
  have R3 := hid ((R2.out.ext x3).ext y3)
  have Q3 := hid ((Q2.out.ext x3).ext y3)
  have X3 := hid ((X2.out.trans x3).trans y3)
  have B13 := hid ((B12.out.ext x3).ext y3)
  have B23 := hid ((B22.out.ext x3).ext y3)
  have B33 := hid b3
  have c9 := R3.out.cell (i := 9) (by decide)
  have c10 := R3.out.cell (i := 10) (by decide)
  have c11 := R3.out.cell (i := 11) (by decide)
  clear R2 Q2 X2 x3 y3 b3 B12 B22 c6 c7 c8
  go_wp2_with fail
  refine (l02V_val (cl_small (hf 9)) (cl_small (hf 10)) (cl_small (hf 11)) _).mono ?_
  rintro e w4 ⟨rfl, x4⟩
  have y4 : Ext w4 (w4.alloc (.cells #[.int .i64 (f 9), .int .i64 (f 10), .int .i64 (f 11)] 106)) := (by repeat (with_reducible (first | assumption | exact Ext.refl _ | apply Ext.alloc | apply Ext.drew | apply Ext.drewN)))
  have b4 := Blk.new w4 106 [.int .i64 (f 9), .int .i64 (f 10), .int .i64 (f 11)]
  have Q4 := hid (Q3.out.ext x4)
  have X4 := hid (X3.out.trans x4)
  have B14 := hid (B13.out.ext x4)
  have B24 := hid (B23.out.ext x4)
  have B34 := hid (B33.out.ext x4)
  have l0 := Q4.out.lt
  have l1 := B14.out.lt
  have l2 := B24.out.lt
  have l3 := B34.out.lt
  have g0 := Q4.out.free 0
  have g1 := Q4.out.free 1
  have g2 := Q4.out.free 2
  have o0 := Q4.out.cell 0 rfl
  have o1 := Q4.out.cell 1 rfl
  have o2 := Q4.out.cell 2 rfl
  have p0 := B14.out.cell 0 rfl
  have p1 := B14.out.cell 1 rfl
  have p2 := B14.out.cell 2 rfl
  have q0 := B24.out.cell 0 rfl
  have q1 := B24.out.cell 1 rfl
  have q2 := B24.out.cell 2 rfl
  have r0 := B34.out.cell 0 rfl
  have r1 := B34.out.cell 1 rfl
  have r2 := B34.out.cell 2 rfl
  have zx := X4.out.size
  clear R3 Q3 X3 x4 y4 b4 B13 B23 B33 c9 c10 c11
  go_wp2_with fail
  refine (l01In_val HN.out _).mono ?_
  rintro e w5 ⟨rfl, rfl⟩
  go_wp2_with fail
  refine (l01In_val HI.out _).mono ?_
  rintro e w5 ⟨rfl, rfl⟩
  go_wp2_with fail
  refine (l01In_val HJ.out _).mono ?_
  rintro e w5 ⟨rfl, rfl⟩
  go_wp2_with fail
  refine wp_region_stages [([0, 1, 2, 3, 4, 5, 6, 7, 8, 9, 10, 12, 13, 14, 15, 16, 17, 18, 19, 20, 21, 22, 24, 25, 26, 27, 28, 29, 30, 31, 32, 33, 34], 11), ([], 23), ([], 35), ([36], 37)] 37 (w4.heap.size + 1) (by kernel_rfl) (by kernel_rfl) ?_
  refine wpStages_cons ?_
  simp only [List.filterMap_cons, List.filterMap_nil, List.getElem?_toArray, List.getElem?_cons_zero, List.getElem?_cons_succ]
  show wpQuiet _ _ _ _ (_ :: _ :: _ :: _ :: _ :: _ :: _ :: _ :: _ :: _ :: _ :: _ :: _ :: _ :: _ :: _ :: _ :: _ :: _ :: _ :: _ :: _ :: _ :: _ :: _ :: _ :: _ :: _ :: _ :: _ :: _ :: _ :: _ :: []) _
  repeat (go_big_quiet_step (fail))
  refine wpQuiet_nil ⟨_, rfl, fun K hK => ?_⟩
  go_wp2_with fail
  refine (l05Mean_any _ _ _ _ (hf 0) (hf 3) (hf 6) (hf 9) n i j hn hi hj _).mono ?_
  rintro e w5 ⟨m1, rfl, hm1, rfl⟩
  go_wp2_with fail
  refine hK _ _ (.inr (fun k _ hk => Ext.block (by repeat (with_reducible (first | assumption | exact Ext.refl _ | apply Ext.alloc | apply Ext.drew | apply Ext.drewN))) (by first | omega | (simp; omega)))) ?_
  clear hK K
  refine wpStages_cons ?_
  simp only [List.filterMap_nil]
  show wpQuiet _ _ _ _ [] _
  try simp only [Act.put, List.setIfInBounds_toArray, List.set_cons_succ, List.set_cons_zero]
  repeat (go_big_quiet_step (fail))
  refine wpQuiet_nil ⟨_, rfl, fun K hK => ?_⟩
  go_wp2_with fail
  refine (l05Mean_any _ _ _ _ (hf 1) (hf 4) (hf 7) (hf 10) n i j hn hi hj _).mono ?_
  rintro e w5 ⟨m2, rfl, hm2, rfl⟩
  go_wp2_with fail
  refine hK _ _ (.inr (fun k _ hk => Ext.block (by repeat (with_reducible (first | assumption | exact Ext.refl _ | apply Ext.alloc | apply Ext.drew | apply Ext.drewN))) (by first | omega | (simp; omega)))) ?_
  clear hK K
  refine wpStages_cons ?_
  simp only [List.filterMap_nil]
  show wpQuiet _ _ _ _ [] _
  try simp only [Act.put, List.setIfInBounds_toArray, List.set_cons_succ, List.set_cons_zero]
  repeat (go_big_quiet_step (fail))
  refine wpQuiet_nil ⟨_, rfl, fun K hK => ?_⟩
  go_wp2_with fail
  refine (l05Mean_any _ _ _ _ (hf 2) (hf 5) (hf 8) (hf 11) n i j hn hi hj _).mono ?_
  rintro e w5 ⟨m3, rfl, hm3, rfl⟩
  go_wp2_with fail
  refine hK _ _ (.inr (fun k _ hk => Ext.block (by repeat (with_reducible (first | assumption | exact Ext.refl _ | apply Ext.alloc | apply Ext.drew | apply Ext.drewN))) (by first | omega | (simp; omega)))) ?_
  clear hK K
  refine wpStages_cons ?_
  simp only [List.filterMap_cons, List.filterMap_nil, List.getElem?_toArray, List.getElem?_cons_zero, List.getElem?_cons_succ]
  show wpQuiet _ _ _ _ [_] _
  try simp only [Act.put, List.setIfInBounds_toArray, List.set_cons_succ, List.set_cons_zero]
  repeat (go_big_quiet_step (fail))
  refine wpQuiet_nil ⟨_, rfl, fun K hK => ?_⟩
  go_wp2_with fail
  refine hK _ _ (.inl trivial) ?_
  clear hK K
  refine wpStages_nil ?_
  go_wp2
  refine bodyPost_ret (v := .agg #[.int .i64 m1, .int .i64 m2, .int .i64 m3]) (by simp [results, Tryz.results84, go_sem, *]) rfl ?_
  have X4o := X4.out
  exact ⟨m1, m2, m3, rfl, hm1, hm2, hm3, (by repeat (first | with_reducible assumption | with_reducible exact Ext.refl _ | with_reducible apply Ext.alloc | with_reducible apply Ext.drew | with_reducible apply Ext.drewN | (with_reducible refine Ext.setCell ?_ (by simp; omega) _) | (with_reducible refine Ext.setCell ?_ (by simp) _)))⟩
set_option maxRecDepth 20000 in
set_option maxHeartbeats 6400000 in
theorem sIsValidPatch_small (f : Nat → Int) (hf : SmF f) (w : World) :
    Calls Tryz.prog 81 #[.agg #[.int .i64 (f 0), .int .i64 (f 1), .int .i64 (f 2), .int .i64 (f 3), .int .i64 (f 4), .int .i64 (f 5), .int .i64 (f 6), .int .i64 (f 7), .int .i64 (f 8), .int .i64 (f 9), .int .i64 (f 10), .int .i64 (f 11)]] w fun e w' => e = .returned (.bool true) ∧ Ext w w' := by
  have i0 : ∀ w : World, (Instr.index 107 (.agg #[.int .i64 (f 0), .int .i64 (f 1), .int .i64 (f 2), .int .i64 (f 3), .int .i64 (f 4), .int .i64 (f 5), .int .i64 (f 6), .int .i64 (f 7), .int .i64 (f 8), .int .i64 (f 9), .int .i64 (f 10), .int .i64 (f 11)]) (.int .i64 0)).run Tryz.prog w = .ok (.agg #[.int .i64 (f 0), .int .i64 (f 1), .int .i64 (f 2)]) w := fun _ => by kernel_rfl
  have i1 : ∀ w : World, (Instr.index 107 (.agg #[.int .i64 (f 0), .int .i64 (f 1), .int .i64 (f 2), .int .i64 (f 3), .int .i64 (f 4), .int .i64 (f 5), .int .i64 (f 6), .int .i64 (f 7), .int .i64 (f 8), .int .i64 (f 9), .int .i64 (f 10), .int .i64 (f 11)]) (.int .i64 1)).run Tryz.prog w = .ok (.agg #[.int .i64 (f 3), .int .i64 (f 4), .int .i64 (f 5)]) w := fun _ => by kernel_rfl
  have i2 : ∀ w : World, (Instr.index 107 (.agg #[.int .i64 (f 0), .int .i64 (f 1), .int .i64 (f 2), .int .i64 (f 3), .int .i64 (f 4), .int .i64 (f 5), .int .i64 (f 6), .int .i64 (f 7), .int .i64 (f 8), .int .i64 (f 9), .int .i64 (f 10), .int .i64 (f 11)]) (.int .i64 2)).run Tryz.prog w = .ok (.agg #[.int .i64 (f 6), .int .i64 (f 7), .int .i64 (f 8)]) w := fun _ => by kernel_rfl
  have i3 : ∀ w : World, (Instr.index 107 (.agg #[.int .i64 (f 0), .int .i64 (f 1), .int .i64 (f 2), .int .i64 (f 3), .int .i64 (f 4), .int .i64 (f 5), .int .i64 (f 6), .int .i64 (f 7), .int .i64 (f 8), .int .i64 (f 9), .int .i64 (f 10), .int .i64 (f 11)]) (.int .i64 3)).run Tryz.prog w = .ok (.agg #[.int .i64 (f 9), .int .i64 (f 10), .int .i64 (f 11)]) w := fun _ => by kernel_rfl
  go_enter Tryz.func81, Tryz.ntmps81
  go_wp2
  go_loopw [7] (fun i wr => ∃ k : Nat, k ≤ 4 ∧ i = .int .i64 (k : Nat) ∧ Ext w wr) (fun i _ => 4 - (intOf i).toNat)
  case atStart => exact ⟨0, by omega, rfl, (by repeat (first | with_reducible assumption | with_reducible exact Ext.refl _ | with_reducible apply Ext.alloc | with_reducible apply Ext.drew | with_reducible apply Ext.drewN | (with_reducible refine Ext.setCell ?_ (by simp; omega) _) | (with_reducible refine Ext.setCell ?_ (by simp) _)))⟩
  case round =>
    obtain ⟨k, hk, rfl, hx⟩ := hrel
    have HX := hid hx
    clear hx
    by_cases hlt : k < 4
    · have hk4 : k = 0 ∨ k = 1 ∨ k = 2 ∨ k = 3 := by omega
      rcases hk4 with h | h | h | h <;> subst h
      · have hv : okVec (f 0) (f 1) (f 2) = true := by
          have h0 := hf 0
          have h1 := hf 1
          have h2 := hf 2
          unfold okVec
          rw [inB_iff.2 ⟨by omega, by omega⟩, inB_iff.2 ⟨by omega, by omega⟩, inB_iff.2 ⟨by omega, by omega⟩]
          rfl
        have HV := hid hv
        clear hv
        go_wp2_with fail
        refine (sIsValidVec_val _).mono ?_
        rintro e w3 ⟨rfl, x3⟩
        rw [HV.out]
        have HX3 := hid (Ext.trans (Ext.trans HX.out (by repeat (with_reducible (first | assumption | exact Ext.refl _ | apply Ext.alloc | apply Ext.drew | apply Ext.drewN)))) x3)
        clear HX x3
        go_wp2
        go_roundw
        case rel => exact ⟨1, by omega, by go_num, HX3.out⟩
        case measure => simp [intOf]
      · have hv : okVec (f 3) (f 4) (f 5) = true := by
          have h0 := hf 3
          have h1 := hf 4
          have h2 := hf 5
          unfold okVec
          rw [inB_iff.2 ⟨by omega, by omega⟩, inB_iff.2 ⟨by omega, by omega⟩, inB_iff.2 ⟨by omega, by omega⟩]
          rfl
        have HV := hid hv
        clear hv
        go_wp2_with fail
        refine (sIsValidVec_val _).mono ?_
        rintro e w3 ⟨rfl, x3⟩
        rw [HV.out]
        have HX3 := hid (Ext.trans (Ext.trans HX.out (by repeat (with_reducible (first | assumption | exact Ext.refl _ | apply Ext.alloc | apply Ext.drew | apply Ext.drewN)))) x3)
        clear HX x3
        go_wp2
        go_roundw
        case rel => exact ⟨2, by omega, by go_num, HX3.out⟩
        case measure => simp [intOf]
      · have hv : okVec (f 6) (f 7) (f 8) = true := by
          have h0 := hf 6
          have h1 := hf 7
          have h2 := hf 8
          unfold okVec
          rw [inB_iff.2 ⟨by omega, by omega⟩, inB_iff.2 ⟨by omega, by omega⟩, inB_iff.2 ⟨by omega, by omega⟩]
          rfl
        have HV := hid hv
        clear hv
        go_wp2_with fail
        refine (sIsValidVec_val _).mono ?_
        rintro e w3 ⟨rfl, x3⟩
        rw [HV.out]
        have HX3 := hid (Ext.trans (Ext.trans HX.out (by repeat (with_reducible (first | assumption | exact Ext.refl _ | apply Ext.alloc | apply Ext.drew | apply Ext.drewN)))) x3)
        clear HX x3
        go_wp2
        go_roundw
        case rel => exact ⟨3, by omega, by go_num, HX3.out⟩
        case measure => simp [intOf]
      · have hv : okVec (f 9) (f 10) (f 11) = true := by
          have h0 := hf 9
          have h1 := hf 10
          have h2 := hf 11
          unfold okVec
          rw [inB_iff.2 ⟨by omega, by omega⟩, inB_iff.2 ⟨by omega, by omega⟩, inB_iff.2 ⟨by omega, by omega⟩]
          rfl
        have HV := hid hv
        clear hv
        go_wp2_with fail
        refine (sIsValidVec_val _).mono ?_
        rintro e w3 ⟨rfl, x3⟩
        rw [HV.out]
        have HX3 := hid (Ext.trans (Ext.trans HX.out (by repeat (with_reducible (first | assumption | exact Ext.refl _ | apply Ext.alloc | apply Ext.drew | apply Ext.drewN)))) x3)
        clear HX x3
        go_wp2
        go_roundw
        case rel => exact ⟨4, by omega, by go_num, HX3.out⟩
        case measure => simp [intOf]
    · obtain rfl : k = 4 := by omega
      go_wp2
      go_ret
      exact ⟨rfl, HX.out⟩
end Go.Proofs.YtaegmenjgjdimaaGreat
end

section
/- This text proves the reference's GridOf at small patches and rates. -/
namespace Go.Proofs.YtaegmenjgjdimaaGreat
open Go.RowKit

/-- a point of a grid -/
structure Pt where
  u : Int
  v : Int
  x : Int
  y : Int
  z : Int
def Pt.ls (p : Pt) : List Int := [p.u, p.v, p.x, p.y, p.z]
def Pt.cs (p : Pt) : List Value := [.int .i64 p.u, .int .i64 p.v, .int .i64 p.x, .int .i64 p.y, .int .i64 p.z]
def Pt.Sm (p : Pt) : Prop := ∀ x ∈ p.ls, -1000 ≤ x ∧ x ≤ 1000
def OwnPts (lo : Nat) (w : World) (v : Value) (xs : List Pt) : Prop := OwnG Pt.cs lo 157 5 w v xs
theorem info_PointT : (Tryz.prog.info? 157).map (fun i => (i.zero, i.size, i.bytes)) = some (some (.agg #[.int .i64 0, .int .i64 0, .int .i64 0, .int .i64 0, .int .i64 0]), 5, 40) := by kernel_rfl
theorem wpList_append_pt (w : World) {ops : Array Oper} {rest : List Oper} {o : Oper} {a : Act} {Q : Exit → Act → World → Prop} (hg : o.guard = none) (s x : Operand)
    (hop : o.op = Op.call { callee := Callee.builtin Builtin.append, args := #[s, x], argTypes := #[28, 28] }) (lo : Nat) (v : Value) (xs : List Pt) (hs : a.eval s = v) (hown : OwnPts lo w v xs)
    (y : Pt) (b : Nat) (hx : a.eval x = .slice (some ⟨b, 0, none⟩) 1 1) (hcell : ∀ j, j < 5 → w.cell? ⟨b, j, none⟩ = y.cs[j]?) (hlen : xs.length < 1000000) (hlo : lo ≤ w.heap.size)
    (hK : ∀ v' w', OwnPts lo w' v' (xs ++ [y]) → w.grownBy w' v.ownBlock → wpList Tryz.prog ops Q rest (a.put o.dst v') w') : wpList Tryz.prog ops Q (o :: rest) a w := by
  refine wpList_append_elt Pt.cs 157 5 40 _ w hg s x 28 hop Tryz.underlying28 info_PointT rfl (by decide) (by decide) (fun _ => rfl) lo v xs hs hown y b hx hcell ?_ hlen hlo hK
  intro u hu
  simp only [Pt.cs, List.mem_cons, List.not_mem_nil, or_false] at hu
  rcases hu with rfl | rfl | rfl | rfl | rfl <;> rfl
/-- the points' numbers in a row -/
def ptF (ps : List Pt) (k : Nat) : Int := match ps[k / 5]? with | some p => p.ls.getD (k % 5) 0 | none => 0
theorem ptF_small {ps : List Pt} (h : ∀ p ∈ ps, p.Sm) (k : Nat) : -1000 ≤ ptF ps k ∧ ptF ps k ≤ 1000 := by
  unfold ptF
  cases hp : ps[k / 5]? with
  | none => exact ⟨show (-1000 : Int) ≤ 0 by decide, show (0 : Int) ≤ 1000 by decide⟩
  | some p =>
    have hm := h p (List.mem_of_getElem? hp)
    have hl : k % 5 < p.ls.length := by
      have := Nat.mod_lt k (show 0 < 5 by decide)
      exact this
    show -1000 ≤ p.ls.getD (k % 5) 0 ∧ p.ls.getD (k % 5) 0 ≤ 1000
    rw [List.getD_eq_getElem?_getD, List.getElem?_eq_getElem hl]
    exact hm _ (List.getElem_mem hl)
theorem Pt.cs_at (p : Pt) {j : Nat} (hj : j < 5) : p.cs[j]? = some (.int .i64 (p.ls.getD j 0)) := by
  rcases (show j = 0 ∨ j = 1 ∨ j = 2 ∨ j = 3 ∨ j = 4 by omega) with rfl | rfl | rfl | rfl | rfl <;> rfl
theorem OwnPts.flats {lo : Nat} {w : World} {v : Value} {ps : List Pt} (h : OwnPts lo w v ps) (hs : ∀ p ∈ ps, p.Sm) : Flats 5 lo w.heap.size w v ps.length (ptF ps) := by
  obtain ⟨a, c, rfl, _⟩ := OwnG.form h
  have hc : ps.length ≤ c ∧ c ≤ maxLen := by
    rcases h.2 with ⟨e, h4⟩ | ⟨g, cap, cur, e, hb, hh, hc, hm, _⟩
    · simp only [Value.slice.injEq] at e
      obtain ⟨rfl, e2, rfl⟩ := e
      exact ⟨by omega, by unfold maxLen; omega⟩
    · simp only [Value.slice.injEq] at e
      obtain ⟨rfl, e2, rfl⟩ := e
      exact ⟨hc, hm⟩
  refine ⟨a, c, rfl, hc.1, hc.2, fun i hi => ?_⟩
  have hk : i / 5 < ps.length := by omega
  obtain ⟨g, cap, e, g1, g2, _, _, _, hcell⟩ := OwnG.at h (fun _ => rfl) (List.getElem?_eq_getElem hk)
  simp only [Value.slice.injEq] at e
  obtain ⟨rfl, _, rfl⟩ := e
  have hm := Nat.mod_lt i (show 0 < 5 by decide)
  have hb := ptF_small hs i
  refine ⟨⟨by omega, by omega⟩, g, 0, rfl, g1, g2, ?_⟩
  have h1 := hcell (i % 5) hm
  rw [Pt.cs_at _ hm] at h1
  have e1 : i / 5 * 5 + i % 5 = 0 + i := by omega
  rw [e1] at h1
  rw [h1]
  unfold ptF
  rw [List.getElem?_eq_getElem hk]
theorem inB_sm {x : Int} (h : -1000 ≤ x ∧ x ≤ 1000) : inB x (-1000000) 1000000 = true := inB_iff.2 ⟨by omega, by omega⟩
theorem ptB_small {ps : List Pt} (h : ∀ p ∈ ps, p.Sm) (k : Nat) : ptB (ptF ps) k = true := by
  unfold ptB
  rw [List.all_eq_true]
  intro x hx
  simp only [ptL, List.mem_cons, List.not_mem_nil, or_false] at hx
  rcases hx with rfl | rfl | rfl | rfl | rfl <;> exact inB_sm (ptF_small h _)
end Go.Proofs.YtaegmenjgjdimaaGreat
end

section
/- This text proves the reference's GridOf at small patches and rates. -/
namespace Go.Proofs.YtaegmenjgjdimaaGreat
open Go.RowKit

/-- the memory of the reference's GridOf -/
structure GSt (lo n : Nat) (tm : Int) (t : Tex) (f : Nat → Int) (A P Q : Nat) (tu : Value) (w wr : World) (ps : List Pt) (pu : Value) : Prop where
  ext : Ext w wr
  pat : RowI wr P 109 12 f
  res : Blk wr Q 33 [.int .i64 0, .slice none 0 0, .int .i64 0, .int .i64 0, .slice none 0 0]
  box : Blk wr A 33 [.int .i64 (n : Nat), pu, .int .i64 tm, .int .i64 t.log, tu]
  pts : OwnPts lo wr pu ps
  tex : OwnInts lo wr tu t.px
  sm : ∀ p ∈ ps, p.Sm
theorem GSt.to {lo n : Nat} {tm : Int} {t : Tex} {f : Nat → Int} {A P Q : Nat} {tu pu : Value} {w wr w' : World} {ps : List Pt} (h : GSt lo n tm t f A P Q tu w wr ps pu) (x : Ext wr w') : GSt lo n tm t f A P Q tu w w' ps pu :=
  ⟨h.ext.trans x, h.pat.ext x, h.res.ext x, h.box.ext x, OwnG.ext h.pts x, h.tex.ext x, h.sm⟩
theorem OwnG.rowT {α : Type} {cs : α → List Value} {lo : Nat} {e : TypeId} {sz : Nat} {w : World} {v : Value} {xs : List α} (h : OwnG cs lo e sz w v xs) : ∀ k, v.ownBlock = some k → lo ≤ k ∧ ∃ c, w.heap[k]? = some (.cells c e (0, 0)) := by
  intro k hk
  rcases h.2 with ⟨rfl, h4⟩ | ⟨g, cap, cur, rfl, hb, hg, _⟩
  · cases hk
  · simp only [Value.ownBlock, Option.some.injEq] at hk
    subst hk
    exact ⟨hb, cur, hg⟩
theorem GSt.grow {lo n : Nat} {tm : Int} {t : Tex} {f : Nat → Int} {A P Q : Nat} {tu pu pu' : Value} {w wr w' : World} {ps ps' : List Pt} (h : GSt lo n tm t f A P Q tu w wr ps pu) (hP : P < lo) (hQ : Q < lo) (hA : lo ≤ A) (hw : w.heap.size ≤ lo) (hg : wr.grownBy w' pu.ownBlock) (hown : OwnPts lo w' pu' ps') (hs : ∀ p ∈ ps', p.Sm) : GSt lo n tm t f A P Q tu w (w'.setCell ⟨A, 1, none⟩ pu') ps' pu' := by
  have hr := OwnG.rowT h.pts
  have hB := h.box.grown hg (fun e => by
    obtain ⟨_, c, hc⟩ := hr A e.symm
    have hb := h.box
    unfold Blk at hb
    rw [hb] at hc
    simp only [Option.some.injEq, Obj.cells.injEq] at hc
    exact absurd hc.2.1 (by decide))
  have hT := h.tex.grown hg (fun k hk e => by
    obtain ⟨_, c, hc⟩ := hr k e.symm
    obtain ⟨c', hc'⟩ := h.tex.block hk
    rw [hc'] at hc
    simp only [Option.some.injEq, Obj.cells.injEq] at hc
    exact absurd hc.2.1 (by decide))
  refine ⟨Ext.setCell (Ext.grown h.ext hg (fun k hk => by have := (hr k hk).1; omega)) (by simp only; omega) _, (h.pat.of (hg.block _ h.pat.lt (fun e => by have := (hr _ e.symm).1; omega))).other (by simp only; omega) _, (h.res.grown hg (fun e => by have := (hr _ e.symm).1; omega)).other (by simp only; omega) _, hB.set 1 _, OwnG.set hown hB (by decide) 1 _, hT.setOther (fun e => ?_) _, hs⟩
  obtain ⟨c, hc⟩ := hT.block e
  unfold Blk at hB
  simp only at hc
  rw [hB] at hc
  simp only [Option.some.injEq, Obj.cells.injEq] at hc
  exact absurd hc.2.1 (by decide)
theorem set5_same {lo hi Q : Nat} (w : World) (hQ : Q < lo) (a b c d e : Value) : Same lo hi w (((((w.setCell ⟨Q, 0, none⟩ a).setCell ⟨Q, 1, none⟩ b).setCell ⟨Q, 2, none⟩ c).setCell ⟨Q, 3, none⟩ d).setCell ⟨Q, 4, none⟩ e) := fun k h1 _ => by
  have hk : Q ≠ k := by omega
  rw [Below.heap_setCell _ _ _ _ (by exact hk.symm), Below.heap_setCell _ _ _ _ (by exact hk.symm), Below.heap_setCell _ _ _ _ (by exact hk.symm), Below.heap_setCell _ _ _ _ (by exact hk.symm), Below.heap_setCell _ _ _ _ (by exact hk.symm)]
theorem uv_sm {i n : Nat} (h1 : 1 ≤ n) (h : i < n) : -1000 ≤ ((i : Int) * 256 / (n : Int)) ∧ ((i : Int) * 256 / (n : Int)) ≤ 1000 := by
  have h0 : 0 ≤ ((i : Int) * 256 / (n : Int)) := Int.ediv_nonneg (by omega) (by omega)
  exact ⟨by omega, Int.ediv_le_of_le_mul (by omega) (by omega)⟩
set_option maxRecDepth 20000 in
set_option maxHeartbeats 6400000 in
theorem sGridOf_any (lo hi : Nat) (f : Nat → Int) (hf : SmF f) (n : Nat) (hn : 1 ≤ n ∧ n ≤ 4) (tm : Int) (htm : 0 ≤ tm ∧ tm ≤ 256) (tv : Value) (t : Tex) (w : World) (ht : TexR lo hi w tv t) (hh : hi ≤ w.heap.size) (hok : t.Ok) :
    Calls Tryz.prog 48 #[.agg #[.int .i64 (f 0), .int .i64 (f 1), .int .i64 (f 2), .int .i64 (f 3), .int .i64 (f 4), .int .i64 (f 5), .int .i64 (f 6), .int .i64 (f 7), .int .i64 (f 8), .int .i64 (f 9), .int .i64 (f 10), .int .i64 (f 11)], .int .i64 (n : Nat), .int .i64 tm, tv] w fun e w' => ∃ (g : Grd) (v : Value), e = .returned (.tuple #[v, .bool true]) ∧ g.R w.heap.size w'.heap.size w' v ∧ g.okB = true ∧ Ext w w' := by
  have HT := hid ht
  obtain ⟨tu, rfl, tlog, hu⟩ := ht
  obtain ⟨a, cap, rfl, HU⟩ := hu.open
  have l1 := HU.le
  have l2 := HU.cap
  have hpx1 : 1 ≤ t.px.length := by rw [hok.len]; exact Nat.mul_pos hok.n_pos hok.n_pos
  have hpx2 : t.px.length ≤ 256 := by rw [hok.len]; exact Nat.mul_le_mul hok.n_le hok.n_le
  obtain ⟨_, bx, off, rfl, _, hbx, _⟩ := HU.cell 0 _ (List.getElem?_eq_getElem (by omega))
  have hnb : inB ((n : Nat) : Int) 1 8 = true := inB_iff.2 ⟨by omega, by omega⟩
  have htb : inB tm 0 256 = true := inB_iff.2 htm
  have HN := hid hnb
  have HM := hid htb
  have HK := hid (Tex.okB_iff.2 hok)
  have r0 := row12_new (w := w) (t := 109) (f := f) rfl
  have t0 := Blk.new (w.alloc (.cells #[.int .i64 (f 0), .int .i64 (f 1), .int .i64 (f 2), .int .i64 (f 3), .int .i64 (f 4), .int .i64 (f 5), .int .i64 (f 6), .int .i64 (f 7), .int .i64 (f 8), .int .i64 (f 9), .int .i64 (f 10), .int .i64 (f 11)] 109)) 31 [.int .i64 t.log, .slice (some ⟨bx, off, none⟩) t.px.length cap]
  have q0 := Blk.new ((w.alloc (.cells #[.int .i64 (f 0), .int .i64 (f 1), .int .i64 (f 2), .int .i64 (f 3), .int .i64 (f 4), .int .i64 (f 5), .int .i64 (f 6), .int .i64 (f 7), .int .i64 (f 8), .int .i64 (f 9), .int .i64 (f 10), .int .i64 (f 11)] 109)).alloc (.cells #[.int .i64 t.log, .slice (some ⟨bx, off, none⟩) t.px.length cap] 31)) 33 [.int .i64 0, .slice none 0 0, .int .i64 0, .int .i64 0, .slice none 0 0]
  simp only [World.size_alloc] at t0 q0
  have x0 : Ext w (((w.alloc (.cells #[.int .i64 (f 0), .int .i64 (f 1), .int .i64 (f 2), .int .i64 (f 3), .int .i64 (f 4), .int .i64 (f 5), .int .i64 (f 6), .int .i64 (f 7), .int .i64 (f 8), .int .i64 (f 9), .int .i64 (f 10), .int .i64 (f 11)] 109)).alloc (.cells #[.int .i64 t.log, .slice (some ⟨bx, off, none⟩) t.px.length cap] 31)).alloc (.cells #[.int .i64 0, .slice none 0 0, .int .i64 0, .int .i64 0, .slice none 0 0] 33)) := (by repeat (with_reducible (first | assumption | exact Ext.refl _ | apply Ext.alloc | apply Ext.drew | apply Ext.drewN)))
  have R0 := hid ((r0.alloc (.cells #[.int .i64 t.log, .slice (some ⟨bx, off, none⟩) t.px.length cap] 31)).alloc (.cells #[.int .i64 0, .slice none 0 0, .int .i64 0, .int .i64 0, .slice none 0 0] 33))
  have T0 := hid (t0.ext (show Ext _ (((w.alloc (.cells #[.int .i64 (f 0), .int .i64 (f 1), .int .i64 (f 2), .int .i64 (f 3), .int .i64 (f 4), .int .i64 (f 5), .int .i64 (f 6), .int .i64 (f 7), .int .i64 (f 8), .int .i64 (f 9), .int .i64 (f 10), .int .i64 (f 11)] 109)).alloc (.cells #[.int .i64 t.log, .slice (some ⟨bx, off, none⟩) t.px.length cap] 31)).alloc (.cells #[.int .i64 0, .slice none 0 0, .int .i64 0, .int .i64 0, .slice none 0 0] 33)) from (by repeat (with_reducible (first | assumption | exact Ext.refl _ | apply Ext.alloc | apply Ext.drew | apply Ext.drewN)))))
  have Q0 := hid q0
  have X0 := hid x0
  clear hnb htb hu r0 t0 q0 x0
  go_enter Tryz.func48, Tryz.ntmps48
  go_wp2_with fail
  refine (sIsValidPatch_small f hf _).mono ?_
  rintro e w1 ⟨rfl, x1⟩
  have R1 := hid (R0.out.ext x1)
  have T1 := hid (T0.out.ext x1)
  have Q1 := hid (Q0.out.ext x1)
  have X1 := hid (X0.out.trans x1)
  clear R0 T0 Q0 X0 x1
  go_wp2_with fail
  refine (l01In_val HN.out _).mono ?_
  rintro e w2 ⟨rfl, rfl⟩
  go_wp2_with fail
  refine (l01In_val HM.out _).mono ?_
  rintro e w2 ⟨rfl, rfl⟩
  have t0 := T1.out.cell 0 rfl
  have t1 := T1.out.cell 1 rfl
  have z1 := X1.out.size
  go_wp2_with fail
  refine (sIsValidTexture_val HK.out lo hi _ _ (HT.out.ext hh X1.out) (by omega)).mono ?_
  rintro e w2 ⟨rfl, x2⟩
  have R2 := hid (R1.out.ext x2)
  have T2 := hid (T1.out.ext x2)
  have Q2 := hid (Q1.out.ext x2)
  have HX2 := hid (X1.out.trans x2)
  have z2 := HX2.out.size
  clear R1 T1 Q1 X1 x2 t0 t1
  have t0 := T2.out.cell 0 rfl
  have t1 := T2.out.cell 1 rfl
  have zt := T2.out.lt
  go_upto_region 3 with fail
  go_cut [10] from 33 to 42 (fun p wx => ∃ A tu, p = .pointer (some ⟨A, 0, none⟩) ∧ w2.heap.size ≤ A ∧ Blk wx A 33 [.int .i64 (n : Nat), .slice none 0 0, .int .i64 tm, .int .i64 t.log, tu] ∧ OwnInts w2.heap.size wx tu t.px ∧ Ext w2 wx)
  case first =>
    refine wp_region_Z 11 w2.heap.size (by kernel_rfl) ?_
    refine wpZ_stage (fuel := 5) [0, 1, 2, 3, 5, 6] [4, 10] (by kernel_rfl) (fun b _ hb => rfl) ?_
    try simp only [Act.put, List.setIfInBounds_toArray, List.set_cons_succ, List.set_cons_zero]
    simp only [List.filterMap_cons, List.filterMap_nil, List.getElem?_toArray, List.getElem?_cons_zero, List.getElem?_cons_succ]
    show wpQuiet _ _ _ _ [_, _, _, _, _, _] _
    repeat (go_big_quiet_step (fail))
    refine wpQuiet_nil ?_
    intro e he
    simp only [List.mem_cons, List.not_mem_nil, or_false] at he
    rcases he with rfl | rfl
    · have k1 : Ext w2 (w2.drew.alloc (.cells #[] 3)) := (by repeat (with_reducible (first | assumption | exact Ext.refl _ | apply Ext.alloc | apply Ext.drew | apply Ext.drewN)))
      have o1 : OwnInts w2.heap.size (w2.drew.alloc (.cells #[] 3)) (.slice (some ⟨w2.heap.size, 0, none⟩) 0 0) [] := OwnInts.fresh0 (Nat.le_refl _) (Blk.new w2.drew 3 [])
      (unfold wpComes; simp only [List.getElem?_toArray, List.getElem?_cons_succ, List.getElem?_cons_zero, Option.some.injEq]; refine ⟨_, rfl, fun K hK => ?_⟩)
      go_wp2
      refine hK _ _ (.inr (fun b _ hb => Ext.block k1 (by omega))) ?_
      clear hK K
      refine wpZ_stage (fuel := 4) [] [7, 10] (by kernel_rfl) (fun b _ hb => Ext.block k1 (by omega)) ?_
      refine wpQuiet_nil ?_
      intro e he
      simp only [List.mem_cons, List.not_mem_nil, or_false] at he
      rcases he with rfl | rfl
      · (unfold wpComes; simp only [List.getElem?_toArray, List.getElem?_cons_succ, List.getElem?_cons_zero, Option.some.injEq]; refine ⟨_, rfl, fun K hK => ?_⟩)
        refine wpList_append_ints _ rfl _ _ rfl w2.heap.size (.slice (some ⟨w2.heap.size, 0, none⟩) 0 0) [] t.px rfl o1 bx off cap rfl (fun i y hy => by
          obtain ⟨i1, b', o', e', _, h3, h4⟩ := HU.cell i y hy
          cases e'
          exact ⟨i1, ((HX2.out.trans k1).cells.1 bx _ (by omega)).trans h4⟩) (by simp; omega) k1.size ?_
        intro v7 w7 hown7 hg7
        have u7 : Ext w2 w7 := Ext.grown k1 hg7 (fun k hk => (o1.lt k hk).1)
        go_wp2_with fail
        refine hK _ _ (.inr (fun b _ hb => Ext.block u7 (by omega))) ?_
        clear hK K
        obtain ⟨va7, vc7, hv7, _⟩ := hown7.form
        simp only [List.nil_append] at hown7 hv7
        subst hv7
        refine wpZ_stage (fuel := 1) [8, 9] [10] (by kernel_rfl) (fun b _ hb => Ext.block u7 (by omega)) ?_
        try simp only [Act.put, List.setIfInBounds_toArray, List.set_cons_succ, List.set_cons_zero]
        simp only [List.filterMap_cons, List.filterMap_nil, List.getElem?_toArray, List.getElem?_cons_zero, List.getElem?_cons_succ]
        show wpQuiet _ _ _ _ [_, _] _
        repeat (go_big_quiet_step (fail))
        refine wpQuiet_nil ?_
        intro e he
        simp only [List.mem_cons, List.not_mem_nil, or_false] at he
        subst he
        have k8 : Ext w2 (w7.alloc (.cells #[.int .i64 0, .slice none 0 0, .int .i64 0, .int .i64 0, .slice none 0 0] 33)) := Ext.alloc u7 _
        (unfold wpComes; simp only [List.getElem?_toArray, List.getElem?_cons_succ, List.getElem?_cons_zero, Option.some.injEq]; refine ⟨_, rfl, fun K hK => ?_⟩)
        go_wp2
        refine hK _ _ (.inr (fun b _ hb => Ext.block (w := w2) (show Ext w2 _ from Ext.alloc u7 _) (by omega))) ?_
        clear hK K
        refine wpZ_stage (fuel := 0) [] [11] (by kernel_rfl) (fun b _ hb => Ext.block k8 (by omega)) ?_
        refine wpQuiet_nil ?_
        intro e he
        simp only [List.mem_cons, List.not_mem_nil, or_false] at he
        subst he
        (unfold wpComes; simp only [List.getElem?_toArray, List.getElem?_cons_succ, List.getElem?_cons_zero, Option.some.injEq]; refine ⟨_, rfl, fun K hK => ?_⟩)
        go_wp2
        refine hK _ _ (.inl (by trivial)) ?_
        clear hK K
        refine wpZ_end (by kernel_rfl) ?_
        go_wp2_with fail
        go_meet
        exact ⟨w7.heap.size, _, rfl, u7.size, Blk.new w7 33 [.int .i64 (n : Nat), .slice none 0 0, .int .i64 tm, .int .i64 t.log, .slice va7 t.px.length vc7], hown7.alloc _, Ext.alloc u7 _⟩
      · have g1 : Ext w2 ((w2.drew.alloc (.cells #[] 3)).alloc (.cells #[.int .i64 0, .slice none 0 0, .int .i64 0, .int .i64 0, .slice none 0 0] 33)) := (by repeat (with_reducible (first | assumption | exact Ext.refl _ | apply Ext.alloc | apply Ext.drew | apply Ext.drewN)))
        have o2 := o1.alloc (.cells #[.int .i64 0, .slice none 0 0, .int .i64 0, .int .i64 0, .slice none 0 0] 33)
        have n2 := Blk.new (w2.drew.alloc (.cells #[] 3)) 33 [.int .i64 0, .slice none 0 0, .int .i64 0, .int .i64 0, .slice none 0 0]
        rw [World.size_alloc, show w2.drew.heap.size = w2.heap.size from rfl] at n2
        (unfold wpComes; simp only [List.getElem?_toArray, List.getElem?_cons_succ, List.getElem?_cons_zero, Option.some.injEq]; refine ⟨_, rfl, fun K hK => ?_⟩)
        go_wp2
        refine hK _ _ (.inr (fun b _ hb => Ext.block g1 (by omega))) ?_
        clear hK K
        refine wpZ_stage (fuel := 3) [] [7] (by kernel_rfl) (fun b _ hb => Ext.block g1 (by omega)) ?_
        refine wpQuiet_nil ?_
        intro e he
        simp only [List.mem_cons, List.not_mem_nil, or_false] at he
        subst he
        (unfold wpComes; simp only [List.getElem?_toArray, List.getElem?_cons_succ, List.getElem?_cons_zero, Option.some.injEq]; refine ⟨_, rfl, fun K hK => ?_⟩)
        refine wpList_append_ints _ rfl _ _ rfl w2.heap.size (.slice (some ⟨w2.heap.size, 0, none⟩) 0 0) [] t.px rfl o2 bx off cap rfl (fun i y hy => by
          obtain ⟨i1, b', o', e', _, h3, h4⟩ := HU.cell i y hy
          cases e'
          exact ⟨i1, ((HX2.out.trans g1).cells.1 bx _ (by omega)).trans h4⟩) (by simp; omega) g1.size ?_
        intro v7 w7 hown7 hg7
        have u7 : Ext w2 w7 := Ext.grown g1 hg7 (fun k hk => (o2.lt k hk).1)
        go_wp2_with fail
        refine hK _ _ (.inr (fun b _ hb => Ext.block u7 (by omega))) ?_
        clear hK K
        obtain ⟨va7, vc7, hv7, _⟩ := hown7.form
        simp only [List.nil_append] at hown7 hv7
        subst hv7
        have n3 := n2.grown hg7 (by simp [Value.ownBlock])
        refine wpZ_stage (fuel := 0) [8, 9] [11] (by kernel_rfl) (fun b _ hb => Ext.block u7 (by omega)) ?_
        try simp only [Act.put, List.setIfInBounds_toArray, List.set_cons_succ, List.set_cons_zero]
        simp only [List.filterMap_cons, List.filterMap_nil, List.getElem?_toArray, List.getElem?_cons_zero, List.getElem?_cons_succ]
        show wpQuiet _ _ _ _ [_, _] _
        repeat (go_big_quiet_step (fail))
        refine wpQuiet_nil ?_
        intro e he
        simp only [List.mem_cons, List.not_mem_nil, or_false] at he
        subst he
        (unfold wpComes; simp only [List.getElem?_toArray, List.getElem?_cons_succ, List.getElem?_cons_zero, Option.some.injEq]; refine ⟨_, rfl, fun K hK => ?_⟩)
        have hbk := n3
        have p0 := hbk.cell 0 rfl
        have p1 := hbk.cell 1 rfl
        have p2 := hbk.cell 2 rfl
        have p3 := hbk.cell 3 rfl
        have p4 := hbk.cell 4 rfl
        have f0 := hbk.free 0
        have f1 := hbk.free 1
        have f2 := hbk.free 2
        have f3 := hbk.free 3
        have f4 := hbk.free 4
        have hlA : w2.heap.size ≤ (w2.heap.size + 1) := by first | omega | (simp; omega)
        have hneA : ∀ k, (Value.slice va7 t.px.length vc7).ownBlock = some k → k ≠ (w2.heap.size + 1) := fun k hk e => by
          obtain ⟨c, hc⟩ := (hown7).block hk
          rw [e] at hc
          unfold Blk at hbk
          rw [hbk] at hc
          simp only [Option.some.injEq, Obj.cells.injEq] at hc
          exact absurd hc.2.1 (by decide)
        have hxx : Ext w2 ((((((((((w7).setCell ⟨(w2.heap.size + 1), 0, none⟩ (.int .i64 (n : Nat)))).setCell ⟨(w2.heap.size + 1), 1, none⟩ (.slice none 0 0))).setCell ⟨(w2.heap.size + 1), 2, none⟩ (.int .i64 tm))).setCell ⟨(w2.heap.size + 1), 3, none⟩ (.int .i64 t.log))).setCell ⟨(w2.heap.size + 1), 4, none⟩ (.slice va7 t.px.length vc7)) := Ext.setCell (Ext.setCell (Ext.setCell (Ext.setCell (Ext.setCell u7 hlA _) hlA _) hlA _) hlA _) hlA _
        have hbb : Blk ((((((((((w7).setCell ⟨(w2.heap.size + 1), 0, none⟩ (.int .i64 (n : Nat)))).setCell ⟨(w2.heap.size + 1), 1, none⟩ (.slice none 0 0))).setCell ⟨(w2.heap.size + 1), 2, none⟩ (.int .i64 tm))).setCell ⟨(w2.heap.size + 1), 3, none⟩ (.int .i64 t.log))).setCell ⟨(w2.heap.size + 1), 4, none⟩ (.slice va7 t.px.length vc7)) ((w2.heap.size + 1)) 33 [.int .i64 (n : Nat), .slice none 0 0, .int .i64 tm, .int .i64 t.log, .slice va7 t.px.length vc7] := ((((hbk.set 0 _).set 1 _).set 2 _).set 3 _).set 4 _
        have hoo : OwnInts w2.heap.size ((((((((((w7).setCell ⟨(w2.heap.size + 1), 0, none⟩ (.int .i64 (n : Nat)))).setCell ⟨(w2.heap.size + 1), 1, none⟩ (.slice none 0 0))).setCell ⟨(w2.heap.size + 1), 2, none⟩ (.int .i64 tm))).setCell ⟨(w2.heap.size + 1), 3, none⟩ (.int .i64 t.log))).setCell ⟨(w2.heap.size + 1), 4, none⟩ (.slice va7 t.px.length vc7)) (.slice va7 t.px.length vc7) t.px := ((((((hown7).setOther (a := ⟨(w2.heap.size + 1), 0, none⟩) (fun e => hneA _ e rfl) _).setOther (a := ⟨(w2.heap.size + 1), 1, none⟩) (fun e => hneA _ e rfl) _).setOther (a := ⟨(w2.heap.size + 1), 2, none⟩) (fun e => hneA _ e rfl) _).setOther (a := ⟨(w2.heap.size + 1), 3, none⟩) (fun e => hneA _ e rfl) _).setOther (a := ⟨(w2.heap.size + 1), 4, none⟩) (fun e => hneA _ e rfl) _)
        go_wp2
        refine hK _ _ (.inl (by trivial)) ?_
        clear hK K
        refine wpZ_end (by kernel_rfl) ?_
        go_wp2_with fail
        go_meet
        exact ⟨(w2.heap.size + 1), _, rfl, hlA, hbb, hoo, hxx⟩
    · have g1 : Ext w2 (w2.drew.alloc (.cells #[.int .i64 0, .slice none 0 0, .int .i64 0, .int .i64 0, .slice none 0 0] 33)) := (by repeat (with_reducible (first | assumption | exact Ext.refl _ | apply Ext.alloc | apply Ext.drew | apply Ext.drewN)))
      have n2 := Blk.new w2.drew 33 [.int .i64 0, .slice none 0 0, .int .i64 0, .int .i64 0, .slice none 0 0]
      rw [show w2.drew.heap.size = w2.heap.size from rfl] at n2
      (unfold wpComes; simp only [List.getElem?_toArray, List.getElem?_cons_succ, List.getElem?_cons_zero, Option.some.injEq]; refine ⟨_, rfl, fun K hK => ?_⟩)
      go_wp2
      refine hK _ _ (.inr (fun b _ hb => Ext.block g1 (by omega))) ?_
      clear hK K
      refine wpZ_stage (fuel := 4) [] [4] (by kernel_rfl) (fun b _ hb => Ext.block g1 (by omega)) ?_
      refine wpQuiet_nil ?_
      intro e he
      simp only [List.mem_cons, List.not_mem_nil, or_false] at he
      subst he
      have g2 : Ext w2 ((w2.drew.alloc (.cells #[.int .i64 0, .slice none 0 0, .int .i64 0, .int .i64 0, .slice none 0 0] 33)).alloc (.cells #[] 3)) := (by repeat (with_reducible (first | assumption | exact Ext.refl _ | apply Ext.alloc | apply Ext.drew | apply Ext.drewN)))
      have n3 := n2.ext (show Ext _ ((w2.drew.alloc (.cells #[.int .i64 0, .slice none 0 0, .int .i64 0, .int .i64 0, .slice none 0 0] 33)).alloc (.cells #[] 3)) from (by repeat (with_reducible (first | assumption | exact Ext.refl _ | apply Ext.alloc | apply Ext.drew | apply Ext.drewN))))
      have b2 := Blk.new (w2.drew.alloc (.cells #[.int .i64 0, .slice none 0 0, .int .i64 0, .int .i64 0, .slice none 0 0] 33)) 3 []
      rw [World.size_alloc, show w2.drew.heap.size = w2.heap.size from rfl] at b2
      have o2 : OwnInts w2.heap.size ((w2.drew.alloc (.cells #[.int .i64 0, .slice none 0 0, .int .i64 0, .int .i64 0, .slice none 0 0] 33)).alloc (.cells #[] 3)) (.slice (some ⟨w2.heap.size + 1, 0, none⟩) 0 0) [] := OwnInts.fresh0 (by omega) b2
      (unfold wpComes; simp only [List.getElem?_toArray, List.getElem?_cons_succ, List.getElem?_cons_zero, Option.some.injEq]; refine ⟨_, rfl, fun K hK => ?_⟩)
      go_wp2
      refine hK _ _ (.inr (fun b _ hb => Ext.block g2 (by omega))) ?_
      clear hK K
      refine wpZ_stage (fuel := 3) [] [7] (by kernel_rfl) (fun b _ hb => Ext.block g2 (by omega)) ?_
      refine wpQuiet_nil ?_
      intro e he
      simp only [List.mem_cons, List.not_mem_nil, or_false] at he
      subst he
      (unfold wpComes; simp only [List.getElem?_toArray, List.getElem?_cons_succ, List.getElem?_cons_zero, Option.some.injEq]; refine ⟨_, rfl, fun K hK => ?_⟩)
      refine wpList_append_ints _ rfl _ _ rfl w2.heap.size (.slice (some ⟨w2.heap.size + 1, 0, none⟩) 0 0) [] t.px rfl o2 bx off cap rfl (fun i y hy => by
        obtain ⟨i1, b', o', e', _, h3, h4⟩ := HU.cell i y hy
        cases e'
        exact ⟨i1, ((HX2.out.trans g2).cells.1 bx _ (by omega)).trans h4⟩) (by simp; omega) g2.size ?_
      intro v7 w7 hown7 hg7
      have u7 : Ext w2 w7 := Ext.grown g2 hg7 (fun k hk => (o2.lt k hk).1)
      go_wp2_with fail
      refine hK _ _ (.inr (fun b _ hb => Ext.block u7 (by omega))) ?_
      clear hK K
      obtain ⟨va7, vc7, hv7, _⟩ := hown7.form
      simp only [List.nil_append] at hown7 hv7
      subst hv7
      have n4 := n3.grown hg7 (by simp [Value.ownBlock])
      refine wpZ_stage (fuel := 0) [8, 9] [11] (by kernel_rfl) (fun b _ hb => Ext.block u7 (by omega)) ?_
      try simp only [Act.put, List.setIfInBounds_toArray, List.set_cons_succ, List.set_cons_zero]
      simp only [List.filterMap_cons, List.filterMap_nil, List.getElem?_toArray, List.getElem?_cons_zero, List.getElem?_cons_succ]
      show wpQuiet _ _ _ _ [_, _] _
      repeat (go_big_quiet_step (fail))
      refine wpQuiet_nil ?_
      intro e he
      simp only [List.mem_cons, List.not_mem_nil, or_false] at he
      subst he
      (unfold wpComes; simp only [List.getElem?_toArray, List.getElem?_cons_succ, List.getElem?_cons_zero, Option.some.injEq]; refine ⟨_, rfl, fun K hK => ?_⟩)
      have hbk := n4
      have p0 := hbk.cell 0 rfl
      have p1 := hbk.cell 1 rfl
      have p2 := hbk.cell 2 rfl
      have p3 := hbk.cell 3 rfl
      have p4 := hbk.cell 4 rfl
      have f0 := hbk.free 0
      have f1 := hbk.free 1
      have f2 := hbk.free 2
      have f3 := hbk.free 3
      have f4 := hbk.free 4
      have hlA : w2.heap.size ≤ w2.heap.size := by first | omega | (simp; omega)
      have hneA : ∀ k, (Value.slice va7 t.px.length vc7).ownBlock = some k → k ≠ w2.heap.size := fun k hk e => by
        obtain ⟨c, hc⟩ := (hown7).block hk
        rw [e] at hc
        unfold Blk at hbk
        rw [hbk] at hc
        simp only [Option.some.injEq, Obj.cells.injEq] at hc
        exact absurd hc.2.1 (by decide)
      have hxx : Ext w2 ((((((((((w7).setCell ⟨w2.heap.size, 0, none⟩ (.int .i64 (n : Nat)))).setCell ⟨w2.heap.size, 1, none⟩ (.slice none 0 0))).setCell ⟨w2.heap.size, 2, none⟩ (.int .i64 tm))).setCell ⟨w2.heap.size, 3, none⟩ (.int .i64 t.log))).setCell ⟨w2.heap.size, 4, none⟩ (.slice va7 t.px.length vc7)) := Ext.setCell (Ext.setCell (Ext.setCell (Ext.setCell (Ext.setCell u7 hlA _) hlA _) hlA _) hlA _) hlA _
      have hbb : Blk ((((((((((w7).setCell ⟨w2.heap.size, 0, none⟩ (.int .i64 (n : Nat)))).setCell ⟨w2.heap.size, 1, none⟩ (.slice none 0 0))).setCell ⟨w2.heap.size, 2, none⟩ (.int .i64 tm))).setCell ⟨w2.heap.size, 3, none⟩ (.int .i64 t.log))).setCell ⟨w2.heap.size, 4, none⟩ (.slice va7 t.px.length vc7)) (w2.heap.size) 33 [.int .i64 (n : Nat), .slice none 0 0, .int .i64 tm, .int .i64 t.log, .slice va7 t.px.length vc7] := ((((hbk.set 0 _).set 1 _).set 2 _).set 3 _).set 4 _
      have hoo : OwnInts w2.heap.size ((((((((((w7).setCell ⟨w2.heap.size, 0, none⟩ (.int .i64 (n : Nat)))).setCell ⟨w2.heap.size, 1, none⟩ (.slice none 0 0))).setCell ⟨w2.heap.size, 2, none⟩ (.int .i64 tm))).setCell ⟨w2.heap.size, 3, none⟩ (.int .i64 t.log))).setCell ⟨w2.heap.size, 4, none⟩ (.slice va7 t.px.length vc7)) (.slice va7 t.px.length vc7) t.px := ((((((hown7).setOther (a := ⟨w2.heap.size, 0, none⟩) (fun e => hneA _ e rfl) _).setOther (a := ⟨w2.heap.size, 1, none⟩) (fun e => hneA _ e rfl) _).setOther (a := ⟨w2.heap.size, 2, none⟩) (fun e => hneA _ e rfl) _).setOther (a := ⟨w2.heap.size, 3, none⟩) (fun e => hneA _ e rfl) _).setOther (a := ⟨w2.heap.size, 4, none⟩) (fun e => hneA _ e rfl) _)
      go_wp2
      refine hK _ _ (.inl (by trivial)) ?_
      clear hK K
      refine wpZ_end (by kernel_rfl) ?_
      go_wp2_with fail
      go_meet
      exact ⟨w2.heap.size, _, rfl, hlA, hbb, hoo, hxx⟩
  case rest =>
    obtain ⟨A, tu, rfl, hA, B3, O3, E3⟩ := hcut
    obtain ⟨tua, tuc, rfl, -⟩ := O3.form
    have S3 : GSt w2.heap.size n tm t f A w.heap.size (w.heap.size + 1 + 1) (.slice tua t.px.length tuc) w wc [] (.slice none 0 0) :=
      ⟨HX2.out.trans E3, R2.out.ext E3, Q2.out.ext E3, B3, OwnG.nil _ _ _ _ _, O3, (fun _ h => nomatch h)⟩
    have HS3 := hid S3
    have zQ := Q2.out.lt
    clear R2 T2 Q2 HX2 t0 t1 zt B3 O3 E3 S3
    go_wp2_with fail
    go_loopw [11] (fun v wr => ∃ (j : Nat) (ps : List Pt) (pu : Value), j ≤ n ∧ v = .int .i64 (j : Nat) ∧ ps.length = j * n ∧ GSt w2.heap.size n tm t f A w.heap.size (w.heap.size + 1 + 1) (.slice tua t.px.length tuc) w wr ps pu) (fun v _ => n - (intOf v).toNat)
    case atStart => exact ⟨0, [], _, by omega, rfl, by simp, HS3.out⟩
    case round =>
      obtain ⟨j, ps, pu, hj, rfl, hpl, hs⟩ := hrel
      have HPL := hid hpl
      clear hpl
      have HS := hid hs
      clear hs HS3
      by_cases hlt : j < n
      · go_wp2_with fail
        go_loopw [12] (fun v wr => ∃ (i : Nat) (ps : List Pt) (pu : Value), i ≤ n ∧ v = .int .i64 (i : Nat) ∧ ps.length = j * n + i ∧ GSt w2.heap.size n tm t f A w.heap.size (w.heap.size + 1 + 1) (.slice tua t.px.length tuc) w wr ps pu) (fun v _ => n - (intOf v).toNat)
        case atStart => exact ⟨0, ps, pu, by omega, rfl, HPL.out, HS.out⟩
        case round =>
          obtain ⟨i, ps, pu, hi', rfl, hpl, hs⟩ := hrel
          have HPL2 := hid hpl
          clear hpl
          have HS4 := hid hs
          clear hs HS
          by_cases hlti : i < n
          · have hR := HS4.out.pat
            have c0 := hR.cell (i := 0) (by decide)
            have c1 := hR.cell (i := 1) (by decide)
            have c2 := hR.cell (i := 2) (by decide)
            have c3 := hR.cell (i := 3) (by decide)
            have c4 := hR.cell (i := 4) (by decide)
            have c5 := hR.cell (i := 5) (by decide)
            have c6 := hR.cell (i := 6) (by decide)
            have c7 := hR.cell (i := 7) (by decide)
            have c8 := hR.cell (i := 8) (by decide)
            have c9 := hR.cell (i := 9) (by decide)
            have c10 := hR.cell (i := 10) (by decide)
            have c11 := hR.cell (i := 11) (by decide)
            go_wp2_with fail
            refine (sEvalPatch_any f hf n i j hn hlti hlt _).mono ?_
            rintro e w3 ⟨x, y, z, rfl, hbx', hby', hbz', x3⟩
            have y3 : Ext w3 (w3.alloc (.cells #[.int .i64 x, .int .i64 y, .int .i64 z] 106)) := (by repeat (with_reducible (first | assumption | exact Ext.refl _ | apply Ext.alloc | apply Ext.drew | apply Ext.drewN)))
            have v3 := Blk.new w3 106 [.int .i64 x, .int .i64 y, .int .i64 z]
            have HS5 := hid (HS4.out.to (x3.trans y3))
            have HV5 := hid v3
            have z3 := x3.size
            have b1 := HS5.out.box.cell 1 rfl
            have fb1 := HS5.out.box.free 1
            have zA := HS5.out.box.lt
            have zA3 : A < w3.heap.size := by
              have := HS4.out.box.lt
              omega
            obtain ⟨pa, pc, rfl, -⟩ := OwnG.form HS5.out.pts
            clear x3 y3 v3 c0 c1 c2 c3 c4 c5 c6 c7 c8 c9 c10 c11 hR HS4
            go_wp2_with fail
            refine wp_region_stagesS [([0, 1, 2, 3, 4, 5, 6, 7, 8, 9, 10, 11, 12, 13, 14, 15, 16], 17), ([], 18), ([19], 20)] 20 (fun w' => ∃ d, w' = lowc (C2b A w3.heap.size) _ d) (by kernel_rfl) (by kernel_rfl) (SC.drew _ _) ?_
            refine wpStagesS_cons ?_
            simp only [List.filterMap_cons, List.filterMap_nil, List.getElem?_toArray, List.getElem?_cons_zero, List.getElem?_cons_succ]
            show wpQuiet _ _ _ _ [_, _, _, _, _, _, _, _, _, _, _, _, _, _, _, _, _] _
            repeat (go_big_quiet_step (fail))
            refine wpQuiet_nil ⟨_, rfl, fun K hK => ?_⟩
            go_wp2_with fail
            have y8 : Ext (w3.alloc (.cells #[.int .i64 x, .int .i64 y, .int .i64 z] 106)) (((w3.alloc (.cells #[.int .i64 x, .int .i64 y, .int .i64 z] 106)).alloc (.cells #[.int .i64 ((i : Int) * 256 / (n : Int)), .int .i64 ((j : Int) * 256 / (n : Int)), .int .i64 x, .int .i64 y, .int .i64 z] 157)).drew) := (by repeat (first | with_reducible assumption | with_reducible exact Ext.refl _ | with_reducible apply Ext.alloc | with_reducible apply Ext.drew | with_reducible apply Ext.drewN | (with_reducible refine Ext.setCell ?_ (by simp; omega) _) | (with_reducible refine Ext.setCell ?_ (by simp) _)))
            have b8 := (Blk.new (w3.alloc (.cells #[.int .i64 x, .int .i64 y, .int .i64 z] 106)) 157 [.int .i64 ((i : Int) * 256 / (n : Int)), .int .i64 ((j : Int) * 256 / (n : Int)), .int .i64 x, .int .i64 y, .int .i64 z]).ext (show Ext _ (((w3.alloc (.cells #[.int .i64 x, .int .i64 y, .int .i64 z] 106)).alloc (.cells #[.int .i64 ((i : Int) * 256 / (n : Int)), .int .i64 ((j : Int) * 256 / (n : Int)), .int .i64 x, .int .i64 y, .int .i64 z] 157)).drew) from (by repeat (first | with_reducible assumption | with_reducible exact Ext.refl _ | with_reducible apply Ext.alloc | with_reducible apply Ext.drew | with_reducible apply Ext.drewN | (with_reducible refine Ext.setCell ?_ (by simp; omega) _) | (with_reducible refine Ext.setCell ?_ (by simp) _))))
            rw [World.size_alloc] at b8
            refine hK _ _ (.inr (SC.blocks fun a ha => ?_)) ?_
            · rcases ha with ha | ha
              · exact y8.block (by rw [ha, World.size_alloc]; omega)
              · exact y8.block (by rw [ha, World.size_alloc]; omega)
            clear hK K
            have HS8 := hid (HS5.out.to y8)
            have HB8 := hid b8
            have HY8 := hid y8
            have z8 := y8.size
            rw [World.size_alloc] at z8
            have hnn : j * n + i ≤ 64 := by
              have : j * n ≤ 4 * 4 := Nat.mul_le_mul (by omega) (by omega)
              omega
            clear y8 b8
            refine wpStagesS_cons ?_
            simp only [List.filterMap_nil]
            show wpQuiet _ _ _ _ [] _
            try simp only [Act.put, List.setIfInBounds_toArray, List.set_cons_succ, List.set_cons_zero]
            repeat (go_big_quiet_step (fail))
            refine wpQuiet_nil ⟨_, rfl, fun K hK => ?_⟩
            refine wpList_append_pt _ rfl _ _ rfl w2.heap.size (.slice pa ps.length pc) ps rfl HS8.out.pts ⟨(i : Int) * 256 / (n : Int), (j : Int) * 256 / (n : Int), x, y, z⟩ (w3.heap.size + 1) rfl (fun q hq => by
              rcases (show q = 0 ∨ q = 1 ∨ q = 2 ∨ q = 3 ∨ q = 4 by omega) with rfl | rfl | rfl | rfl | rfl
              · exact HB8.out.cell 0 rfl
              · exact HB8.out.cell 1 rfl
              · exact HB8.out.cell 2 rfl
              · exact HB8.out.cell 3 rfl
              · exact HB8.out.cell 4 rfl) (by have := HPL2.out; omega) (by omega) ?_
            intro pu2 w9 hown hg
            have hrow := OwnG.rowT HS8.out.pts
            have kA : w9.heap[A]? = (w3.alloc (.cells #[.int .i64 x, .int .i64 y, .int .i64 z] 106)).heap[A]? := (hg.block _ (by omega) (fun e => by
              obtain ⟨_, c, hc⟩ := hrow _ e.symm
              have hb := HS8.out.box
              unfold Blk at hb
              rw [hb] at hc
              simp only [Option.some.injEq, Obj.cells.injEq] at hc
              exact absurd hc.2.1 (by decide))).trans (HY8.out.block zA)
            have kV : w9.heap[w3.heap.size]? = (w3.alloc (.cells #[.int .i64 x, .int .i64 y, .int .i64 z] 106)).heap[w3.heap.size]? := (hg.block _ (by omega) (fun e => by
              obtain ⟨_, c, hc⟩ := hrow _ e.symm
              have hb := HV5.out.ext HY8.out
              unfold Blk at hb
              rw [hb] at hc
              simp only [Option.some.injEq, Obj.cells.injEq] at hc
              exact absurd hc.2.1 (by decide))).trans (HY8.out.block (by rw [World.size_alloc]; omega))
            have HS9 := hid (HS8.out.grow (by omega) zQ hA z2 hg hown (fun p hp => by
              rcases List.mem_append.1 hp with hp | hp
              · exact HS8.out.sm p hp
              · simp only [List.mem_cons, List.not_mem_nil, or_false] at hp
                subst hp
                intro u hu
                simp only [Pt.ls, List.mem_cons, List.not_mem_nil, or_false] at hu
                rcases hu with rfl | rfl | rfl | rfl | rfl
                · exact uv_sm hn.1 hlti
                · exact uv_sm hn.1 hlt
                · exact hbx'
                · exact hby'
                · exact hbz'))
            have B9 := HS5.out.box.of kA
            have e1 := B9.cell 1 rfl
            have g1 := B9.free 1
            go_wp2_with fail
            refine hK _ _ (.inr (SC.blocks fun a ha => ?_)) ?_
            · rcases ha with ha | ha
              · rw [ha]; exact kA
              · rw [ha]; exact kV
            clear hK K
            obtain ⟨pa2, pc2, hv, _⟩ := OwnG.form hown
            have hll : (ps ++ [(⟨(i : Int) * 256 / (n : Int), (j : Int) * 256 / (n : Int), x, y, z⟩ : Pt)]).length = ps.length + 1 := by simp
            rw [hll] at hv
            subst hv
            clear hown hg hrow kA kV b1 fb1 B9
            refine wpStagesS_cons ?_
            simp only [List.filterMap_cons, List.filterMap_nil, List.getElem?_toArray, List.getElem?_cons_zero, List.getElem?_cons_succ]
            show wpQuiet _ _ _ _ [_] _
            simp only [Act.put, List.setIfInBounds_toArray, List.set_cons_succ, List.set_cons_zero, List.getElem_toArray, List.getElem_cons_succ, List.getElem_cons_zero]
            repeat (go_big_quiet_step (fail))
            refine wpQuiet_nil ⟨_, rfl, fun K hK => ?_⟩
            go_wp2_with fail
            refine hK _ _ (.inl trivial) ?_
            clear hK K
            refine wpStagesS_nil ?_
            go_wp2
            go_roundw
            case rel => exact ⟨i + 1, ps ++ [(⟨(i : Int) * 256 / (n : Int), (j : Int) * 256 / (n : Int), x, y, z⟩ : Pt)], _, by omega, by go_num, by have := HPL2.out; omega, HS9.out⟩
            case measure => simp [intOf]; omega
          · obtain rfl : i = n := by omega
            go_wp2
            go_roundw
            case rel => exact ⟨j + 1, ps, pu, by omega, by go_num, by rw [HPL2.out, Nat.succ_mul], HS4.out⟩
            case measure => simp [intOf]; omega
      · obtain rfl : j = n := by omega
        have b0 := HS.out.box.cell 0 rfl
        have b1 := HS.out.box.cell 1 rfl
        have b2 := HS.out.box.cell 2 rfl
        have b3 := HS.out.box.cell 3 rfl
        have b4 := HS.out.box.cell 4 rfl
        have q0 := HS.out.res.cell 0 rfl
        have q1 := HS.out.res.cell 1 rfl
        have q2 := HS.out.res.cell 2 rfl
        have q3 := HS.out.res.cell 3 rfl
        have q4 := HS.out.res.cell 4 rfl
        have g0 := HS.out.res.free 0
        have g1 := HS.out.res.free 1
        have g2 := HS.out.res.free 2
        have g3 := HS.out.res.free 3
        have g4 := HS.out.res.free 4
        have zq := HS.out.res.lt
        have za := HS.out.box.lt
        obtain ⟨pa, pc, rfl, -⟩ := OwnG.form HS.out.pts
        go_wp2
        refine bodyPost_ret (v := .tuple #[.agg #[.int .i64 (j : Nat), .slice pa ps.length pc, .int .i64 tm, .int .i64 t.log, .slice tua t.px.length tuc], .bool true]) (by simp [results, Tryz.results48, go_sem, *]) rfl ?_
        have hex := HS.out.ext
        have hzz := hex.size
        refine ⟨⟨(j : Nat), ps.length, ptF ps, tm, t⟩, _, rfl, ⟨_, _, rfl, ⟨by show (-9223372036854775808 : Int) ≤ ((j : Nat) : Int); omega, by show ((j : Nat) : Int) ≤ 9223372036854775807; omega⟩, ⟨by show (-9223372036854775808 : Int) ≤ tm; omega, by show tm ≤ 9223372036854775807; omega⟩, tlog, (((OwnPts.flats HS.out.pts HS.out.sm).same (set5_same wr zQ _ _ _ _ _)).wide z2 (by simp)), ((HS.out.tex.ints.same (set5_same wr zQ _ _ _ _ _)).wide z2 (by simp))⟩, ?_, (by repeat (first | with_reducible assumption | with_reducible exact Ext.refl _ | with_reducible apply Ext.alloc | with_reducible apply Ext.drew | with_reducible apply Ext.drewN | (with_reducible refine Ext.setCell ?_ (by simp; omega) _) | (with_reducible refine Ext.setCell ?_ (by simp) _)))⟩
        unfold Grd.okB
        simp only [Bool.and_eq_true]
        refine ⟨⟨⟨⟨HN.out, decide_eq_true ?_⟩, HM.out⟩, HK.out⟩, rng_all (fun i _ => ptB_small HS.out.sm i)⟩
        have := HPL.out
        rw [this]
        exact Int.natCast_mul j j
end Go.Proofs.YtaegmenjgjdimaaGreat
end

section
/- This text proves the draw of grids: a valid grid. -/
namespace Go.Proofs.YtaegmenjgjdimaaGreat
open Go.RowKit

theorem sGridOf_at (lo hi : Nat) (f : Nat → Int) (hf : SmF f) (c : Int) (hc : 1 ≤ c ∧ c ≤ 4) (tm : Int) (htm : 0 ≤ tm ∧ tm ≤ 256) (tv : Value) (t : Tex) (w : World) (ht : TexR lo hi w tv t) (hh : hi ≤ w.heap.size) (hok : t.Ok) :
    Calls Tryz.prog 48 #[.agg #[.int .i64 (f 0), .int .i64 (f 1), .int .i64 (f 2), .int .i64 (f 3), .int .i64 (f 4), .int .i64 (f 5), .int .i64 (f 6), .int .i64 (f 7), .int .i64 (f 8), .int .i64 (f 9), .int .i64 (f 10), .int .i64 (f 11)], .int .i64 c, .int .i64 tm, tv] w fun e w' => ∃ (g : Grd) (v : Value), e = .returned (.tuple #[v, .bool true]) ∧ g.R w.heap.size w'.heap.size w' v ∧ g.okB = true ∧ Ext w w' := by
  obtain ⟨n, rfl⟩ : ∃ n : Nat, c = (n : Int) := ⟨c.toNat, by omega⟩
  exact sGridOf_any lo hi f hf n (by omega) tm htm tv t w ht hh hok
theorem Grd.R.form {g : Grd} {lo hi : Nat} {w : World} {v : Value} (h : g.R lo hi w v) : ∃ a1 c1 a2 c2, v = .agg #[.int .i64 g.n, .slice a1 g.m c1, .int .i64 g.tm, .int .i64 g.t.log, .slice a2 g.t.px.length c2] := by
  obtain ⟨pu, tu, rfl, _, _, _, hp, hu⟩ := h
  obtain ⟨a1, c1, rfl, _⟩ := hp
  obtain ⟨a2, c2, rfl, _⟩ := hu
  exact ⟨a1, c1, a2, c2, rfl⟩
theorem Grd.R.set5 {g : Grd} {lo hi l2 Q : Nat} {w : World} {v : Value} (h : g.R lo hi w v) (hQ : Q < lo) (hl : l2 ≤ lo) (hh : hi ≤ w.heap.size) (a b c d e : Value) : g.R l2 (((((w.setCell ⟨Q, 0, none⟩ a).setCell ⟨Q, 1, none⟩ b).setCell ⟨Q, 2, none⟩ c).setCell ⟨Q, 3, none⟩ d).setCell ⟨Q, 4, none⟩ e).heap.size (((((w.setCell ⟨Q, 0, none⟩ a).setCell ⟨Q, 1, none⟩ b).setCell ⟨Q, 2, none⟩ c).setCell ⟨Q, 3, none⟩ d).setCell ⟨Q, 4, none⟩ e) v :=
  (h.same (set5_same w hQ a b c d e)).wide hl (by simp only [World.size_setCell]; exact hh)
set_option maxRecDepth 10000 in
set_option maxHeartbeats 3200000 in
theorem l17Grid_any (hi B : Nat) (w : World) (hc : Cur hi w B) : Calls Tryz.prog 21 #[.pointer (some ⟨B, 0, none⟩)] w fun e w' => ∃ (g : Grd) (v : Value), e = .returned v ∧ g.R w.heap.size w'.heap.size w' v ∧ g.okB = true ∧ Gr B w w' := by
  have zB := hc.lt
  have q0 := Blk.new w 33 [.int .i64 0, .slice none 0 0, .int .i64 0, .int .i64 0, .slice none 0 0]
  have x1 : Ext w (w.alloc (.cells #[.int .i64 0, .slice none 0 0, .int .i64 0, .int .i64 0, .slice none 0 0] 33)) := (by repeat (with_reducible (first | assumption | exact Ext.refl _ | apply Ext.alloc | apply Ext.drew | apply Ext.drewN)))
  have HC1 := hid (hc.ext x1)
  have HQ := hid q0
  have HX := hid x1
  have z1 : (w.alloc (.cells #[.int .i64 0, .slice none 0 0, .int .i64 0, .int .i64 0, .slice none 0 0] 33)).heap.size = w.heap.size + 1 := World.size_alloc _ _
  clear hc q0 x1
  go_enter Tryz.func21, Tryz.ntmps21
  go_wp2_with fail
  refine (l05Draw_any hi B _ HC1.out).mono ?_
  rintro e w2 ⟨f, rfl, hf, C2, G2⟩
  go_wp2_with fail
  refine (l01Below_any hi B 4 _ C2 (by decide) ⟨by decide, by decide⟩).mono ?_
  rintro e w3 ⟨x, rfl, hx, C3, G3⟩
  go_wp2_with fail
  refine (l01Below_any hi B 257 _ C3 (by decide) ⟨by decide, by decide⟩).mono ?_
  rintro e w4 ⟨tm, rfl, htm, C4, G4⟩
  go_wp2_with fail
  refine (l15Draw_any hi B _ C4).mono ?_
  rintro e w5 ⟨tv, t, rfl, O5, ok5, C5, G5⟩
  have G6 := hid (((G2.trans G3).trans G4).trans G5)
  have g6 := G6.out.size
  clear C2 C3 C4 C5 G2 G3 G4 G5
  obtain ⟨tu, rfl, hlog, o5⟩ := O5
  obtain ⟨ta, tc, rfl, -⟩ := o5.form
  have HT := hid (show TexR w4.heap.size w5.heap.size w5 (.agg #[.int .i64 t.log, .slice ta t.px.length tc]) t from ⟨_, rfl, hlog, o5.ints⟩)
  clear o5
  go_wp2_with fail
  refine (sGridOf_at _ _ f hf (1 + x) (by omega) tm (by omega) _ t _ HT.out (Nat.le_refl _) ok5).mono ?_
  rintro e w7 ⟨g, v, rfl, R7, ok7, x7⟩
  obtain ⟨a1, c1, a2, c2, rfl⟩ := R7.form
  have HR := hid R7
  have r0 := (G6.out.blk HQ.out (by omega)).ext x7
  have HG7 := hid (G6.out.ext x7)
  have z7 := x7.size
  have q0 := r0.cell 0 rfl
  have q1 := r0.cell 1 rfl
  have q2 := r0.cell 2 rfl
  have q3 := r0.cell 3 rfl
  have q4 := r0.cell 4 rfl
  have f0 := r0.free 0
  have f1 := r0.free 1
  have f2 := r0.free 2
  have f3 := r0.free 3
  have f4 := r0.free 4
  have zr := r0.lt
  clear R7 x7 r0
  go_wp2
  refine bodyPost_ret (v := .agg #[.int .i64 g.n, .slice a1 g.m c1, .int .i64 g.tm, .int .i64 g.t.log, .slice a2 g.t.px.length c2]) (by simp [results, Tryz.results21, go_sem, *]) rfl ?_
  have GG : Gr B w w7 := ((Gr.refl B w).ext HX.out).trans HG7.out
  exact ⟨g, _, rfl, ((HR.out.set5 (Q := w.heap.size) (l2 := w.heap.size) (by omega) (by omega) (Nat.le_refl _) _ _ _ _ _).ext (Nat.le_refl _) (by repeat (with_reducible (first | assumption | exact Ext.refl _ | apply Ext.alloc | apply Ext.drew | apply Ext.drewN)))).wide (Nat.le_refl _) (by rw [World.size_alloc]; omega), ok7, (((((GG.setNew (Nat.le_refl _) _ _).setNew (Nat.le_refl _) _ _).setNew (Nat.le_refl _) _ _).setNew (Nat.le_refl _) _ _).setNew (Nat.le_refl _) _ _).ext (by repeat (with_reducible (first | assumption | exact Ext.refl _ | apply Ext.alloc | apply Ext.drew | apply Ext.drewN)))⟩
set_option maxHeartbeats 1600000 in
theorem MakeGrid_any (hi : Nat) (v : Value) (n : Nat) (w : World) (hv : Byts hi w v n) (hh : hi ≤ w.heap.size) (hn : n ≤ 1048576) :
    Calls Tryz.prog 7 #[v] w fun e w' => ∃ (g : Grd) (v : Value), e = .returned v ∧ g.R w.heap.size w'.heap.size w' v ∧ g.okB = true ∧ Ext w w' := by
  have HV := hid hv
  obtain ⟨a, cap, rfl, k1, k2⟩ := hv.open
  clear hv
  go_enter Tryz.func7, Tryz.ntmps7
  go_wp2_with fail
  refine (l32New_any hi _ n 4 _ (HV.out.ext hh (by repeat (with_reducible (first | assumption | exact Ext.refl _ | apply Ext.alloc | apply Ext.drew | apply Ext.drewN)))) (by simp; omega) hn (by decide)).mono ?_
  rintro e w1 ⟨B, rfl, hB, C1, x1⟩
  go_wp2_with fail
  refine (l17Grid_any hi B _ C1).mono ?_
  rintro e w2 ⟨g, v2, rfl, R2, ok2, G2⟩
  obtain ⟨a1, c1, a2, c2, rfl⟩ := R2.form
  rw [World.size_alloc] at hB
  have x1' : Ext w w1 := Ext.trans (by repeat (with_reducible (first | assumption | exact Ext.refl _ | apply Ext.alloc | apply Ext.drew | apply Ext.drewN))) x1
  have R0 := G2.blk ((Blk.new w 33 [.int .i64 0, .slice none 0 0, .int .i64 0, .int .i64 0, .slice none 0 0]).ext x1) (by omega)
  have q0 := R0.cell 0 rfl
  have q1 := R0.cell 1 rfl
  have q2 := R0.cell 2 rfl
  have q3 := R0.cell 3 rfl
  have q4 := R0.cell 4 rfl
  have f0 := R0.free 0
  have f1 := R0.free 1
  have f2 := R0.free 2
  have f3 := R0.free 3
  have f4 := R0.free 4
  have z1 := R0.lt
  have zz := x1.size
  rw [World.size_alloc] at zz
  have HR := hid R2
  have HG := hid (G2.up x1' (by omega))
  clear R2
  go_wp2
  refine bodyPost_ret (v := .agg #[.int .i64 g.n, .slice a1 g.m c1, .int .i64 g.tm, .int .i64 g.t.log, .slice a2 g.t.px.length c2]) (by simp [results, Tryz.results7, go_sem, *]) rfl ?_
  have hg := HG.out
  exact ⟨g, _, rfl, HR.out.set5 (by omega) (by omega) (Nat.le_refl _) _ _ _ _ _, ok2, (by repeat (first | with_reducible assumption | with_reducible exact Ext.refl _ | with_reducible apply Ext.alloc | with_reducible apply Ext.drew | with_reducible apply Ext.drewN | (with_reducible refine Ext.setCell ?_ (by simp; omega) _) | (with_reducible refine Ext.setCell ?_ (by simp) _)))⟩
end Go.Proofs.YtaegmenjgjdimaaGreat
end

section
/- This text walks the law FnUniform. -/
namespace Go.Proofs.YtaegmenjgjdimaaGreat
open Go.RowKit

set_option maxRecDepth 10000 in
set_option maxHeartbeats 3200000 in
theorem lawUni (v : Value) (n : Nat) (W : World) (hv : Byts W.heap.size W v n) :
    Calls Tryz.prog 3 #[v] W fun e w' => e = .returned (.bool true) ∧ Ext W w' := by
  have HV := hid hv
  obtain ⟨a, cap, rfl, k1, k2⟩ := hv.open
  clear hv
  by_cases hn : n ≤ 1048576
  · go_enter Tryz.func3, Tryz.ntmps3
    go_wp2_with fail
    refine (MakeProgram_any W.heap.size _ n _ HV.out (Nat.le_refl _) hn).mono ?_
    rintro e w1 ⟨p, v1, rfl, R1, bd1, sm1, ch1, x1⟩
    obtain ⟨a1, c1, a2, c2, rfl⟩ := R1.form2
    have y1 : Ext w1 (w1.alloc (.cells #[.slice a1 p.ns.length c1, .slice a2 p.gs.length c2] 26)) := (by repeat (with_reducible (first | assumption | exact Ext.refl _ | apply Ext.alloc | apply Ext.drew | apply Ext.drewN)))
    have X1 := hid (x1.trans y1)
    have B1 := hid (Bx.made w1 #[.slice a1 p.ns.length c1, .slice a2 p.gs.length c2] 26)
    have P1 := hid (R1.ext (Nat.le_refl _) y1)
    have zy1 := y1.size
    clear R1 x1 y1
    go_wp2_with fail
    refine (MakeGrid_any W.heap.size _ n _ (HV.out.ext (Nat.le_refl _) X1.out) X1.out.size hn).mono ?_
    rintro e w3 ⟨g, v3, rfl, R3, ok3, x3⟩
    obtain ⟨a3, c3, a4, c4, rfl⟩ := R3.form
    have y3 : Ext w3 (w3.alloc (.cells #[.int .i64 g.n, .slice a3 g.m c3, .int .i64 g.tm, .int .i64 g.t.log, .slice a4 g.t.px.length c4] 33)) := (by repeat (with_reducible (first | assumption | exact Ext.refl _ | apply Ext.alloc | apply Ext.drew | apply Ext.drewN)))
    have X3 := hid (X1.out.trans (x3.trans y3))
    have B3 := hid (B1.out.ext (x3.trans y3))
    have P3 := hid (P1.out.ext zy1 (x3.trans y3))
    have G3 := hid (R3.ext (Nat.le_refl _) y3)
    have Q3 := hid (Bx.made w3 #[.int .i64 g.n, .slice a3 g.m c3, .int .i64 g.tm, .int .i64 g.t.log, .slice a4 g.t.px.length c4] 33)
    have zy3 := y3.size
    have zx3 := (x3.trans y3).size
    have bl1 := B1.out.lt
    obtain ⟨gn, hgn, _, g1, g8, _, _, _⟩ := Grd.partsE ok3
    clear R3 x3 y3 X1 B1 P1
    have gng : 1 ≤ g.n ∧ g.n ≤ 8 := by omega
    clear hgn g1 g8
    go_wp2_with fail
    refine wp_region_stages [([0, 2, 3], 1), ([4], 5)] 5 (w3.heap.size + 1) (by kernel_rfl) (by kernel_rfl) ?_
    refine wpStages_cons ?_
    simp only [List.filterMap_cons, List.filterMap_nil, List.getElem?_toArray, List.getElem?_cons_zero, List.getElem?_cons_succ]
    show wpQuiet _ _ _ _ [_, _, _] _
    repeat (go_big_quiet_step (fail))
    refine wpQuiet_nil ⟨_, rfl, fun K hK => ?_⟩
    go_wp2_with fail
    refine (MakeNum_any W.heap.size _ n 1 _ (HV.out.ext (Nat.le_refl _) (X3.out.trans (Ext.drew (Ext.refl _)))) X3.out.size hn (by decide)).mono ?_
    rintro e w5 ⟨i1, rfl, ⟨i10, i11⟩, x5⟩
    have y5 : Ext (w3.alloc (.cells #[.int .i64 g.n, .slice a3 g.m c3, .int .i64 g.tm, .int .i64 g.t.log, .slice a4 g.t.px.length c4] 33)) w5 := Ext.trans (Ext.drew (Ext.refl _)) x5
    go_wp2_with fail
    refine hK _ _ (.inr (y5.same (by rw [World.size_alloc]; exact Nat.le_refl _))) ?_
    clear hK K
    refine wpStages_cons ?_
    simp only [List.filterMap_cons, List.filterMap_nil, List.getElem?_toArray, List.getElem?_cons_zero, List.getElem?_cons_succ]
    show wpQuiet _ _ _ _ [_] _
    try simp only [Act.put, List.setIfInBounds_toArray, List.set_cons_succ, List.set_cons_zero]
    repeat (go_big_quiet_step (fail))
    refine wpQuiet_nil ⟨_, rfl, fun K hK => ?_⟩
    go_wp2_with fail
    refine hK _ _ (.inl (by trivial)) ?_
    clear hK K
    refine wpStages_nil ?_
    have X5 := hid (X3.out.trans y5)
    have B5 := hid (B3.out.ext y5)
    have Q5 := hid (Q3.out.ext y5)
    have P5 := hid (P3.out.ext (by omega) y5)
    have G5 := hid (G3.out.ext zy3 y5)
    have z5 := y5.size
    have q0 := Q5.out.cell 0
    have ql := Q5.out.lt
    simp only [List.getElem?_toArray, List.getElem?_cons_zero, List.getElem?_cons_succ] at q0
    clear x5 y5 X3 B3 Q3 P3 G3
    go_wp2_with fail
    refine wp_region_stages [([0, 2, 3], 1), ([4], 5)] 5 w5.heap.size (by kernel_rfl) (by kernel_rfl) ?_
    refine wpStages_cons ?_
    simp only [List.filterMap_cons, List.filterMap_nil, List.getElem?_toArray, List.getElem?_cons_zero, List.getElem?_cons_succ]
    show wpQuiet _ _ _ _ [_, _, _] _
    repeat (go_big_quiet_step (fail))
    refine wpQuiet_nil ⟨_, rfl, fun K hK => ?_⟩
    go_wp2_with fail
    refine (MakeNum_any W.heap.size _ n 2 _ (HV.out.ext (Nat.le_refl _) (X5.out.trans (Ext.drew (Ext.refl _)))) X5.out.size hn (by decide)).mono ?_
    rintro e w6 ⟨j1, rfl, ⟨j10, j11⟩, x6⟩
    have y6 : Ext w5 w6 := Ext.trans (Ext.drew (Ext.refl _)) x6
    go_wp2_with fail
    refine hK _ _ (.inr (y6.same (Nat.le_refl _))) ?_
    clear hK K
    refine wpStages_cons ?_
    simp only [List.filterMap_cons, List.filterMap_nil, List.getElem?_toArray, List.getElem?_cons_zero, List.getElem?_cons_succ]
    show wpQuiet _ _ _ _ [_] _
    try simp only [Act.put, List.setIfInBounds_toArray, List.set_cons_succ, List.set_cons_zero]
    repeat (go_big_quiet_step (fail))
    refine wpQuiet_nil ⟨_, rfl, fun K hK => ?_⟩
    go_wp2_with fail
    refine hK _ _ (.inl (by trivial)) ?_
    clear hK K
    refine wpStages_nil ?_
    have X6 := hid (X5.out.trans y6)
    have B6 := hid (B5.out.ext y6)
    have Q6 := hid (Q5.out.ext y6)
    have z6 := y6.size
    have P6 := hid (P5.out.ext (by omega) y6)
    have G6 := hid (G5.out.ext (by omega) y6)
    clear x6 y6 X5 B5 Q5 P5 G5 q0 ql
    have b0 := B6.out.cell 0
    simp only [List.getElem?_toArray, List.getElem?_cons_zero, List.getElem?_cons_succ] at b0
    have bl := B6.out.lt
    go_wp2_with fail
    have hx0 : 0 ≤ i1 % g.n ∧ i1 % g.n < g.n := ⟨Int.emod_nonneg _ (by omega), Int.emod_lt_of_pos _ (by omega)⟩
    have hy0 : 0 ≤ j1 % g.n ∧ j1 % g.n < g.n := ⟨Int.emod_nonneg _ (by omega), Int.emod_lt_of_pos _ (by omega)⟩
    obtain ⟨x, hxe⟩ : ∃ x, i1 % g.n = x := ⟨_, rfl⟩
    obtain ⟨y, hye⟩ : ∃ y, j1 % g.n = y := ⟨_, rfl⟩
    rw [hxe] at hx0 ⊢
    rw [hye] at hy0 ⊢
    have HOK := hid ok3
    have HCH := hid ch1
    have HK := hid (Prg.chkB_K ch1)
    have hok : evOk p g x y = true := by
      unfold evOk
      rw [ch1, ok3, inB_iff.2 ⟨by omega, by omega⟩, inB_iff.2 ⟨by omega, by omega⟩]
      rfl
    have HEO := hid hok
    have hnl := HK.out.v.len
    clear hxe hye i10 i11 j10 j11 hok b0
    go_loopw [31] (fun i wr => ∃ k : Nat, k ≤ p.ns.length ∧ i = .int .i64 (k : Nat) ∧ Ext w6 wr) (fun i _ => p.ns.length - (intOf i).toNat)
    case atStart => exact ⟨0, by omega, rfl, Ext.refl _⟩
    case round =>
      obtain ⟨k, hk, rfl, hxr⟩ := hrel
      have HB := hid (B6.out.ext hxr)
      have HQ := hid (Q6.out.ext hxr)
      have HP := hid (P6.out.ext (by omega) hxr)
      have HG := hid (G6.out.ext (by omega) hxr)
      have HX := hid (X6.out.trans hxr)
      have HXr := hid hxr
      have zr := hxr.size
      have b0 := HB.out.cell 0
      have b1 := HB.out.cell 1
      have q0 := HQ.out.cell 0
      have q1 := HQ.out.cell 1
      have q2 := HQ.out.cell 2
      have q3 := HQ.out.cell 3
      have q4 := HQ.out.cell 4
      have zB := HB.out.lt
      have zQ := HQ.out.lt
      simp only [List.getElem?_toArray, List.getElem?_cons_zero, List.getElem?_cons_succ] at b0 b1 q0 q1 q2 q3 q4
      clear hxr
      by_cases hlt : k < p.ns.length
      · cases hu : p.un k
        · have HU := hid hu
          clear hu
          go_wp2_with fail
          refine wp_region_stages [([0, 1], 2), ([3, 4, 5, 6, 7, 8, 10, 11, 12], 9), ([], 13), ([14], 15)] 99 wr.heap.size (by kernel_rfl) (by kernel_rfl) ?_
          refine wpStages_cons ?_
          simp only [List.filterMap_cons, List.filterMap_nil, List.getElem?_toArray, List.getElem?_cons_zero, List.getElem?_cons_succ]
          show wpQuiet _ _ _ _ [_, _] _
          repeat (go_big_quiet_step (fail))
          refine wpQuiet_nil ⟨_, rfl, fun K hK => ?_⟩
          go_wp2_with fail
          refine (iIsUniform_val _ _ _ _ (HP.out.ext (by omega) (Ext.drew (Ext.refl _))) (show _ ≤ wr.heap.size by omega) bd1 sm1.2 HCH.out k hlt HU.out).mono ?_
          rintro e w7 ⟨rfl, x7⟩
          have y7 : Ext wr w7 := Ext.trans (Ext.drew (Ext.refl _)) x7
          go_wp2_with fail
          refine hK _ _ (.inr (y7.same (Nat.le_refl _))) ?_
          clear hK K
          refine wpStages_cons ?_
          simp only [List.filterMap_cons, List.filterMap_nil, List.getElem?_toArray, List.getElem?_cons_zero, List.getElem?_cons_succ]
          show wpQuiet _ _ _ _ [_, _, _, _, _, _, _, _, _] _
          try simp only [Act.put, List.setIfInBounds_toArray, List.set_cons_succ, List.set_cons_zero]
          repeat (go_big_quiet_step (fail))
          refine wpQuiet_nil ⟨_, rfl, fun K hK => ?_⟩
          go_wp2_with fail
          go_wp2_with fail
          refine hK _ _ (.inr (y7.same (Nat.le_refl _))) ?_
          clear hK K
          refine wpStages_cons ?_
          simp only [List.filterMap_nil]
          show wpQuiet _ _ _ _ [] _
          try simp only [Act.put, List.setIfInBounds_toArray, List.set_cons_succ, List.set_cons_zero]
          repeat (go_big_quiet_step (fail))
          refine wpQuiet_nil ⟨_, rfl, fun K hK => ?_⟩
          go_wp2_with fail
          go_wp2_with fail
          refine hK _ _ (.inr (y7.same (Nat.le_refl _))) ?_
          clear hK K
          refine wpStages_cons ?_
          simp only [List.filterMap_cons, List.filterMap_nil, List.getElem?_toArray, List.getElem?_cons_zero, List.getElem?_cons_succ]
          show wpQuiet _ _ _ _ [_] _
          try simp only [Act.put, List.setIfInBounds_toArray, List.set_cons_succ, List.set_cons_zero]
          repeat (go_big_quiet_step (fail))
          refine wpQuiet_nil ⟨_, rfl, fun K hK => ?_⟩
          go_wp2_with fail
          go_wp2_with fail
          refine hK _ _ (.inr (y7.same (Nat.le_refl _))) ?_
          clear hK K
          refine wpStages_nil ?_
          have HX7 := hid (HXr.out.trans y7)
          clear x7 y7
          go_wp2_with fail
          go_roundw
          case rel => exact ⟨k + 1, by omega, by go_num, HX7.out⟩
          case measure => simp [intOf]; omega
        · have HU := hid hu
          have hev := hid (evN_un HK.out HOK.out hu hlt HCH.out hx0 hy0)
          clear hu
          obtain ⟨ev, hev1⟩ : ∃ z, evN p g k x y = z := ⟨_, rfl⟩
          have HE1 := hid hev1
          have HE2 : Hid (evN p g k 0 0 = ev) := hid (hev.out.symm.trans hev1)
          clear hev1 hev
          go_wp2_with fail
          refine wp_region_stages [([0, 1], 2), ([3, 4, 5, 6, 7, 8, 10, 11, 12], 9), ([], 13), ([14], 15)] 99 wr.heap.size (by kernel_rfl) (by kernel_rfl) ?_
          refine wpStages_cons ?_
          simp only [List.filterMap_cons, List.filterMap_nil, List.getElem?_toArray, List.getElem?_cons_zero, List.getElem?_cons_succ]
          show wpQuiet _ _ _ _ [_, _] _
          repeat (go_big_quiet_step (fail))
          refine wpQuiet_nil ⟨_, rfl, fun K hK => ?_⟩
          go_wp2_with fail
          refine (iIsUniform_val _ _ _ _ (HP.out.ext (by omega) (Ext.drew (Ext.refl _))) (show _ ≤ wr.heap.size by omega) bd1 sm1.2 HCH.out k hlt HU.out).mono ?_
          rintro e w7 ⟨rfl, x7⟩
          have y7 : Ext wr w7 := Ext.trans (Ext.drew (Ext.refl _)) x7
          go_wp2_with fail
          refine hK _ _ (.inr (y7.same (Nat.le_refl _))) ?_
          clear hK K
          refine wpStages_cons ?_
          simp only [List.filterMap_cons, List.filterMap_nil, List.getElem?_toArray, List.getElem?_cons_zero, List.getElem?_cons_succ]
          show wpQuiet _ _ _ _ [_, _, _, _, _, _, _, _, _] _
          try simp only [Act.put, List.setIfInBounds_toArray, List.set_cons_succ, List.set_cons_zero]
          repeat (go_big_quiet_step (fail))
          refine wpQuiet_nil ⟨_, rfl, fun K hK => ?_⟩
          go_wp2_with fail
          refine (iEvalNode_any _ _ _ _ _ _ p g k x y _ (HP.out.ext (by omega) y7) (by have := y7.size; omega) (HG.out.ext (by omega) y7) (by have := y7.size; omega) bd1 sm1.2).mono ?_
          rintro e w8 ⟨rfl, x8⟩
          rw [HE1.out]
          have y8 : Ext wr w8 := y7.trans x8
          go_wp2_with fail
          refine hK _ _ (.inr (y8.same (Nat.le_refl _))) ?_
          clear hK K
          refine wpStages_cons ?_
          simp only [List.filterMap_nil]
          show wpQuiet _ _ _ _ [] _
          try simp only [Act.put, List.setIfInBounds_toArray, List.set_cons_succ, List.set_cons_zero]
          repeat (go_big_quiet_step (fail))
          refine wpQuiet_nil ⟨_, rfl, fun K hK => ?_⟩
          go_wp2_with fail
          refine (iEvalNode_any _ _ _ _ _ _ p g k 0 0 _ (HP.out.ext (by omega) y8) (by have := y8.size; omega) (HG.out.ext (by omega) y8) (by have := y8.size; omega) bd1 sm1.2).mono ?_
          rintro e w9 ⟨rfl, x9⟩
          rw [HE2.out]
          have y9 : Ext wr w9 := y8.trans x9
          go_wp2_with fail
          refine hK _ _ (.inr (y9.same (Nat.le_refl _))) ?_
          clear hK K
          refine wpStages_cons ?_
          simp only [List.filterMap_cons, List.filterMap_nil, List.getElem?_toArray, List.getElem?_cons_zero, List.getElem?_cons_succ]
          show wpQuiet _ _ _ _ [_] _
          try simp only [Act.put, List.setIfInBounds_toArray, List.set_cons_succ, List.set_cons_zero]
          repeat (go_big_quiet_step (fail))
          refine wpQuiet_nil ⟨_, rfl, fun K hK => ?_⟩
          go_wp2_with fail
          go_wp2_with fail
          refine hK _ _ (.inr (y9.same (Nat.le_refl _))) ?_
          clear hK K
          refine wpStages_nil ?_
          have HX9 := hid (HXr.out.trans y9)
          clear x7 y7 x8 y8 x9 y9
          go_wp2_with fail
          go_roundw
          case rel => exact ⟨k + 1, by omega, by go_num, HX9.out⟩
          case measure => simp [intOf]; omega
      · obtain rfl : k = p.ns.length := by omega
        go_wp2_with fail
        refine (iShadePoint_any _ _ _ _ _ _ p g x y _ HP.out (by omega) HG.out (by omega) bd1 sm1.2).mono ?_
        rintro e w7 ⟨rfl, x7⟩
        rw [HEO.out]
        have X7 := HX.out.trans x7
        go_wp2
        go_ret
        exact ⟨rfl, X7⟩
  · go_enter Tryz.func3, Tryz.ntmps3
    go_wp2
    go_ret
    exact ⟨rfl, (by repeat (with_reducible (first | assumption | exact Ext.refl _ | apply Ext.alloc | apply Ext.drew | apply Ext.drewN)))⟩
end Go.Proofs.YtaegmenjgjdimaaGreat
end

section
/- This text reads the laws' arguments off the data that the row speaks of: integers, slices of integers, textures. -/
namespace Go.Proofs.YtaegmenjgjdimaaGreat
open Go.ChangeShapes Go.WideShapes Go.ChangeAt Go.RowKit

theorem laidOut : laidOutB Tryz.prog = true := by kernel_rfl

section
variable {H : Type} {enc : TypeId × Value → H} {W : World} {base b0 : Nat} {sp : Nat → Bool} {held : Bool}

theorem wf_I64 {n : Int} (h : (Lit.int .i64 n).wf = true) : I64 n := by
  simp [Lit.wf, IntKind.min, IntKind.max, IntKind.signed, IntKind.bits] at h
  exact ⟨by omega, by omega⟩
set_option maxRecDepth 100000 in
theorem argInt {v : Value} {d : DataW H} {p : List MemPlace} (hv : Value.okWide Tryz.prog W .any b0 3 v) (h : DataW.Trod enc Tryz.prog W base sp held 3 v d p) : ∃ n, v = .int .i64 n ∧ I64 n := by
  obtain ⟨n, rfl, _, _, hw⟩ := open_int Tryz.underlying3 hv h
  exact ⟨n, rfl, wf_I64 hw⟩
set_option maxRecDepth 100000 in
/-- what lies behind the cell of a slice of integers -/
theorem cellInts {fuel : Nat} {c : Value} {y : DataW H × List MemPlace} (h : DataW.trod enc Tryz.prog W base sp held fuel 29 [c] = some y) : ∃ xs, Ints 0 W.heap.size W c xs := by
  rcases open_ints Tryz.underlying29 Tryz.underlying3 (by kernel_rfl) h with ⟨hcs, _⟩ | ⟨a, len, cap, zs, hcs, _, hl, hm, hz, _, hcell, hwz⟩
  · obtain rfl : c = .slice none 0 0 := by simpa using hcs
    exact ⟨[], none, 0, rfl, Nat.le_refl _, by unfold maxLen; omega, fun i x hx => by simp at hx⟩
  · obtain rfl : c = .slice (some a) len cap := by simpa using hcs
    have hlen : (zs.take len).length = len := by
      rw [List.length_take, hz]
      split <;> omega
    refine ⟨zs.take len, some a, cap, by rw [hlen], by omega, hm, fun i x hx => ?_⟩
    have hi : i < len := by have := (List.getElem?_eq_some_iff.1 hx).1; omega
    rw [List.getElem?_take, if_pos hi] at hx
    have hzi := (List.getElem?_eq_some_iff.1 hx).1
    have hxx : zs.getD i 0 = x := by simp [List.getD, hx]
    obtain ⟨b, o, s⟩ := a
    obtain rfl : s = none := by
      cases s with
      | none => rfl
      | some s =>
        have h0 := hcell 0 (by omega)
        simp only [World.cell?, Addr.add, if_true] at h0
        split at h0 <;> simp at h0
    have hc := hcell i hzi
    rw [hxx] at hc
    have ha : (⟨b, o, none⟩ : Addr).add i = ⟨b, o + i, none⟩ := by
      unfold Addr.add
      split
      · rename_i e; subst e; rfl
      · rfl
    rw [ha] at hc
    refine ⟨wf_I64 (hwz x (List.mem_of_getElem? hx)), b, o, rfl, Nat.zero_le _, ?_, hc⟩
    simp only [World.cell?] at hc
    split at hc
    · rename_i e; exact (Array.getElem?_eq_some_iff.1 e).1
    · cases hc
end

end Go.Proofs.YtaegmenjgjdimaaGreat
end

section
/- This text reads the laws' arguments that are slices of bytes. -/
namespace Go.Proofs.YtaegmenjgjdimaaGreat
open Go.ChangeShapes Go.WideShapes Go.ChangeAt Go.RowKit
section
variable {H : Type} {enc : TypeId × Value → H} {W : World} {base b0 : Nat} {sp : Nat → Bool} {held : Bool}

theorem wf_U8 {n : Int} (h : (Lit.int .u8 n).wf = true) : 0 ≤ n ∧ n ≤ 255 := by
  simp [Lit.wf, IntKind.min, IntKind.max, IntKind.signed, IntKind.bits] at h
  omega
set_option maxRecDepth 100000 in
theorem cellByts {fuel : Nat} {c : Value} {y : DataW H × List MemPlace} (h : DataW.trod enc Tryz.prog W base sp held fuel 22 [c] = some y) : ∃ n, Byts W.heap.size W c n := by
  rcases open_ints Tryz.underlying22 Tryz.underlying5 (by kernel_rfl) h with ⟨hcs, _⟩ | ⟨a, len, cap, zs, hcs, _, hl, hm, hz, _, hcell, hwz⟩
  · obtain rfl : c = .slice none 0 0 := by simpa using hcs
    exact ⟨0, none, 0, rfl, Nat.le_refl _, by unfold maxLen; omega, fun i hx => by omega⟩
  · obtain rfl : c = .slice (some a) len cap := by simpa using hcs
    refine ⟨len, some a, cap, rfl, by omega, hm, fun i hi => ?_⟩
    have hlz : len ≤ zs.length := by rw [hz]; split <;> omega
    have hzi : i < zs.length := by omega
    obtain ⟨b, o, s⟩ := a
    obtain rfl : s = none := by
      cases s with
      | none => rfl
      | some s =>
        have h0 := hcell 0 (by omega)
        simp only [World.cell?, Addr.add, if_true] at h0
        split at h0 <;> simp at h0
    have hc := hcell i hzi
    have ha : (⟨b, o, none⟩ : Addr).add i = ⟨b, o + i, none⟩ := by
      unfold Addr.add
      split
      · rename_i e; subst e; rfl
      · rfl
    rw [ha] at hc
    have hw := wf_U8 (hwz (zs.getD i 0) (by rw [List.getD_eq_getElem?_getD, List.getElem?_eq_getElem hzi]; exact List.getElem_mem hzi))
    refine ⟨b, o, zs.getD i 0, rfl, ?_, hw.1, hw.2, hc⟩
    simp only [World.cell?] at hc
    split at hc
    · rename_i e; exact (Array.getElem?_eq_some_iff.1 e).1
    · cases hc
set_option maxRecDepth 100000 in
theorem argByts {v : Value} {d : DataW H} {p : List MemPlace} (hv : Value.okWide Tryz.prog W .any b0 22 v) (h : DataW.Trod enc Tryz.prog W base sp held 22 v d p) : ∃ n, Byts W.heap.size W v n := by
  obtain ⟨a, len, cap, rfl⟩ := okWide_slice Tryz.underlying22 hv
  obtain ⟨fuel, hf⟩ := h
  exact cellByts hf
end
end Go.Proofs.YtaegmenjgjdimaaGreat
end

section
/- This text lifts the walk of FnUniform to the given statement. -/
namespace Go.Proofs.YtaegmenjgjdimaaGreat.fnUniform
open Go.ChangeShapes Go.WideShapes Go.ChangeAt Go.RowKit
set_option linter.unusedVariables false

theorem own : ownKnob Tryz.prog.godebug = none := by kernel_rfl
theorem laid : laidOutB Tryz.prog = true := by kernel_rfl

set_option maxRecDepth 100000 in
theorem lifted (os : Os) (started : os.Started) (H : Type) (enc : TypeId × Value → H) :
    ReturnsInHanded {} Tryz.checked os 3 .any (Rows.fnUniformSpec.pre6 enc Tryz.prog Tryz.f3 Rows.fnUniformRow.domain false) (Rows.fnUniformSpec.post enc Tryz.prog Tryz.f3 false true false false) := by
  refine returnsInHanded_of_change (C := Tryz.checked) own started (by kernel_rfl) Tryz.func3
    (ChangeSpec.witness6 (enc := enc) (C := Tryz.checked) false ⟨#[], #[.slice none 0 0], []⟩ 8 (by kernel_rfl) (by kernel_rfl) (by kernel_rfl) (by kernel_rfl)) ?_
  intro W base args ds gs before hval0 hW hcnd _
  have hval : ∀ (j : Nat) t v, Tryz.f3.params[j]? = some t → args[j]? = some v → Value.okWide Tryz.prog W .any base t v := hval0
  have hW' := hW
  obtain ⟨p, q, hA0, hV, rfl, hfz, hnd⟩ := hW
  have hA : DataW.TrodAll enc Tryz.prog W 0 (fun _ => true) true Tryz.f3.params.toList args.toList ds p := hA0
  rw [Tryz.params3] at hA hval
  obtain ⟨v0, vs0, d0, ds0, p0, q0, hargs, rfl, rfl, h0, r0⟩ := trodAll_cons hA
  obtain ⟨rfl, rfl, rfl⟩ := trodAll_nil r0
  obtain rfl : args = #[v0] := by cases args; simp_all
  obtain ⟨rfl, rfl⟩ := trodVars_none hV
  have k0 := h0
  have lt0 : ∀ x ∈ p0, x.block < W.heap.size := by obtain ⟨m, hm⟩ := k0; exact DataW.trod_lt m _ _ _ hm
  obtain ⟨n0, w0⟩ := argByts (hval 0 22 v0 rfl rfl) h0
  clear hA0 hval0
  refine (lawUni v0 n0 W w0).mono fun e W' ⟨he, bel0⟩ => ?_
  have bel : Below W.heap.size W W' := bel0
  subst he
  exact ⟨_, rfl, _, _, _, [], _, [], hW', trodAll_mk1 (shut_bool Tryz.underlying4 _), (trodAll_cons_mk (Below.trod laid (by kernel_rfl) (of_decide_eq_true (by kernel_rfl)) k0 bel lt0) trodAll_mk0), rfl, bel.frame _, fun h => by cases h⟩

theorem over : Rows.fnUniformRow.holds Tryz.pinned (OpenSpec.ofChange Rows.fnUniformSpec) :=
  OpenClaim.holds_of_wide 3 Tryz.f3 rfl rfl rfl rfl rfl rfl rfl ⟨rfl, rfl, rfl, rfl, rfl⟩ rfl rfl rfl rfl rfl (by kernel_rfl) Tryz.func3 (by kernel_rfl)
    (of_decide_eq_true (by kernel_rfl)) (by unfold Func.isWrapper; first | (rw [if_pos (by decide +kernel)]; kernel_rfl) | (rw [if_neg (by decide +kernel)]; exact ⟨rfl, rfl⟩))
    (fun os started H enc _ => lifted os started H enc)

theorem proved : Rows.FnUniformSaid := over
end Go.Proofs.YtaegmenjgjdimaaGreat.fnUniform
end
