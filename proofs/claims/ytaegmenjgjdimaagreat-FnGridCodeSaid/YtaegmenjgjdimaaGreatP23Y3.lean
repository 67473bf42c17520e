/- Texts of this claim, one behind another: Ev6, Mc3, Mc4, Mc5, Mc6, Rg1, Rg2, Rg3, Ex2H, LawKitH, Blk0, Lk8, Df1, Fl1, Ap1, Ap2, Sr1, Sr3, Sr2, Lk9, Sg1, Sg2, Sg3, Sg4, Cp0, Cp1, Cp3, Tk1, Cp4, Cp5, Tk2. -/
import Derived.Test.YtaegmenjgjdimaaGreatP23Y2
import Derived.Test.YtaegmenjgjdimaaGreatP23Y1
import Derived.Test.YtaegmenjgjdimaaGreatEx2M
import Derived.Test.YtaegmenjgjdimaaGreatLawKit
import Derived.Test.YtaegmenjgjdimaaGreatL01
import Derived.Test.YtaegmenjgjdimaaGreatEx1
import Derived.Test.YtaegmenjgjdimaaGreatEx2
import Derived.Test.YtaegmenjgjdimaaGreatFlat
import Derived.Test.YtaegmenjgjdimaaGreatSh17
import Derived.Test.YtaegmenjgjdimaaGreatStrB
set_option linter.unusedSimpArgs false
set_option linter.unusedVariables false
section
/- This text proves the program's ShadePoint. -/
namespace Go.Proofs.YtaegmenjgjdimaaGreat
open Go.RowKit Go.Maps Go.WideMaps

/-- the value at point q of the name l, 256 where it is not assigned -/
noncomputable def named (p : Prg) (g : Grd) (q : Nat) (l : List UInt8) : Int := match frst p.gs p.gs.length l with | some k => (evV p g (((p.gs[k]?).map fun a => a.root.toNat).getD 0)).getD q 0 | none => 256
noncomputable def shC (p : Prg) (g : Grd) (i j : Int) : Int := if evOk p g i j = true then clampI (named p g (j * g.n + i).toNat [99, 111, 108, 111, 114]) 0 256 else 0
noncomputable def shA (p : Prg) (g : Grd) (i j : Int) : Int := if evOk p g i j = true then clampI (named p g (j * g.n + i).toNat [97, 108, 112, 104, 97]) 0 256 else 0
theorem alphaS : (⟨#[97, 108, 112, 104, 97]⟩ : ByteArray).toList = [97, 108, 112, 104, 97] := by rw [Lib.toList_data]
theorem named_some {p : Prg} {g : Grd} {q : Nat} {l : List UInt8} {k r : Nat} {s : ByteArray} (h : frst p.gs p.gs.length l = some k) (hk : p.gs[k]? = some ⟨s, r⟩) : named p g q l = (evV p g r).getD q 0 := by
  unfold named
  rw [h]
  simp [hk]
theorem named_none {p : Prg} {g : Grd} {q : Nat} {l : List UInt8} (h : frst p.gs p.gs.length l = none) : named p g q l = 256 := by unfold named; rw [h]
/-- the assignment to a name that is known, its root -/
theorem Prg.K.asg {p : Prg} (h : p.K) {l : List UInt8} {k : Nat} (hf : frst p.gs p.gs.length l = some k) : ∃ (s : ByteArray) (r : Nat), p.gs[k]? = some ⟨s, (r : Nat)⟩ ∧ r < p.ns.length ∧ k < p.gs.length ∧ s.toList = l := by
  obtain ⟨h1, ⟨a, h2, h3⟩, _⟩ := frst_some hf
  have hr := (h.v.ag k a h2).2
  refine ⟨a.name, a.root.toNat, ?_, by omega, h1, h3⟩
  rw [h2]
  cases a
  simp only [Option.some.injEq, Asg.mk.injEq, true_and] at *
  omega
/-- entry q of a row that the evaluator handed back -/
theorem row_at {m q g c : Nat} {w : World} {xs : List Int} (h : OwnInts 0 w (.slice (some ⟨g, 0, none⟩) m c) xs) (hx : xs.length = m) (hq : q < m) :
    m ≤ c ∧ c ≤ 9223372036854775807 ∧ g < w.heap.size ∧ w.cell? ⟨g, q, none⟩ = some (.int .i64 (xs.getD q 0)) := by
  obtain ⟨ra, rc, e, HR⟩ := h.ints.open
  rw [hx] at e
  simp only [Value.slice.injEq, true_and] at e
  obtain ⟨rfl, rfl⟩ := e
  obtain ⟨rb, ro, re, h1, h2, h3⟩ := HR.at (k := q) (by omega)
  simp only [Option.some.injEq, Addr.mk.injEq, and_true] at re
  obtain ⟨rfl, rfl⟩ := re
  rw [Nat.zero_add] at h3
  have h4 := HR.le
  rw [hx] at h4
  refine ⟨h4, HR.cap, h2, ?_⟩
  rw [h3, List.getD_eq_getElem?_getD, List.getElem?_eq_getElem (by omega)]
  rfl
set_option maxRecDepth 20000 in
set_option maxHeartbeats 12800000 in
theorem iShadePoint_any (lo hi lo' hi' : Nat) (v u : Value) (p : Prg) (g : Grd) (i j : Int) (w : World) (hv : p.R lo hi w v) (hh : hi ≤ w.heap.size) (hu : g.R lo' hi' w u) (hh' : hi' ≤ w.heap.size) (hb : p.bd) (hgl : p.gs.length ≤ 1048576) :
    Calls Tryz.prog 11 #[v, u, .int .i64 i, .int .i64 j] w fun e w' => e = .returned (.tuple #[.int .i64 (shC p g i j), .int .i64 (shA p g i j), .bool (evOk p g i j)]) ∧ Ext w w' := by
  have HV := hid hv
  have HU := hid hu
  obtain ⟨a1, c1, a2, c2, rfl, -, HAS⟩ := hv.form
  have l3 := HAS.le
  have l4 := HAS.cap
  obtain ⟨pu, tu, rfl, n64, t64, l64, hp, ht⟩ := hu
  clear hv hp ht t64 l64 HAS
  have x0 : Ext w ((w.alloc (.cells #[.slice a1 p.ns.length c1, .slice a2 p.gs.length c2] 26)).alloc (.cells #[.int .i64 g.n, pu, .int .i64 g.tm, .int .i64 g.t.log, tu] 33)) := (by repeat (with_reducible (first | assumption | exact Ext.refl _ | apply Ext.alloc | apply Ext.drew | apply Ext.drewN)))
  cases hok : evOk p g i j
  · have HOK := hid hok
    have HE : Hid (shC p g i j = 0 ∧ shA p g i j = 0) := hid (by unfold shC shA; rw [hok]; exact ⟨rfl, rfl⟩)
    clear hok n64
    go_enter Tryz.func11, Tryz.ntmps11
    go_wp2_with fail
    refine (iEvalOf_no lo hi lo' hi' _ _ p g i j _ (HV.out.ext hh x0) (Nat.le_trans hh x0.size) (HU.out.ext2 hh' x0) (Nat.le_trans hh' x0.size) hb hgl HOK.out).mono ?_
    rintro e w1 ⟨rfl, x1⟩
    have X1 := x0.trans x1
    go_wp2
    refine bodyPost_ret (v := .tuple #[.int .i64 0, .int .i64 0, .bool false]) (by simp [results, Tryz.results11, go_sem]) rfl ⟨by rw [HE.out.1, HE.out.2], X1⟩
  obtain ⟨n, i', j', hn, rfl, rfl, hi2, hj2, hn8, hnm⟩ := evOk_parts hok
  have bP := (Bx.made w #[.slice a1 p.ns.length c1, .slice a2 p.gs.length c2] 26).ext (show Ext _ ((w.alloc (.cells #[.slice a1 p.ns.length c1, .slice a2 p.gs.length c2] 26)).alloc (.cells #[.int .i64 g.n, pu, .int .i64 g.tm, .int .i64 g.t.log, tu] 33)) from (by repeat (with_reducible (first | assumption | exact Ext.refl _ | apply Ext.alloc | apply Ext.drew | apply Ext.drewN))))
  have bG := Bx.madeAt (B := w.heap.size + 1) (w.alloc (.cells #[.slice a1 p.ns.length c1, .slice a2 p.gs.length c2] 26)) #[.int .i64 g.n, pu, .int .i64 g.tm, .int .i64 g.t.log, tu] 33 (by simp)
  have hq := at_lt hnm hi2 hj2
  obtain ⟨q, hqe⟩ : ∃ q, j' * n + i' = q := ⟨_, rfl⟩
  rw [hqe] at hq
  have hqi : (j' : Int) * n + i' = q := by rw [← hqe]; simp
  have hEV : evV p g = p.ev n g.m g.f g.tm g.t := by unfold evV; rw [hn]; rfl
  have HEV := hid hEV
  have HC1 : Hid (shC p g i' j' = clampI (named p g q [99, 111, 108, 111, 114]) 0 256) := hid (by
    unfold shC
    rw [hok, if_pos rfl, hn, hqi]
    simp)
  have HA1 : Hid (shA p g i' j' = clampI (named p g q [97, 108, 112, 104, 97]) 0 256) := hid (by
    unfold shA
    rw [hok, if_pos rfl, hn, hqi]
    simp)
  have HOK := hid hok
  have HNN := hid hn
  rw [hn] at bG bP HU x0 ⊢
  have hm64 : g.m ≤ 64 := by rw [← hnm]; have := Nat.mul_le_mul hn8 hn8; omega
  have hjn : (j' : Int) * n ≤ 64 := by have : ((j' * n : Nat) : Int) ≤ 64 := by omega
                                       simpa using this
  have hjn0 : 0 ≤ (j' : Int) * n := by have : (0 : Int) ≤ ((j' * n : Nat) : Int) := by omega
                                       simpa using this
  obtain ⟨jn, hjne⟩ : ∃ jn, (j' : Int) * n = jn := ⟨_, rfl⟩
  rw [hjne] at hqi hjn hjn0
  have HQ := hid hqe
  have HNM := hid hnm
  clear hok hn n64 hEV hqe hnm
  go_enter Tryz.func11, Tryz.ntmps11
  go_wp2_with fail
  refine (iEvalOf_yes lo hi lo' hi' a1 a2 c1 c2 pu tu p g n i' j' _ (HV.out.ext hh x0) (Nat.le_trans hh x0.size) (HU.out.ext2 hh' x0) (Nat.le_trans hh' x0.size) hb hgl HNN.out HOK.out).mono ?_
  rintro e w1 ⟨⟨E, D, mb, rfl, hC, hI⟩, x1⟩
  have X1 := x0.trans x1
  have bP1 := bP.ext x1
  have bG1 := bG.ext x1
  have HC := hid hC
  have HI := hid hI
  have HBE := hid (hC.boxE hI)
  have HBP := hid bP1
  have hdB := hC.dB
  simp only [World.size_alloc] at hdB
  have hdl := hC.dl
  have heD := hC.eD
  have hmD := hC.mD
  have hbD : w.heap.size ≠ D := by omega
  have hbD2 : w.heap.size + 1 ≠ D := by omega
  have hbe := HBE.out
  have b := bP1.lt
  have b0 := bP1.cell 0
  simp only [List.getElem?_toArray, List.getElem?_cons_zero, List.getElem?_cons_succ] at b0
  have b1 := bP1.cell 1
  simp only [List.getElem?_toArray, List.getElem?_cons_zero, List.getElem?_cons_succ] at b1
  have d := bG1.lt
  have d0 := bG1.cell 0
  simp only [List.getElem?_toArray, List.getElem?_cons_zero, List.getElem?_cons_succ] at d0
  have d1 := bG1.cell 1
  simp only [List.getElem?_toArray, List.getElem?_cons_zero, List.getElem?_cons_succ] at d1
  have d2 := bG1.cell 2
  simp only [List.getElem?_toArray, List.getElem?_cons_zero, List.getElem?_cons_succ] at d2
  have d3 := bG1.cell 3
  simp only [List.getElem?_toArray, List.getElem?_cons_zero, List.getElem?_cons_succ] at d3
  have d4 := bG1.cell 4
  simp only [List.getElem?_toArray, List.getElem?_cons_zero, List.getElem?_cons_succ] at d4
  have e := hbe.lt
  have e0 := hbe.cell 0
  simp only [List.getElem?_toArray, List.getElem?_cons_zero, List.getElem?_cons_succ] at e0
  have e1 := hbe.cell 1
  simp only [List.getElem?_toArray, List.getElem?_cons_zero, List.getElem?_cons_succ] at e1
  have e2 := hbe.cell 2
  simp only [List.getElem?_toArray, List.getElem?_cons_zero, List.getElem?_cons_succ] at e2
  have e3 := hbe.cell 3
  simp only [List.getElem?_toArray, List.getElem?_cons_zero, List.getElem?_cons_succ] at e3
  have e4 := hbe.cell 4
  simp only [List.getElem?_toArray, List.getElem?_cons_zero, List.getElem?_cons_succ] at e4
  have e5 := hbe.cell 5
  simp only [List.getElem?_toArray, List.getElem?_cons_zero, List.getElem?_cons_succ] at e5
  have e6 := hbe.cell 6
  simp only [List.getElem?_toArray, List.getElem?_cons_zero, List.getElem?_cons_succ] at e6
  have e7 := hbe.cell 7
  simp only [List.getElem?_toArray, List.getElem?_cons_zero, List.getElem?_cons_succ] at e7
  have e8 := hbe.cell 8
  simp only [List.getElem?_toArray, List.getElem?_cons_zero, List.getElem?_cons_succ] at e8
  have HM := hid (hC.mapE hI)
  clear hC hI x0 x1 bP bG bP1 bG1 hbe
  obtain ⟨kc, hkc⟩ := HC.out.k.col
  obtain ⟨sc, rc, hgc, hrc, hkcl, _⟩ := HC.out.k.asg hkc
  have HNC : Hid (named p g q [99, 111, 108, 111, 114] = (p.ev n g.m g.f g.tm g.t rc).getD q 0) := hid (by rw [named_some hkc hgc, HEV.out])
  have HKC := hid hkc
  have HGC := hid hgc
  clear hkc hgc
  cases hka : frst p.gs p.gs.length [97, 108, 112, 104, 97] with
  | none =>
    have HKA := hid hka
    have HA2 : Hid (clampI 256 0 256 = shA p g i' j') := hid (by rw [HA1.out, named_none hka])
    have HI2 := HI
    have HBP2 := HBP
    have HX2 := hid X1
    clear hka
    go_wp2_with (at_lookup; refine wpList_first_ok _ rfl _ _ rfl _ _ _ rfl HM.out (⟨#[97, 108, 112, 104, 97]⟩ : ByteArray) (by decide) rfl none (by rw [alphaS]; exact HKA.out) ?_)
    clear b b0 b1 d d0 d1 d2 d3 d4 e e0 e1 e2 e3 e4 e5 e6 e7 e8
    have hbp2 := HBP2.out
    have hbe2 := HC.out.boxE HI2.out
    have b := hbp2.lt
    have b0 := hbp2.cell 0
    simp only [List.getElem?_toArray, List.getElem?_cons_zero, List.getElem?_cons_succ] at b0
    have b1 := hbp2.cell 1
    simp only [List.getElem?_toArray, List.getElem?_cons_zero, List.getElem?_cons_succ] at b1
    have e := hbe2.lt
    have e0 := hbe2.cell 0
    simp only [List.getElem?_toArray, List.getElem?_cons_zero, List.getElem?_cons_succ] at e0
    have e1 := hbe2.cell 1
    simp only [List.getElem?_toArray, List.getElem?_cons_zero, List.getElem?_cons_succ] at e1
    have e2 := hbe2.cell 2
    simp only [List.getElem?_toArray, List.getElem?_cons_zero, List.getElem?_cons_succ] at e2
    have e3 := hbe2.cell 3
    simp only [List.getElem?_toArray, List.getElem?_cons_zero, List.getElem?_cons_succ] at e3
    have e4 := hbe2.cell 4
    simp only [List.getElem?_toArray, List.getElem?_cons_zero, List.getElem?_cons_succ] at e4
    have e5 := hbe2.cell 5
    simp only [List.getElem?_toArray, List.getElem?_cons_zero, List.getElem?_cons_succ] at e5
    have e6 := hbe2.cell 6
    simp only [List.getElem?_toArray, List.getElem?_cons_zero, List.getElem?_cons_succ] at e6
    have e7 := hbe2.cell 7
    simp only [List.getElem?_toArray, List.getElem?_cons_zero, List.getElem?_cons_succ] at e7
    have e8 := hbe2.cell 8
    simp only [List.getElem?_toArray, List.getElem?_cons_zero, List.getElem?_cons_succ] at e8
    obtain ⟨_, zb, zo, ze, _, zl, z0, z1⟩ := (HC.out.asgs.same (HC.out.same HI2.out)).cell kc _ HGC.out
    simp only at z0 z1
    subst ze
    have hM2 := HC.out.mapE HI2.out
    have hcl : (⟨#[99, 111, 108, 111, 114]⟩ : ByteArray).size ≤ maxLen := by decide
    have hlook : ∀ dd, (Instr.lookup 69 (.map (some mb)) (.string ⟨#[99, 111, 108, 111, 114]⟩) false).run Tryz.prog (lowx w1.heap.size D w1.drew dd) = .ok (.int .i64 (kc : Int)) (lowx w1.heap.size D w1.drew dd) := fun dd => ((hM2.ext ((Ext.refl _).drew)).of_block (w' := lowx w1.heap.size D w1.drew dd) (lowx_same _ _ _ _ _ hM2.lt hmD)).look hcl (by rw [colS]; exact HKC.out)
    have hlook2 : ∀ dd, (Instr.lookup 69 (.map (some mb)) (.string ⟨#[99, 111, 108, 111, 114]⟩) false).run Tryz.prog (lowx w1.heap.size D w1 dd) = .ok (.int .i64 (kc : Int)) (lowx w1.heap.size D w1 dd) := fun dd => (hM2.of_block (w' := lowx w1.heap.size D w1 dd) (lowx_same _ _ _ _ _ hM2.lt hmD)).look hcl (by rw [colS]; exact HKC.out)
    have hzw := HX2.out.size
    have hzb : zb < w1.heap.size := by simp only [World.size_alloc] at zl; have := HI2.out.size; omega
    have hzD : zb ≠ D := by simp only [World.size_alloc] at zl; omega
    clear hbp2 hbe2 hM2
    go_wp2_with fail
    refine wp_region_stagesS [([0, 1, 2, 3, 4, 5, 6, 7, 8, 9, 10, 12], 11), ([], 13), ([], 14), ([], 15)] 99 (fun w' => ∃ d, w' = lowx (w1.heap.size) (D) _ d) (by kernel_rfl) (by kernel_rfl) ⟨_, lowx_of (fun _ _ _ => rfl)⟩ ?_
    refine wpStagesS_cons ?_
    simp only [List.filterMap_cons, List.filterMap_nil, List.getElem?_toArray, List.getElem?_cons_zero, List.getElem?_cons_succ]
    show wpQuiet _ _ _ _ [_, _, _, _, _, _, _, _, _, _, _, _] _
    repeat (go_big_quiet_step (fail))
    refine wpQuiet_nil ⟨_, rfl, fun K hK => ?_⟩
    go_wp2_with fail
    refine (iValues_any HC.out (p.rank rc + 1) rc _ (Nat.lt_succ_self _) hrc (HI2.out.ext ((Ext.refl _).drew))).mono ?_
    rintro e w5 ⟨⟨tg, tc, rfl, hO⟩, hI5, hg5⟩
    obtain ⟨t1, t2, t3, t4⟩ := row_at hO (HC.out.good rc hrc).1 hq
    rw [← HNC.out] at t4
    have HG5 := hid hg5
    have HX5 := hid (HX2.out.grown (grownBy.trans (grown_ext ((Ext.refl w1).drew) _) hg5 : w1.grownBy w5 (some D)) (fun k hk => by injection hk with hk; omega))
    clear hO hI5 hg5 hlook hlook2 z0 z1
    go_wp2_with fail
    refine hK _ _ (.inr ⟨_, lowx_of (SameX.gr HG5.out (Nat.le_refl _))⟩) ?_
    clear hK K
    refine wpStagesS_cons ?_
    simp only [List.filterMap_nil]
    show wpQuiet _ _ _ _ [] _
    try simp only [Act.put, List.setIfInBounds_toArray, List.set_cons_succ, List.set_cons_zero]
    repeat (go_big_quiet_step (fail))
    refine wpQuiet_nil ⟨_, rfl, fun K hK => ?_⟩
    go_wp2_with fail
    go_wp2_with fail
    refine hK _ _ (.inr ⟨_, lowx_of (SameX.gr HG5.out (Nat.le_refl _))⟩) ?_
    clear hK K
    refine wpStagesS_cons ?_
    simp only [List.filterMap_nil]
    show wpQuiet _ _ _ _ [] _
    try simp only [Act.put, List.setIfInBounds_toArray, List.set_cons_succ, List.set_cons_zero]
    repeat (go_big_quiet_step (fail))
    refine wpQuiet_nil ⟨_, rfl, fun K hK => ?_⟩
    go_wp2_with fail
    go_wp2_with fail
    refine hK _ _ (.inr ⟨_, lowx_of (SameX.gr HG5.out (Nat.le_refl _))⟩) ?_
    clear hK K
    refine wpStagesS_cons ?_
    simp only [List.filterMap_nil]
    show wpQuiet _ _ _ _ [] _
    try simp only [Act.put, List.setIfInBounds_toArray, List.set_cons_succ, List.set_cons_zero]
    repeat (go_big_quiet_step (fail))
    refine wpQuiet_nil ⟨_, rfl, fun K hK => ?_⟩
    go_wp2_with fail
    go_wp2_with fail
    refine hK _ _ (.inr ⟨_, lowx_of (SameX.gr HG5.out (Nat.le_refl _))⟩) ?_
    clear hK K
    refine wpStagesS_nil ?_
    go_wp2_with fail
    refine (iClamp_val HC1.out.symm _).mono ?_
    rintro e w6 ⟨rfl, rfl⟩
    go_wp2_with fail
    refine (iClamp_val HA2.out _).mono ?_
    rintro e w7 ⟨rfl, rfl⟩
    go_wp2
    refine bodyPost_ret (v := .tuple #[.int .i64 (shC p g i' j'), .int .i64 (shA p g i' j'), .bool true]) (by simp [results, Tryz.results11, go_sem]) rfl ⟨rfl, HX5.out⟩
  | some ka =>
    obtain ⟨sa, ra, hga, hra, hkal, _⟩ := HC.out.k.asg hka
    have HKA := hid hka
    have HNA : Hid (named p g q [97, 108, 112, 104, 97] = (p.ev n g.m g.f g.tm g.t ra).getD q 0) := hid (by rw [named_some hka hga, HEV.out])
    have HA2 : Hid (clampI (named p g q [97, 108, 112, 104, 97]) 0 256 = shA p g i' j') := hid HA1.out.symm
    obtain ⟨_, yb, yo, ye, _, yl, y0, y1⟩ := (HC.out.asgs.same (HC.out.same HI.out)).cell ka _ hga
    simp only at y0 y1
    subst ye
    have hyw : yb < w1.heap.size := by simp only [World.size_alloc] at yl; have := X1.size; omega
    have hka2 : ka ≤ 1048576 := by omega
    clear hka hga
    go_wp2_with (at_lookup; refine wpList_first_ok _ rfl _ _ rfl _ _ _ rfl HM.out (⟨#[97, 108, 112, 104, 97]⟩ : ByteArray) (by decide) rfl (some ka) (by rw [alphaS]; exact HKA.out) ?_)
    refine (iValues_any HC.out (p.rank ra + 1) ra _ (Nat.lt_succ_self _) hra HI.out).mono ?_
    rintro e w3 ⟨⟨tg, tc, rfl, hO⟩, hI3, hg3⟩
    obtain ⟨t1, t2, t3, t4⟩ := row_at hO (HC.out.good ra hra).1 hq
    rw [← HNA.out] at t4
    have HI2 := hid hI3
    have HBP2 : Hid (Bx w3 w.heap.size #[.slice a1 p.ns.length c1, .slice (some ⟨yb, yo, none⟩) p.gs.length c2] 26) := hid ((hg3.block w.heap.size HBP.out.lt (by simp; omega)).trans HBP.out)
    have HX2 := hid (X1.grown hg3 (fun k hk => by injection hk with hk; omega))
    clear hO hI3 hg3 b b0 b1 d d0 d1 d2 d3 d4 e e0 e1 e2 e3 e4 e5 e6 e7 e8 y0 y1
    go_wp2_with fail
    have hbp2 := HBP2.out
    have hbe2 := HC.out.boxE HI2.out
    have b := hbp2.lt
    have b0 := hbp2.cell 0
    simp only [List.getElem?_toArray, List.getElem?_cons_zero, List.getElem?_cons_succ] at b0
    have b1 := hbp2.cell 1
    simp only [List.getElem?_toArray, List.getElem?_cons_zero, List.getElem?_cons_succ] at b1
    have e := hbe2.lt
    have e0 := hbe2.cell 0
    simp only [List.getElem?_toArray, List.getElem?_cons_zero, List.getElem?_cons_succ] at e0
    have e1 := hbe2.cell 1
    simp only [List.getElem?_toArray, List.getElem?_cons_zero, List.getElem?_cons_succ] at e1
    have e2 := hbe2.cell 2
    simp only [List.getElem?_toArray, List.getElem?_cons_zero, List.getElem?_cons_succ] at e2
    have e3 := hbe2.cell 3
    simp only [List.getElem?_toArray, List.getElem?_cons_zero, List.getElem?_cons_succ] at e3
    have e4 := hbe2.cell 4
    simp only [List.getElem?_toArray, List.getElem?_cons_zero, List.getElem?_cons_succ] at e4
    have e5 := hbe2.cell 5
    simp only [List.getElem?_toArray, List.getElem?_cons_zero, List.getElem?_cons_succ] at e5
    have e6 := hbe2.cell 6
    simp only [List.getElem?_toArray, List.getElem?_cons_zero, List.getElem?_cons_succ] at e6
    have e7 := hbe2.cell 7
    simp only [List.getElem?_toArray, List.getElem?_cons_zero, List.getElem?_cons_succ] at e7
    have e8 := hbe2.cell 8
    simp only [List.getElem?_toArray, List.getElem?_cons_zero, List.getElem?_cons_succ] at e8
    obtain ⟨_, zb, zo, ze, _, zl, z0, z1⟩ := (HC.out.asgs.same (HC.out.same HI2.out)).cell kc _ HGC.out
    simp only at z0 z1
    simp only [Option.some.injEq, Addr.mk.injEq, and_true] at ze
    obtain ⟨rfl, rfl⟩ := ze
    have hM2 := HC.out.mapE HI2.out
    have hcl : (⟨#[99, 111, 108, 111, 114]⟩ : ByteArray).size ≤ maxLen := by decide
    have hlook : ∀ dd, (Instr.lookup 69 (.map (some mb)) (.string ⟨#[99, 111, 108, 111, 114]⟩) false).run Tryz.prog (lowx w3.heap.size D w3.drew dd) = .ok (.int .i64 (kc : Int)) (lowx w3.heap.size D w3.drew dd) := fun dd => ((hM2.ext ((Ext.refl _).drew)).of_block (w' := lowx w3.heap.size D w3.drew dd) (lowx_same _ _ _ _ _ hM2.lt hmD)).look hcl (by rw [colS]; exact HKC.out)
    have hlook2 : ∀ dd, (Instr.lookup 69 (.map (some mb)) (.string ⟨#[99, 111, 108, 111, 114]⟩) false).run Tryz.prog (lowx w3.heap.size D w3 dd) = .ok (.int .i64 (kc : Int)) (lowx w3.heap.size D w3 dd) := fun dd => (hM2.of_block (w' := lowx w3.heap.size D w3 dd) (lowx_same _ _ _ _ _ hM2.lt hmD)).look hcl (by rw [colS]; exact HKC.out)
    have hzw := HX2.out.size
    have hzb : yb < w3.heap.size := by simp only [World.size_alloc] at zl; have := HI2.out.size; omega
    have hzD : yb ≠ D := by simp only [World.size_alloc] at zl; omega
    clear hbp2 hbe2 hM2
    go_wp2_with fail
    refine wp_region_stagesS [([0, 1, 2, 3, 4, 5, 6, 7, 8, 9, 10, 12], 11), ([], 13), ([], 14), ([], 15)] 99 (fun w' => ∃ d, w' = lowx (w3.heap.size) (D) _ d) (by kernel_rfl) (by kernel_rfl) ⟨_, lowx_of (fun _ _ _ => rfl)⟩ ?_
    refine wpStagesS_cons ?_
    simp only [List.filterMap_cons, List.filterMap_nil, List.getElem?_toArray, List.getElem?_cons_zero, List.getElem?_cons_succ]
    show wpQuiet _ _ _ _ [_, _, _, _, _, _, _, _, _, _, _, _] _
    repeat (go_big_quiet_step (fail))
    refine wpQuiet_nil ⟨_, rfl, fun K hK => ?_⟩
    go_wp2_with fail
    refine (iValues_any HC.out (p.rank rc + 1) rc _ (Nat.lt_succ_self _) hrc (HI2.out.ext ((Ext.refl _).drew))).mono ?_
    rintro e w5 ⟨⟨tg, tc, rfl, hO⟩, hI5, hg5⟩
    obtain ⟨t1, t2, t3, t4⟩ := row_at hO (HC.out.good rc hrc).1 hq
    rw [← HNC.out] at t4
    have HG5 := hid hg5
    have HX5 := hid (HX2.out.grown (grownBy.trans (grown_ext ((Ext.refl w3).drew) _) hg5 : w3.grownBy w5 (some D)) (fun k hk => by injection hk with hk; omega))
    clear hO hI5 hg5 hlook hlook2 z0 z1
    go_wp2_with fail
    refine hK _ _ (.inr ⟨_, lowx_of (SameX.gr HG5.out (Nat.le_refl _))⟩) ?_
    clear hK K
    refine wpStagesS_cons ?_
    simp only [List.filterMap_nil]
    show wpQuiet _ _ _ _ [] _
    try simp only [Act.put, List.setIfInBounds_toArray, List.set_cons_succ, List.set_cons_zero]
    repeat (go_big_quiet_step (fail))
    refine wpQuiet_nil ⟨_, rfl, fun K hK => ?_⟩
    go_wp2_with fail
    go_wp2_with fail
    refine hK _ _ (.inr ⟨_, lowx_of (SameX.gr HG5.out (Nat.le_refl _))⟩) ?_
    clear hK K
    refine wpStagesS_cons ?_
    simp only [List.filterMap_nil]
    show wpQuiet _ _ _ _ [] _
    try simp only [Act.put, List.setIfInBounds_toArray, List.set_cons_succ, List.set_cons_zero]
    repeat (go_big_quiet_step (fail))
    refine wpQuiet_nil ⟨_, rfl, fun K hK => ?_⟩
    go_wp2_with fail
    go_wp2_with fail
    refine hK _ _ (.inr ⟨_, lowx_of (SameX.gr HG5.out (Nat.le_refl _))⟩) ?_
    clear hK K
    refine wpStagesS_cons ?_
    simp only [List.filterMap_nil]
    show wpQuiet _ _ _ _ [] _
    try simp only [Act.put, List.setIfInBounds_toArray, List.set_cons_succ, List.set_cons_zero]
    repeat (go_big_quiet_step (fail))
    refine wpQuiet_nil ⟨_, rfl, fun K hK => ?_⟩
    go_wp2_with fail
    go_wp2_with fail
    refine hK _ _ (.inr ⟨_, lowx_of (SameX.gr HG5.out (Nat.le_refl _))⟩) ?_
    clear hK K
    refine wpStagesS_nil ?_
    go_wp2_with fail
    refine (iClamp_val HC1.out.symm _).mono ?_
    rintro e w6 ⟨rfl, rfl⟩
    go_wp2_with fail
    refine (iClamp_val HA2.out _).mono ?_
    rintro e w7 ⟨rfl, rfl⟩
    go_wp2
    refine bodyPost_ret (v := .tuple #[.int .i64 (shC p g i' j'), .int .i64 (shA p g i' j'), .bool true]) (by simp [results, Tryz.results11, go_sem]) rfl ⟨rfl, HX5.out⟩
end Go.Proofs.YtaegmenjgjdimaaGreat
end

section
/- This text proves what the grid's machine does when rows are popped. -/
namespace Go.Proofs.YtaegmenjgjdimaaGreat
open Go.RowKit

theorem ownsRow.shrink {w : World} {lo : Nat} {e : TypeId} {g n cap q : Nat} {xs : List Value} (h : w.ownsRow lo e 1 (.slice (some ⟨g, 0, none⟩) n cap) n xs) (hq : q ≤ n) : w.ownsRow lo e 1 (.slice (some ⟨g, 0, none⟩) q cap) q (xs.take q) := by
  obtain ⟨h1, h2⟩ := h
  refine ⟨by simp; omega, ?_⟩
  rcases h2 with ⟨hn, _⟩ | ⟨g', cap', cur, hv, hb, hg, hc, hm, hs, ht⟩
  · simp at hn
  · simp only [Value.slice.injEq, Option.some.injEq, Addr.mk.injEq, and_true, true_and] at hv
    obtain ⟨rfl, rfl⟩ := hv
    refine .inr ⟨g, cap, cur, rfl, hb, hg, by omega, hm, hs, ?_⟩
    rw [← ht, List.take_take, Nat.mul_one, Nat.mul_one, Nat.min_eq_left hq]
theorem ownsRow.caps {w : World} {lo : Nat} {e : TypeId} {g n cap : Nat} {xs : List Value} (h : w.ownsRow lo e 1 (.slice (some ⟨g, 0, none⟩) n cap) n xs) : n ≤ cap ∧ cap ≤ 9223372036854775807 := by
  rcases h.2 with ⟨hn, _⟩ | ⟨g', cap', cur, hv, hb, hg, hc, hm, hs, ht⟩
  · simp at hn
  · simp only [Value.slice.injEq, Option.some.injEq, Addr.mk.injEq, and_true, true_and] at hv
    obtain ⟨rfl, rfl⟩ := hv
    unfold maxLen at hm
    exact ⟨hc, by omega⟩
theorem ownsRow.form1 {w : World} {lo : Nat} {e : TypeId} {size n : Nat} {v : Value} {xs : List Value} (h : w.ownsRow lo e size v n xs) (hn : 1 ≤ n) : ∃ g cap, v = .slice (some ⟨g, 0, none⟩) n cap ∧ lo ≤ g ∧ g < w.heap.size := by
  rcases h.2 with ⟨rfl, h4⟩ | ⟨g, cap, cur, rfl, hb, hg, hc, hm, hs, ht⟩
  · omega
  · exact ⟨g, cap, rfl, hb, (Array.getElem?_eq_some_iff.1 hg).1⟩
theorem Rws.one {lo : Nat} {w : World} {vs : List Value} {S : List (List Int)} (h : Rws lo w vs S) : ∀ v ∈ vs, v.oneCell' = true := by
  intro v hv
  obtain ⟨i, hi, rfl⟩ := List.getElem_of_mem hv
  have hl := h.len
  obtain ⟨a, c, e, _⟩ := (h.own i vs[i] (S[i]'(by omega)) (by simp [hi]) (by simp [show i < S.length by omega])).form
  rw [e]
  rfl
theorem Rws.left {lo : Nat} {w : World} {vs us : List Value} {S L : List (List Int)} (hl : vs.length = S.length) (h : Rws lo w (vs ++ us) (S ++ L)) : Rws lo w vs S := by
  have := h.take vs.length
  rwa [List.take_left, hl, List.take_left] at this
theorem Rws.right {lo : Nat} {w : World} {vs us : List Value} {S L : List (List Int)} (hl : vs.length = S.length) (h : Rws lo w (vs ++ us) (S ++ L)) : Rws lo w us L := by
  have := h.drop vs.length
  rwa [List.drop_left, hl, List.drop_left] at this
theorem Rws.app {lo : Nat} {w : World} {vs us : List Value} {S L : List (List Int)} (h : Rws lo w vs S) (k : Rws lo w us L) : Rws lo w (vs ++ us) (S ++ L) := by
  have hl := h.len
  refine ⟨by simp [h.len, k.len], fun i u ys h1 h2 => ?_⟩
  by_cases h3 : i < vs.length
  · rw [List.getElem?_append_left h3] at h1
    rw [List.getElem?_append_left (by omega)] at h2
    exact h.own i u ys h1 h2
  · rw [List.getElem?_append_right (by omega)] at h1 h2
    rw [hl] at h1
    exact k.own _ u ys h1 h2
set_option maxRecDepth 100000 in
set_option maxHeartbeats 1600000 in
theorem pop_any {lo lo2 : Nat} {w : World} {mb n : Nat} {pu tu : Value} {tm lg : Int} {sv lv : Value} {vs us : List Value} {S L : List (List Int)} (M : Mach lo lo2 w mb n pu tu tm lg sv lv vs us S L) (p q : Nat) (hp : 1 ≤ p) (hq : q + p = vs.length) (hS : vs.length ≤ 1000) :
    Calls Tryz.prog 100 #[.pointer (some ⟨mb, 0, none⟩), .int .i64 p] w fun e w' => ∃ r, e = .returned r ∧ w'.ownsRow w.heap.size 29 1 r p (vs.drop q) ∧ (∃ sv', Mach lo lo2 w' mb n pu tu tm lg sv' lv (vs.take q) us (S.take q) L ∧ sv'.ownBlock = sv.ownBlock) ∧ Step lo w w' ∧ ∀ b, b < w.heap.size → b ≠ mb → w'.heap[b]? = w.heap[b]? := by
  obtain ⟨g, sc, rfl, hg1, hg2⟩ := ownsRow.form1 M.so (by omega)
  have hb := M.lt
  have hlo := M.low
  obtain ⟨l1, l2⟩ := ownsRow.caps M.so
  have c5 := cell_of_cells M.box 5
  have f5 := frozen_of_cells M.box 5
  simp at c5
  have hq2 : (vs.length : Int) - p = q := by omega
  have hq3 : vs.length - q = p := by omega
  have hmx := ownsRow.not M.so M.box (by decide)
  have hdl : (vs.drop q).length = p := by simp; omega
  have hcell : ∀ i y, (vs.drop q)[i]? = some y → w.cell? ⟨g, q + i, none⟩ = some y := by
    intro i y hy
    rw [List.getElem?_drop] at hy
    have hlt := (List.getElem?_eq_some_iff.1 hy).1
    rw [World.ownsRow.cellAt M.so (q + i) (by omega)]
    exact hy
  have hone : ∀ y ∈ vs.drop q, y.oneCell' = true := fun y hy => (Rws.left M.sl M.rows).one y (List.mem_of_mem_drop hy)
  have HM := hid M
  have HC := hid hcell
  have HO := hid hone
  have HD := hid hdl
  clear M hcell hone hdl
  go_enter Tryz.func100, Tryz.ntmps100
  go_wp2_with fail
  have key := cloneRows_any g q (sc - q) (vs.drop q) w hg2 (by rw [HD.out]; omega) (by omega) HC.out HO.out (by rw [HD.out]; omega)
  rw [HD.out] at key
  refine key.mono ?_
  rintro e w1 ⟨r, rfl, hr, x1⟩
  obtain ⟨ra, rc, rfl⟩ := ownsRow.form hr
  have M1 := HM.out.ext x1
  have b5 := cell_of_cells M1.box 5
  have g5 := frozen_of_cells M1.box 5
  simp at b5
  have hb2 := M1.lt
  have HR := hid hr
  have HM1 := hid M1
  clear key hr M1 c5 f5
  go_wp2
  go_ret
  obtain ⟨M, hr⟩ : Mach lo lo2 w1 mb n pu tu tm lg _ lv vs us S L ∧ _ := ⟨HM1.out, HR.out⟩
  have k2 : KeepI w1 (w1.setCell ⟨mb, 5, none⟩ (.slice (some ⟨g, 0, none⟩) q sc)) := KeepI.setCell _ (fun cur fr e => by
    rw [M.box] at e
    simp at e)
  have hgs : w1.grownBy (w1.setCell ⟨mb, 5, none⟩ (.slice (some ⟨g, 0, none⟩) q sc)) (some mb) := ⟨rfl, rfl, rfl, by simp, fun k hk hne => Below.heap_setCell _ _ _ _ (by simpa using hne)⟩
  have hlm := ownsRow.not M.lo' M.box (by decide)
  have hlw : lo ≤ w.heap.size := Nat.le_trans HM.out.hl HM.out.hl2
  have hrm := ownsRow.not hr M.box (by decide)
  have htl : (vs.take q).length = q := by simp; omega
  refine ⟨_, rfl, hr.kept hgs (.inr hrm), ⟨_, ⟨heap_set5 M.box _, M.low, ?_, M.lo'.kept hgs (.inr hlm), M.sep, M.hl, by have := M.hl2; simpa using this, by simp [M.sl], ?_, ?_, M.nls⟩, rfl⟩, ⟨?_, x1.keepI.trans k2⟩, fun b hb1 hb2 => (Below.heap_setCell _ _ _ _ hb2).trans (x1.block hb1)⟩
  · rw [htl]
    exact (ownsRow.shrink M.so (by omega)).kept hgs (.inr hmx)
  · have h1 := (Rws.left M.sl M.rows).keepI k2
    have h2 := (Rws.right M.sl M.rows).keepI k2
    exact (h1.take q).app h2
  · exact M.apt.sub (List.take_sublist _ _) (List.Sublist.refl _)
  · exact Below.setCell (Below.mono x1 hlw) M.low _
end Go.Proofs.YtaegmenjgjdimaaGreat
end

section
/- This text proves the operations of the grid's machine. -/
namespace Go.Proofs.YtaegmenjgjdimaaGreat
open Go.RowKit

theorem SC.go {C : Addr → Prop} {w w1 w2 : World} (h : SC C w w1) (k : ∀ a, C a → w2.heap[a.block]? = w1.heap[a.block]?) : SC C w w2 := SC.of fun a ha => by
  have h1 := h.get a ha
  exact ⟨(World.cell?_of_block (k a ha)).trans h1.1, (World.frozen?_of_block (k a ha)).trans h1.2⟩
/-- the machine and the row that an operation yields -/
theorem snoc_drop {α : Type} (l : List α) (q : Nat) (hq : q + 1 = l.length) : ∃ x, l.drop q = [x] ∧ l = l.take q ++ [x] := by
  refine ⟨l[q]'(by omega), ?_, ?_⟩
  · rw [List.drop_eq_getElem_cons (by omega), List.drop_of_length_le (by omega)]
  · rw [← List.take_succ_eq_append_getElem (by omega), List.take_of_length_le (by omega)]
theorem snoc2_drop {α : Type} (l : List α) (q : Nat) (hq : q + 2 = l.length) : ∃ x y, l.drop q = [x, y] ∧ l = l.take q ++ [x] ++ [y] := by
  refine ⟨l[q]'(by omega), l[q + 1]'(by omega), ?_, ?_⟩
  · rw [List.drop_eq_getElem_cons (by omega), List.drop_eq_getElem_cons (by omega), List.drop_of_length_le (by omega)]
  · rw [← List.take_succ_eq_append_getElem (by omega), ← List.take_succ_eq_append_getElem (by omega), List.take_of_length_le (by omega)]
set_option maxRecDepth 100000 in
set_option maxHeartbeats 3200000 in
theorem unary_any {lo lo2 : Nat} {w : World} {mb n : Nat} {pu tu : Value} {tm lg : Int} {sv lv : Value} {vs us : List Value} {S L : List (List Int)} (M : Mach lo lo2 w mb n pu tu tm lg sv lv vs us S L) (q m : Nat) (op : Int) (hop : opsOk op) (hq : q + 1 = S.length) (hS : S.length ≤ 1000)
    (hg : ∀ r ∈ S, good m r) (hm : m ≤ 64) :
    Calls Tryz.prog 97 #[.pointer (some ⟨mb, 0, none⟩), .int .i64 op] w fun e w' => e = .returned (.tuple #[]) ∧ (∃ sv' vs', Mach lo lo2 w' mb n pu tu tm lg sv' lv vs' us (S.take q ++ [List.zipWith (arithI op) (S.getD q []) (S.getD q [])]) L) ∧ Step lo w w' := by
  have hvl := M.sl
  obtain ⟨x, hx1, hx2⟩ := snoc_drop vs q (by omega)
  obtain ⟨xs, hs1, hs2⟩ := snoc_drop S q hq
  have hR := Rws.left M.sl M.rows
  have hown : OwnInts lo w x xs := by
    have := (hR.drop q).own 0 x xs (by rw [hx1]; rfl) (by rw [hs1]; rfl)
    exact this
  have hxs : S.getD q [] = xs := by
    have h1 : S[q]? = (S.drop q)[0]? := by rw [List.getElem?_drop, Nat.add_zero]
    rw [List.getD, h1, hs1]
    rfl
  rw [hxs]
  obtain ⟨g1, g2⟩ := hg xs (by rw [hs2]; simp)
  replace g1 := hid g1
  replace hxs := hid hxs
  obtain ⟨zs, hzs⟩ : ∃ zs, List.zipWith (arithI op) xs xs = zs := ⟨_, rfl⟩
  rw [hzs]
  replace hzs := hid hzs
  have HM := hid M
  have HO := hid hown
  have hx1' := hid hx1
  have hlw : lo ≤ w.heap.size := Nat.le_trans M.hl M.hl2
  clear M hown hR hx1 hx2 hs1 hs2
  go_enter Tryz.func97, Tryz.ntmps97
  go_wp2_with fail
  refine (pop_any HM.out 1 q (Nat.le_refl _) (by omega) (by omega)).mono ?_
  rintro e w1 ⟨r, rfl, hr, ⟨sv1, M1, hsv0⟩, st1, fr1⟩
  have hsv1 : ∀ k, sv1.ownBlock = some k → k < w.heap.size := fun k hk => (World.ownsRow.lt HM.out.so k (hsv0 ▸ hk)).2
  clear hsv0
  obtain ⟨rb, rc, rfl, hrb1, hrb2⟩ := ownsRow.form1 hr (Nat.le_refl _)
  rw [hx1'.out] at hr
  have r0 := World.ownsRow.cellAt hr 0 (by omega)
  simp at r0
  obtain ⟨xa, xc, rfl, _⟩ := HO.out.form
  have HM1 := hid M1
  have HX1 := hid ((HO.out.keepI st1.keep))
  have hu := hid (HX1.out.ints.wide (Nat.zero_le _) (Nat.le_refl _))
  have HS1 := hid st1
  have HF1 := hid fr1
  have hs1 := st1.size
  clear HM M1 st1 fr1
  go_wp2_with fail
  refine wp_region_stagesS [([0, 1, 2, 3, 4, 5, 6, 7], 8), ([], 9)] 99 (fun w' => ∃ d, w' = lowc (fun a => a.block = rb) _ d) (by kernel_rfl) (by kernel_rfl) (SC.drew _ _) ?_
  refine wpStagesS_cons ?_
  simp only [List.filterMap_cons, List.filterMap_nil, List.getElem?_toArray, List.getElem?_cons_zero, List.getElem?_cons_succ]
  show wpQuiet _ _ _ _ [_, _, _, _, _, _, _, _] _
  repeat (go_big_quiet_step (fail))
  refine wpQuiet_nil ⟨_, rfl, fun K hK => ?_⟩
  go_wp2_with fail
  refine (iCombined_any 0 w1.heap.size 0 w1.heap.size _ _ op xs xs _ hop (hu.out.ext (Nat.le_refl _) (Ext.drew (Ext.refl _))) (Nat.le_refl _) (hu.out.ext (Nat.le_refl _) (Ext.drew (Ext.refl _))) (Nat.le_refl _) rfl (by rw [g1.out]; omega) g2 g2).mono ?_
  rintro e w2 ⟨y, rfl, hy, x2⟩
  rw [hzs.out] at hy
  obtain ⟨ya, yc, rfl, _⟩ := hy.form
  have X2 : Ext w1 w2 := Ext.trans (Ext.drew (Ext.refl _)) x2
  have SC2 : SC (fun a => a.block = rb) w1 w2 := SC.blocks (fun a ha => by rw [ha]; exact X2.block hrb2)
  go_wp2_with fail
  refine hK _ _ (.inr (SC2)) ?_
  clear hK K
  refine wpStagesS_cons ?_
  simp only [List.filterMap_nil]
  show wpQuiet _ _ _ _ [] _
  try simp only [Act.put, List.setIfInBounds_toArray, List.set_cons_succ, List.set_cons_zero]
  repeat (go_big_quiet_step (fail))
  refine wpQuiet_nil ⟨_, rfl, fun K hK => ?_⟩
  go_wp2_with fail
  have M2 := HM1.out.ext X2
  have hlone := Lone.of (M := w1.heap.size) HM1.out.rows (Nat.le_refl _) (fun k hk => (hy.lt k hk).1)
  refine (push_any M2 (hy.low (Nat.le_trans hlw hs1)) hlone (by simp; omega)).mono ?_
  rintro e w3 ⟨rfl, ⟨sv3, M3⟩, st3, fr3⟩
  have SC3 : SC (fun a => a.block = rb) w1 w3 := SC2.go (fun a ha => by
    have hrm := ownsRow.not (hr.kept (row := none) ⟨X2.os, X2.tape, X2.output, X2.size, fun k hk _ => X2.block hk⟩ (by simp [Value.ownBlock])) M2.box (by decide)
    rw [ha]
    exact fr3 rb (by have := X2.size; omega) (fun e => hrm (by rw [e]; rfl)) (fun e => by have := hsv1 rb e; omega))
  go_wp2_with fail
  refine hK _ _ (.inr (SC3)) ?_
  clear hK K
  refine wpStagesS_nil ?_
  go_wp2
  go_end0
  exact ⟨rfl, ⟨sv3, _, M3⟩, HS1.out.trans ((X2.step (Nat.le_trans hlw hs1)).trans st3)⟩
set_option maxRecDepth 100000 in
set_option maxHeartbeats 3200000 in
theorem binary_any {lo lo2 : Nat} {w : World} {mb n : Nat} {pu tu : Value} {tm lg : Int} {sv lv : Value} {vs us : List Value} {S L : List (List Int)} (M : Mach lo lo2 w mb n pu tu tm lg sv lv vs us S L) (q m : Nat) (op : Int) (hop : opsOk op) (hq : q + 2 = S.length) (hS : S.length ≤ 1000)
    (hg : ∀ r ∈ S, good m r) (hm : m ≤ 64) :
    Calls Tryz.prog 96 #[.pointer (some ⟨mb, 0, none⟩), .int .i64 op] w fun e w' => e = .returned (.tuple #[]) ∧ (∃ sv' vs', Mach lo lo2 w' mb n pu tu tm lg sv' lv vs' us (S.take q ++ [List.zipWith (arithI op) (S.getD q []) (S.getD (q + 1) [])]) L) ∧ Step lo w w' := by
  have hvl := M.sl
  obtain ⟨x, x', hx1, hx2⟩ := snoc2_drop vs q (by omega)
  obtain ⟨xs, ys, hs1, hs2⟩ := snoc2_drop S q hq
  have hR := Rws.left M.sl M.rows
  have hown : OwnInts lo w x xs := by
    have := (hR.drop q).own 0 x xs (by rw [hx1]; rfl) (by rw [hs1]; rfl)
    exact this
  have hown' : OwnInts lo w x' ys := by
    have := (hR.drop q).own 1 x' ys (by rw [hx1]; rfl) (by rw [hs1]; rfl)
    exact this
  have hxs : S.getD q [] = xs := by
    have h1 : S[q]? = (S.drop q)[0]? := by rw [List.getElem?_drop, Nat.add_zero]
    rw [List.getD, h1, hs1]
    rfl
  have hys : S.getD (q + 1) [] = ys := by
    have h1 : S[q + 1]? = (S.drop q)[1]? := by rw [List.getElem?_drop]
    rw [List.getD, h1, hs1]
    rfl
  rw [hxs, hys]
  obtain ⟨g1, g2⟩ := hg xs (by rw [hs2]; simp)
  obtain ⟨g3, g4⟩ := hg ys (by rw [hs2]; simp)
  replace g1 := hid g1
  replace g3 := hid g3
  replace hxs := hid hxs
  replace hys := hid hys
  obtain ⟨zs, hzs⟩ : ∃ zs, List.zipWith (arithI op) xs ys = zs := ⟨_, rfl⟩
  rw [hzs]
  replace hzs := hid hzs
  have HM := hid M
  have HO := hid hown
  have HO' := hid hown'
  have hx1' := hid hx1
  have hlw : lo ≤ w.heap.size := Nat.le_trans M.hl M.hl2
  clear M hown hown' hR hx1 hx2 hs1 hs2
  go_enter Tryz.func96, Tryz.ntmps96
  go_wp2_with fail
  refine (pop_any HM.out 2 q (by omega) (by omega) (by omega)).mono ?_
  rintro e w1 ⟨r, rfl, hr, ⟨sv1, M1, hsv0⟩, st1, fr1⟩
  have hsv1 : ∀ k, sv1.ownBlock = some k → k < w.heap.size := fun k hk => (World.ownsRow.lt HM.out.so k (hsv0 ▸ hk)).2
  clear hsv0
  obtain ⟨rb, rc, rfl, hrb1, hrb2⟩ := ownsRow.form1 hr (by omega)
  rw [hx1'.out] at hr
  have r0 := World.ownsRow.cellAt hr 0 (by omega)
  have r1 := World.ownsRow.cellAt hr 1 (by omega)
  simp at r0 r1
  obtain ⟨xa, xc, rfl, _⟩ := HO.out.form
  obtain ⟨ya', yc', rfl, _⟩ := HO'.out.form
  have HM1 := hid M1
  have HX1 := hid ((HO.out.keepI st1.keep))
  have hu := hid (HX1.out.ints.wide (Nat.zero_le _) (Nat.le_refl _))
  have hu' := hid ((HO'.out.keepI st1.keep).ints.wide (Nat.zero_le _) (Nat.le_refl _))
  have HS1 := hid st1
  have HF1 := hid fr1
  have hs1 := st1.size
  clear HM M1 st1 fr1
  go_wp2_with fail
  refine wp_region_stagesS [([0, 1, 2, 3, 4, 5, 6, 7], 8), ([], 9)] 99 (fun w' => ∃ d, w' = lowc (fun a => a.block = rb) _ d) (by kernel_rfl) (by kernel_rfl) (SC.drew _ _) ?_
  refine wpStagesS_cons ?_
  simp only [List.filterMap_cons, List.filterMap_nil, List.getElem?_toArray, List.getElem?_cons_zero, List.getElem?_cons_succ]
  show wpQuiet _ _ _ _ [_, _, _, _, _, _, _, _] _
  repeat (go_big_quiet_step (fail))
  refine wpQuiet_nil ⟨_, rfl, fun K hK => ?_⟩
  go_wp2_with fail
  refine (iCombined_any 0 w1.heap.size 0 w1.heap.size _ _ op xs ys _ hop (hu.out.ext (Nat.le_refl _) (Ext.drew (Ext.refl _))) (Nat.le_refl _) (hu'.out.ext (Nat.le_refl _) (Ext.drew (Ext.refl _))) (Nat.le_refl _) (by rw [g1.out, g3.out]) (by rw [g3.out]; omega) g2 g4).mono ?_
  rintro e w2 ⟨y, rfl, hy, x2⟩
  rw [hzs.out] at hy
  obtain ⟨ya, yc, rfl, _⟩ := hy.form
  have X2 : Ext w1 w2 := Ext.trans (Ext.drew (Ext.refl _)) x2
  have SC2 : SC (fun a => a.block = rb) w1 w2 := SC.blocks (fun a ha => by rw [ha]; exact X2.block hrb2)
  go_wp2_with fail
  refine hK _ _ (.inr (SC2)) ?_
  clear hK K
  refine wpStagesS_cons ?_
  simp only [List.filterMap_nil]
  show wpQuiet _ _ _ _ [] _
  try simp only [Act.put, List.setIfInBounds_toArray, List.set_cons_succ, List.set_cons_zero]
  repeat (go_big_quiet_step (fail))
  refine wpQuiet_nil ⟨_, rfl, fun K hK => ?_⟩
  go_wp2_with fail
  have M2 := HM1.out.ext X2
  have hlone := Lone.of (M := w1.heap.size) HM1.out.rows (Nat.le_refl _) (fun k hk => (hy.lt k hk).1)
  refine (push_any M2 (hy.low (Nat.le_trans hlw hs1)) hlone (by simp; omega)).mono ?_
  rintro e w3 ⟨rfl, ⟨sv3, M3⟩, st3, fr3⟩
  have SC3 : SC (fun a => a.block = rb) w1 w3 := SC2.go (fun a ha => by
    have hrm := ownsRow.not (hr.kept (row := none) ⟨X2.os, X2.tape, X2.output, X2.size, fun k hk _ => X2.block hk⟩ (by simp [Value.ownBlock])) M2.box (by decide)
    rw [ha]
    exact fr3 rb (by have := X2.size; omega) (fun e => hrm (by rw [e]; rfl)) (fun e => by have := hsv1 rb e; omega))
  go_wp2_with fail
  refine hK _ _ (.inr (SC3)) ?_
  clear hK K
  refine wpStagesS_nil ?_
  go_wp2
  go_end0
  exact ⟨rfl, ⟨sv3, _, M3⟩, HS1.out.trans ((X2.step (Nat.le_trans hlw hs1)).trans st3)⟩
end Go.Proofs.YtaegmenjgjdimaaGreat
end

section
/- This text proves the instructions of the grid's machine. -/
namespace Go.Proofs.YtaegmenjgjdimaaGreat
open Go.RowKit

/-- the cells that the instructions read ahead of their effects: the box xb of the instruction, the machine's grid and locals in block mb -/
def CMx (mb xb : Nat) : Addr → Prop := fun a => a.block = xb ∨ a = ⟨mb, 0, none⟩ ∨ a = ⟨mb, 1, none⟩ ∨ a = ⟨mb, 2, none⟩ ∨ a = ⟨mb, 3, none⟩ ∨ a = ⟨mb, 4, none⟩ ∨ a = ⟨mb, 6, none⟩
@[go_sem] theorem CMx_x (mb xb o : Nat) : CMx mb xb ⟨xb, o, none⟩ := .inl rfl
@[go_sem] theorem CMx_0 (mb xb : Nat) : CMx mb xb ⟨mb, 0, none⟩ := .inr (.inl rfl)
@[go_sem] theorem CMx_1 (mb xb : Nat) : CMx mb xb ⟨mb, 1, none⟩ := .inr (.inr (.inl rfl))
@[go_sem] theorem CMx_2 (mb xb : Nat) : CMx mb xb ⟨mb, 2, none⟩ := .inr (.inr (.inr (.inl rfl)))
@[go_sem] theorem CMx_3 (mb xb : Nat) : CMx mb xb ⟨mb, 3, none⟩ := .inr (.inr (.inr (.inr (.inl rfl))))
@[go_sem] theorem CMx_4 (mb xb : Nat) : CMx mb xb ⟨mb, 4, none⟩ := .inr (.inr (.inr (.inr (.inr (.inl rfl)))))
@[go_sem] theorem CMx_6 (mb xb : Nat) : CMx mb xb ⟨mb, 6, none⟩ := .inr (.inr (.inr (.inr (.inr (.inr rfl)))))
theorem CMx_of {lo lo2 : Nat} {w w' : World} {mb n xb : Nat} {pu tu : Value} {tm lg : Int} {sv sv' lv : Value} {vs us vs' us' : List Value} {S L S' L' : List (List Int)} (M : Mach lo lo2 w mb n pu tu tm lg sv lv vs us S L) (M' : Mach lo lo2 w' mb n pu tu tm lg sv' lv vs' us' S' L')
    (hx : w'.heap[xb]? = w.heap[xb]?) : SC (CMx mb xb) w w' := SC.of fun a ha => by
  rcases ha with ha | ha | ha | ha | ha | ha | ha
  · have h : w'.heap[a.block]? = w.heap[a.block]? := by rw [ha]; exact hx
    exact ⟨World.cell?_of_block h, World.frozen?_of_block h⟩
  all_goals
    subst ha
    rw [cell_of_cells M.box, cell_of_cells M'.box, frozen_of_cells M.box, frozen_of_cells M'.box]
    exact ⟨rfl, rfl⟩
/-- the grid that the machine works on: it lies below lo -/
structure GridIn (lo : Nat) (w : World) (n m : Nat) (pu tu : Value) (f : Nat → Int) (tm : Int) (t : Tex) : Prop where
  flats : Flats 5 0 lo w pu m f
  tex : TexR 0 lo w (.agg #[.int .i64 t.log, tu]) t
  hm : n * n = m
  h1 : 1 ≤ n
  h8 : n ≤ 8
  ok : t.okB = true
  tm9 : S9 tm
  f9 : ∀ i, i < m * 5 → S9 (f i)
theorem GridIn.step {lo : Nat} {w w' : World} {n m : Nat} {pu tu : Value} {f : Nat → Int} {tm : Int} {t : Tex} (h : GridIn lo w n m pu tu f tm t) (s : Below lo w w') : GridIn lo w' n m pu tu f tm t := by
  have e : Same 0 lo w w' := fun b _ hb => s.block b hb
  exact ⟨h.flats.same e, h.tex.same e, h.hm, h.h1, h.h8, h.ok, h.tm9, h.f9⟩
theorem GridIn.hmi {lo : Nat} {w : World} {n m : Nat} {pu tu : Value} {f : Nat → Int} {tm : Int} {t : Tex} (h : GridIn lo w n m pu tu f tm t) : (n : Int) * n = m ∧ 1 ≤ m ∧ m ≤ 64 := by
  have h1 := h.h1
  have h8 := h.h8
  have h2 : n * n ≤ 8 * 8 := Nat.mul_le_mul h8 h8
  have h3 : 1 * 1 ≤ n * n := Nat.mul_le_mul h1 h1
  have := h.hm
  refine ⟨by rw [← h.hm]; simp, by omega, by omega⟩
theorem ownsRow.ss {w : World} {lo lo' p : Nat} {v : Value} {vs : List Value} {S : List (List Int)} (h : w.ownsRow lo 29 1 v p vs) (hr : Rws lo' w vs S) : SS 0 w.heap.size w v S := by
  have hl := hr.len
  have hp : p = S.length := by have := h.1; omega
  subst hp
  rcases h.2 with ⟨rfl, h4⟩ | ⟨g, cap, cur, rfl, hb, hg, hc, hm, hs, ht⟩
  · refine ⟨none, 0, by rw [h4], by omega, by unfold maxLen; omega, fun i xs hx => ?_⟩
    have := (List.getElem?_eq_some_iff.1 hx).1
    omega
  · refine ⟨some ⟨g, 0, none⟩, cap, rfl, hc, hm, fun i xs hx => ?_⟩
    have hi := (List.getElem?_eq_some_iff.1 hx).1
    obtain ⟨v, hv⟩ : ∃ v, vs[i]? = some v := ⟨vs[i]'(by omega), by simp [show i < vs.length by omega]⟩
    refine ⟨g, 0, v, rfl, Nat.zero_le _, (Array.getElem?_eq_some_iff.1 hg).1, ?_, (hr.own i _ xs hv hx).ints.wide (Nat.zero_le _) (Nat.le_refl _)⟩
    have e := hv
    rw [← ht, List.getElem?_take, if_pos (by omega)] at e
    simp only [World.cell?, hg, Nat.zero_add]
    rw [← Array.getElem?_toList]
    exact e
set_option maxRecDepth 100000 in
set_option maxHeartbeats 3200000 in
theorem exec1 {lo lo2 : Nat} {w : World} {mb n m : Nat} {pu tu : Value} {f : Nat → Int} {tm : Int} {t : Tex} {sv lv : Value} {vs us : List Value} {S L : List (List Int)} (M : Mach lo lo2 w mb n pu tu tm t.log sv lv vs us S L) (G : GridIn lo w n m pu tu f tm t) (s : ByteArray) (num : Int) (hn : I64 num) (hS : S.length ≤ 1000)
    (zs : List Int) (hz : List.replicate m num = zs) :
    Calls Tryz.prog 60 #[.pointer (some ⟨mb, 0, none⟩), .agg #[.int .i64 1, .string s, .int .i64 num]] w fun e w' => e = .returned (.tuple #[]) ∧ (∃ sv' vs', Mach lo lo2 w' mb n pu tu tm t.log sv' lv vs' us (S ++ [zs]) L) ∧ Step lo w w' := by
  obtain ⟨q1, q2, q3⟩ := G.hmi
  have hb := M.lt
  have hvl := M.sl
  have c0 := cell_of_cells M.box 0
  have c1 := cell_of_cells M.box 1
  have c2 := cell_of_cells M.box 2
  have c3 := cell_of_cells M.box 3
  have c4 := cell_of_cells M.box 4
  simp at c0 c1 c2 c3 c4
  have hlw : lo ≤ w.heap.size := Nat.le_trans M.hl M.hl2
  have hsv := World.ownsRow.lt M.so
  have x0 : Ext w (w.alloc (.cells #[.int .i64 1, .string s, .int .i64 num] 81)) := (by repeat (with_reducible (first | assumption | exact Ext.refl _ | apply Ext.alloc | apply Ext.drew | apply Ext.drewN)))
  have HM := hid (M.ext x0)
  have hxb : w.heap.size < (w.alloc (.cells #[.int .i64 1, .string s, .int .i64 num] 81)).heap.size := by simp
  replace hz := hid hz
  clear M G
  go_enter Tryz.func60, Tryz.ntmps60
  go_wp2_with fail
  refine wp_region_stagesS [([0, 1, 2, 3, 4, 5, 6], 7), ([], 8)] 99 (fun w' => ∃ d, w' = lowc (CMx mb w.heap.size) _ d) (by kernel_rfl) (by kernel_rfl) (SC.drew _ _) ?_
  refine wpStagesS_cons ?_
  simp only [List.filterMap_cons, List.filterMap_nil, List.getElem?_toArray, List.getElem?_cons_zero, List.getElem?_cons_succ]
  show wpQuiet _ _ _ _ [_, _, _, _, _, _, _] _
  repeat (go_big_quiet_step (fail))
  refine wpQuiet_nil ⟨_, rfl, fun K hK => ?_⟩
  go_wp2_with fail
  refine (iConstant_any num n m _ _ _ _ _ q1 (by omega) hn).mono ?_
  rintro e w2 ⟨y, rfl, hy, x2⟩
  rw [hz.out] at hy
  obtain ⟨ya, yc, rfl, _⟩ := hy.form
  have X2 : Ext (w.alloc (.cells #[.int .i64 1, .string s, .int .i64 num] 81)) w2 := Ext.trans (Ext.drew (Ext.refl _)) x2
  have M2 := HM.out.ext X2
  have SC2 := CMx_of HM.out M2 (X2.block hxb)
  go_wp2_with fail
  refine hK _ _ (.inr (SC2)) ?_
  clear hK K
  refine wpStagesS_cons ?_
  simp only [List.filterMap_nil]
  show wpQuiet _ _ _ _ [] _
  try simp only [Act.put, List.setIfInBounds_toArray, List.set_cons_succ, List.set_cons_zero]
  repeat (go_big_quiet_step (fail))
  refine wpQuiet_nil ⟨_, rfl, fun K hK => ?_⟩
  go_wp2_with fail
  have hlone := Lone.of (M := (w.alloc (.cells #[.int .i64 1, .string s, .int .i64 num] 81)).heap.size) HM.out.rows (Nat.le_refl _) (fun k hk => (hy.lt k hk).1)
  refine (push_any M2 (hy.low (by have := x0.size; simp; omega)) hlone (by omega)).mono ?_
  rintro e w3 ⟨rfl, ⟨sv3, M3⟩, st3, fr3⟩
  have SC3 := CMx_of HM.out M3 ((fr3 w.heap.size (by have := X2.size; omega) (by omega) (fun e => by have := (hsv _ e).2; omega)).trans (X2.block hxb))
  go_wp2_with fail
  refine hK _ _ (.inr (SC3)) ?_
  clear hK K
  refine wpStagesS_nil ?_
  go_wp2
  go_end0
  exact ⟨rfl, ⟨sv3, _, M3⟩, ((x0.trans X2).step hlw).trans st3⟩
set_option maxRecDepth 100000 in
set_option maxHeartbeats 3200000 in
theorem exec2 {lo lo2 : Nat} {w : World} {mb n m : Nat} {pu tu : Value} {f : Nat → Int} {tm : Int} {t : Tex} {sv lv : Value} {vs us : List Value} {S L : List (List Int)} (M : Mach lo lo2 w mb n pu tu tm t.log sv lv vs us S L) (G : GridIn lo w n m pu tu f tm t) (s : ByteArray) (num : Int) (hS : S.length ≤ 1000)
    (zs : List Int) (hz : (List.range m).map (varL s.toList f tm) = zs) :
    Calls Tryz.prog 60 #[.pointer (some ⟨mb, 0, none⟩), .agg #[.int .i64 2, .string s, .int .i64 num]] w fun e w' => e = .returned (.tuple #[]) ∧ (∃ sv' vs', Mach lo lo2 w' mb n pu tu tm t.log sv' lv vs' us (S ++ [zs]) L) ∧ Step lo w w' := by
  obtain ⟨q1, q2, q3⟩ := G.hmi
  have hb := M.lt
  have hvl := M.sl
  have c0 := cell_of_cells M.box 0
  have c1 := cell_of_cells M.box 1
  have c2 := cell_of_cells M.box 2
  have c3 := cell_of_cells M.box 3
  have c4 := cell_of_cells M.box 4
  simp at c0 c1 c2 c3 c4
  have hlw : lo ≤ w.heap.size := Nat.le_trans M.hl M.hl2
  have hsv := World.ownsRow.lt M.so
  have x0 : Ext w (w.alloc (.cells #[.int .i64 2, .string s, .int .i64 num] 81)) := (by repeat (with_reducible (first | assumption | exact Ext.refl _ | apply Ext.alloc | apply Ext.drew | apply Ext.drewN)))
  have HM := hid (M.ext x0)
  have hxb : w.heap.size < (w.alloc (.cells #[.int .i64 2, .string s, .int .i64 num] 81)).heap.size := by simp
  replace hz := hid hz
  have HF := hid (G.flats.ext hlw x0)
  have t9 := G.tm9.i64
  clear M G
  go_enter Tryz.func60, Tryz.ntmps60
  go_wp2_with fail
  refine wp_region_stagesS [([0, 1, 2, 3, 4, 5, 6], 7), ([], 8)] 99 (fun w' => ∃ d, w' = lowc (CMx mb w.heap.size) _ d) (by kernel_rfl) (by kernel_rfl) (SC.drew _ _) ?_
  refine wpStagesS_cons ?_
  simp only [List.filterMap_cons, List.filterMap_nil, List.getElem?_toArray, List.getElem?_cons_zero, List.getElem?_cons_succ]
  show wpQuiet _ _ _ _ [_, _, _, _, _, _, _] _
  repeat (go_big_quiet_step (fail))
  refine wpQuiet_nil ⟨_, rfl, fun K hK => ?_⟩
  go_wp2_with fail
  refine (iLoaded_any s 0 lo n m _ _ f tm _ _ (HF.out.ext (Nat.le_trans hlw x0.size) (Ext.drew (Ext.refl _))) (Nat.le_trans hlw x0.size) q1 q3 t9).mono ?_
  rintro e w2 ⟨y, rfl, hy, x2⟩
  rw [hz.out] at hy
  obtain ⟨ya, yc, rfl, _⟩ := hy.form
  have X2 : Ext (w.alloc (.cells #[.int .i64 2, .string s, .int .i64 num] 81)) w2 := Ext.trans (Ext.drew (Ext.refl _)) x2
  have M2 := HM.out.ext X2
  have SC2 := CMx_of HM.out M2 (X2.block hxb)
  go_wp2_with fail
  refine hK _ _ (.inr (SC2)) ?_
  clear hK K
  refine wpStagesS_cons ?_
  simp only [List.filterMap_nil]
  show wpQuiet _ _ _ _ [] _
  try simp only [Act.put, List.setIfInBounds_toArray, List.set_cons_succ, List.set_cons_zero]
  repeat (go_big_quiet_step (fail))
  refine wpQuiet_nil ⟨_, rfl, fun K hK => ?_⟩
  go_wp2_with fail
  have hlone := Lone.of (M := (w.alloc (.cells #[.int .i64 2, .string s, .int .i64 num] 81)).heap.size) HM.out.rows (Nat.le_refl _) (fun k hk => (hy.lt k hk).1)
  refine (push_any M2 (hy.low (by have := x0.size; simp; omega)) hlone (by omega)).mono ?_
  rintro e w3 ⟨rfl, ⟨sv3, M3⟩, st3, fr3⟩
  have SC3 := CMx_of HM.out M3 ((fr3 w.heap.size (by have := X2.size; omega) (by omega) (fun e => by have := (hsv _ e).2; omega)).trans (X2.block hxb))
  go_wp2_with fail
  refine hK _ _ (.inr (SC3)) ?_
  clear hK K
  refine wpStagesS_nil ?_
  go_wp2
  go_end0
  exact ⟨rfl, ⟨sv3, _, M3⟩, ((x0.trans X2).step hlw).trans st3⟩
set_option maxRecDepth 100000 in
set_option maxHeartbeats 3200000 in
theorem exec7 {lo lo2 : Nat} {w : World} {mb n m : Nat} {pu tu : Value} {f : Nat → Int} {tm : Int} {t : Tex} {sv lv : Value} {vs us : List Value} {S L : List (List Int)} (M : Mach lo lo2 w mb n pu tu tm t.log sv lv vs us S L) (G : GridIn lo w n m pu tu f tm t) (s : ByteArray) (num : Int) (hS : S.length ≤ 1000)
    (zs : List Int) (p q : Nat) (hp : arity s = p) (hp1 : 1 ≤ p) (hq : q + p = S.length) (hg : ∀ r ∈ S, good m r) (hz : callRow n m t s.toList (S.drop q) = zs) :
    Calls Tryz.prog 60 #[.pointer (some ⟨mb, 0, none⟩), .agg #[.int .i64 7, .string s, .int .i64 num]] w fun e w' => e = .returned (.tuple #[]) ∧ (∃ sv' vs', Mach lo lo2 w' mb n pu tu tm t.log sv' lv vs' us (S.take q ++ [zs]) L) ∧ Step lo w w' := by
  obtain ⟨q1, q2, q3⟩ := G.hmi
  have hb := M.lt
  have hvl := M.sl
  have c0 := cell_of_cells M.box 0
  have c1 := cell_of_cells M.box 1
  have c2 := cell_of_cells M.box 2
  have c3 := cell_of_cells M.box 3
  have c4 := cell_of_cells M.box 4
  simp at c0 c1 c2 c3 c4
  have hlw : lo ≤ w.heap.size := Nat.le_trans M.hl M.hl2
  have hsv := World.ownsRow.lt M.so
  have x0 : Ext w (w.alloc (.cells #[.int .i64 7, .string s, .int .i64 num] 81)) := (by repeat (with_reducible (first | assumption | exact Ext.refl _ | apply Ext.alloc | apply Ext.drew | apply Ext.drewN)))
  have HM := hid (M.ext x0)
  have hxb : w.heap.size < (w.alloc (.cells #[.int .i64 7, .string s, .int .i64 num] 81)).heap.size := by simp
  replace hz := hid hz
  have HG := hid (G.step (x0.step hlw).below)
  have hg2 : ∀ r ∈ S.drop q, good m r := fun r hr => hg r (List.mem_of_mem_drop hr)
  have hdl : (S.drop q).length = p := by simp; omega
  replace hp := hid hp
  replace hg := hid hg
  replace hg2 := hid hg2
  replace hdl := hid hdl
  clear M G
  go_enter Tryz.func60, Tryz.ntmps60
  go_wp2_with fail
  refine wp_region_stagesS [([0, 1, 2, 3, 4, 5, 6, 7, 8, 9], 10), ([], 11), ([], 12), ([], 13)] 99 (fun w' => ∃ d, w' = lowc (CMx mb w.heap.size) _ d) (by kernel_rfl) (by kernel_rfl) (SC.drew _ _) ?_
  refine wpStagesS_cons ?_
  simp only [List.filterMap_cons, List.filterMap_nil, List.getElem?_toArray, List.getElem?_cons_zero, List.getElem?_cons_succ]
  show wpQuiet _ _ _ _ [_, _, _, _, _, _, _, _, _, _] _
  repeat (go_big_quiet_step (fail))
  refine wpQuiet_nil ⟨_, rfl, fun K hK => ?_⟩
  go_wp2_with fail
  refine (iArity_val hp.out _).mono ?_
  rintro e w1 ⟨rfl, rfl⟩
  have X1 : Ext (w.alloc (.cells #[.int .i64 7, .string s, .int .i64 num] 81)) (w.alloc (.cells #[.int .i64 7, .string s, .int .i64 num] 81)).drew := Ext.drew (Ext.refl _)
  have M1 := HM.out.ext X1
  have SC1 := CMx_of HM.out M1 (X1.block hxb)
  go_wp2_with fail
  refine hK _ _ (.inr (SC1)) ?_
  clear hK K
  refine wpStagesS_cons ?_
  simp only [List.filterMap_nil]
  show wpQuiet _ _ _ _ [] _
  try simp only [Act.put, List.setIfInBounds_toArray, List.set_cons_succ, List.set_cons_zero]
  repeat (go_big_quiet_step (fail))
  refine wpQuiet_nil ⟨_, rfl, fun K hK => ?_⟩
  go_wp2_with fail
  refine (pop_any M1 p q hp1 (by omega) (by omega)).mono ?_
  rintro e w2 ⟨r, rfl, hr, ⟨sv2, M2, hsv2⟩, st2, fr2⟩
  obtain ⟨ra, rc, rfl⟩ := ownsRow.form hr
  have SC2 := CMx_of HM.out M2 ((fr2 w.heap.size (by have := X1.size; omega) (by omega)).trans (X1.block hxb))
  have HR := hid hr
  go_wp2_with fail
  refine hK _ _ (.inr (SC2)) ?_
  clear hK K
  refine wpStagesS_cons ?_
  simp only [List.filterMap_nil]
  show wpQuiet _ _ _ _ [] _
  try simp only [Act.put, List.setIfInBounds_toArray, List.set_cons_succ, List.set_cons_zero]
  repeat (go_big_quiet_step (fail))
  refine wpQuiet_nil ⟨_, rfl, fun K hK => ?_⟩
  go_wp2_with fail
  have G2 := HG.out.step ((X1.step (by simp; omega)).trans st2).below
  have hs2 := st2.size
  have hs1 := X1.size
  have hs0 := x0.size
  have hSS : SS 0 w2.heap.size w2 (.slice ra p rc) (S.drop q) := by
    have hrw := ((Rws.left M1.sl M1.rows).drop q).keepI st2.keep
    exact ownsRow.ss HR.out hrw
  refine (iCalled_any s (S.drop q) 0 w2.heap.size 0 lo n m _ _ _ tm t w2 (by rw [hp.out]; omega) (by rw [hdl.out, hp.out]) G2.ok hSS (Nat.le_refl _) G2.tex (by omega) hg2.out G2.hm G2.h1 G2.h8).mono ?_
  rintro e w3 ⟨y, rfl, hy, x3⟩
  rw [hz.out] at hy
  obtain ⟨ya, yc, rfl, _⟩ := hy.form
  have M3 := M2.ext x3
  have f2 := (fr2 w.heap.size (by omega) (by omega)).trans (X1.block hxb)
  have f3 := (x3.block (by omega)).trans f2
  have SC3 := CMx_of HM.out M3 f3
  go_wp2_with fail
  refine hK _ _ (.inr (SC3)) ?_
  clear hK K
  refine wpStagesS_cons ?_
  simp only [List.filterMap_nil]
  show wpQuiet _ _ _ _ [] _
  try simp only [Act.put, List.setIfInBounds_toArray, List.set_cons_succ, List.set_cons_zero]
  repeat (go_big_quiet_step (fail))
  refine wpQuiet_nil ⟨_, rfl, fun K hK => ?_⟩
  go_wp2_with fail
  have hlone := Lone.of (M := w2.heap.size) M2.rows (Nat.le_refl _) (fun k hk => (hy.lt k hk).1)
  refine (push_any M3 (hy.low (by omega)) hlone (by simp; omega)).mono ?_
  rintro e w4 ⟨rfl, ⟨sv4, M4⟩, st4, fr4⟩
  have hs3 := x3.size
  have SC4 := CMx_of HM.out M4 ((fr4 w.heap.size (by omega) (by omega) (fun e => by have := (hsv _ (hsv2 ▸ e)).2; omega)).trans f3)
  go_wp2_with fail
  refine hK _ _ (.inr (SC4)) ?_
  clear hK K
  refine wpStagesS_nil ?_
  go_wp2
  go_end0
  exact ⟨rfl, ⟨sv4, _, M4⟩, (((x0.trans X1).step hlw).trans st2).trans ((x3.step (by omega)).trans st4)⟩
end Go.Proofs.YtaegmenjgjdimaaGreat
end

section
/- This text proves the other instructions of the grid's machine: local, store, unary, binary. -/
namespace Go.Proofs.YtaegmenjgjdimaaGreat
open Go.RowKit

def CMl (mb xb lb : Nat) : Addr → Prop := fun a => a.block = lb ∨ CMx mb xb a
@[go_sem] theorem CMl_l (mb xb lb o : Nat) : CMl mb xb lb ⟨lb, o, none⟩ := .inl rfl
@[go_sem] theorem CMl_x (mb xb lb o : Nat) : CMl mb xb lb ⟨xb, o, none⟩ := .inr (CMx_x _ _ _)
@[go_sem] theorem CMl_6 (mb xb lb : Nat) : CMl mb xb lb ⟨mb, 6, none⟩ := .inr (CMx_6 _ _)
theorem CMl_of {mb xb lb : Nat} {w w' : World} (h : SC (CMx mb xb) w w') (hl : w'.heap[lb]? = w.heap[lb]?) : SC (CMl mb xb lb) w w' := SC.of fun a ha => by
  rcases ha with ha | ha
  · have h : w'.heap[a.block]? = w.heap[a.block]? := by rw [ha]; exact hl
    exact ⟨World.cell?_of_block h, World.frozen?_of_block h⟩
  · exact h.get a ha
set_option maxRecDepth 100000 in
set_option maxHeartbeats 3200000 in
theorem exec3 {lo lo2 : Nat} {w : World} {mb n m : Nat} {pu tu : Value} {tm lg : Int} {sv lv : Value} {vs us : List Value} {S L : List (List Int)} (M : Mach lo lo2 w mb n pu tu tm lg sv lv vs us S L) (s : ByteArray) (j : Nat) (xs : List Int) (hx : L[j]? = some xs) (h1 : 1 ≤ xs.length) (h2 : xs.length ≤ 64) (hS : S.length ≤ 1000) :
    Calls Tryz.prog 60 #[.pointer (some ⟨mb, 0, none⟩), .agg #[.int .i64 3, .string s, .int .i64 j]] w fun e w' => e = .returned (.tuple #[]) ∧ (∃ sv' vs', Mach lo lo2 w' mb n pu tu tm lg sv' lv vs' us (S ++ [xs]) L) ∧ Step lo w w' := by
  have hR := Rws.right M.sl M.rows
  have hjL := (List.getElem?_eq_some_iff.1 hx).1
  have hul := hR.len
  have hju : j < us.length := by omega
  obtain ⟨v, hv⟩ : ∃ v, us[j]? = some v := ⟨us[j], by simp [hju]⟩
  have hown := hR.own j v xs hv hx
  obtain ⟨va, vc, rfl, _⟩ := hown.form
  obtain ⟨lb, lc, rfl, hlb1, hlb2⟩ := ownsRow.form1 M.lo' (by omega)
  obtain ⟨k1, k2⟩ := ownsRow.caps M.lo'
  have hbl := M.sep lb rfl
  have hvl := M.sl
  have hb := M.lt
  have c6 := cell_of_cells M.box 6
  simp at c6
  have r0 := World.ownsRow.cellAt M.lo' j (by omega)
  rw [hv] at r0
  have hlw : lo ≤ w.heap.size := Nat.le_trans M.hl M.hl2
  have hsv := World.ownsRow.lt M.so
  have hsl := M.so
  have hbm : lb ≠ mb := fun e => by
    have := ownsRow.not M.lo' M.box (by decide)
    exact this (by rw [← e]; rfl)
  have x0 : Ext w (w.alloc (.cells #[.int .i64 3, .string s, .int .i64 j] 81)) := (by repeat (with_reducible (first | assumption | exact Ext.refl _ | apply Ext.alloc | apply Ext.drew | apply Ext.drewN)))
  have HM := hid (M.ext x0)
  have HO := hid (hown.ints.ext (Nat.le_refl _) x0)
  have hxb : w.heap.size < (w.alloc (.cells #[.int .i64 3, .string s, .int .i64 j] 81)).heap.size := by simp
  have hlo2 := M.hl2
  clear M hown hv hx hR hsl
  go_enter Tryz.func60, Tryz.ntmps60
  go_wp2_with fail
  refine wp_region_stagesS [([0, 1, 2, 3, 4, 5, 6, 7, 8], 9), ([], 10)] 99 (fun w' => ∃ d, w' = lowc (CMl mb w.heap.size lb) _ d) (by kernel_rfl) (by kernel_rfl) (SC.drew _ _) ?_
  refine wpStagesS_cons ?_
  simp only [List.filterMap_cons, List.filterMap_nil, List.getElem?_toArray, List.getElem?_cons_zero, List.getElem?_cons_succ]
  show wpQuiet _ _ _ _ [_, _, _, _, _, _, _, _, _] _
  repeat (go_big_quiet_step (fail))
  refine wpQuiet_nil ⟨_, rfl, fun K hK => ?_⟩
  go_wp2_with fail
  refine (cloneInts2_any lo w.heap.size _ xs _ (HO.out.ext (Nat.le_of_lt hxb) (Ext.drew (Ext.refl _))) (Nat.le_of_lt hxb) h1 (by omega)).mono ?_
  rintro e w2 ⟨y, rfl, hy, x2⟩
  obtain ⟨ya, yc, rfl, _⟩ := hy.form
  have X2 : Ext (w.alloc (.cells #[.int .i64 3, .string s, .int .i64 j] 81)) w2 := Ext.trans (Ext.drew (Ext.refl _)) x2
  have M2 := HM.out.ext X2
  have SC2 := CMl_of (CMx_of HM.out M2 (X2.block hxb)) (X2.block (k := lb) (by omega))
  go_wp2_with fail
  refine hK _ _ (.inr (SC2)) ?_
  clear hK K
  refine wpStagesS_cons ?_
  simp only [List.filterMap_nil]
  show wpQuiet _ _ _ _ [] _
  try simp only [Act.put, List.setIfInBounds_toArray, List.set_cons_succ, List.set_cons_zero]
  repeat (go_big_quiet_step (fail))
  refine wpQuiet_nil ⟨_, rfl, fun K hK => ?_⟩
  go_wp2_with fail
  have hlone := Lone.of (M := (w.alloc (.cells #[.int .i64 3, .string s, .int .i64 j] 81)).heap.size) HM.out.rows (Nat.le_refl _) (fun k hk => (hy.lt k hk).1)
  refine (push_any M2 (hy.low (by have := x0.size; simp; omega)) hlone (by omega)).mono ?_
  rintro e w3 ⟨rfl, ⟨sv3, M3⟩, st3, fr3⟩
  have hz2 := X2.size
  have SC3 := CMl_of (CMx_of HM.out M3 ((fr3 w.heap.size (by omega) (by omega) (fun e => by have := (hsv _ e).2; omega)).trans (X2.block hxb))) ((fr3 lb (by omega) hbm (fun e => by have := (hsv _ e).1; omega)).trans (X2.block (k := lb) (by omega)))
  go_wp2_with fail
  refine hK _ _ (.inr (SC3)) ?_
  clear hK K
  refine wpStagesS_nil ?_
  go_wp2
  go_end0
  exact ⟨rfl, ⟨sv3, _, M3⟩, ((x0.trans X2).step hlw).trans st3⟩

set_option maxRecDepth 100000 in
set_option maxHeartbeats 3200000 in
theorem exec5 {lo lo2 : Nat} {w : World} {mb n m : Nat} {pu tu : Value} {tm lg : Int} {sv lv : Value} {vs us : List Value} {S L : List (List Int)} (M : Mach lo lo2 w mb n pu tu tm lg sv lv vs us S L) (s : ByteArray) (q : Nat) (op : Int) (hop : opsOk op) (hq : q + 1 = S.length) (hS : S.length ≤ 1000) (hg : ∀ r ∈ S, good m r) (hm : m ≤ 64) :
    Calls Tryz.prog 60 #[.pointer (some ⟨mb, 0, none⟩), .agg #[.int .i64 5, .string s, .int .i64 op]] w fun e w' => e = .returned (.tuple #[]) ∧ (∃ sv' vs', Mach lo lo2 w' mb n pu tu tm lg sv' lv vs' us (S.take q ++ [List.zipWith (arithI op) (S.getD q []) (S.getD q [])]) L) ∧ Step lo w w' := by
  have hlw : lo ≤ w.heap.size := Nat.le_trans M.hl M.hl2
  have x0 : Ext w (w.alloc (.cells #[.int .i64 5, .string s, .int .i64 op] 81)) := (by repeat (with_reducible (first | assumption | exact Ext.refl _ | apply Ext.alloc | apply Ext.drew | apply Ext.drewN)))
  have HC := hid (unary_any (M.ext x0) q m op hop hq hS hg hm)
  clear M hop hq
  go_enter Tryz.func60, Tryz.ntmps60
  go_wp2_with fail
  refine HC.out.mono ?_
  rintro e w2 ⟨rfl, h1, h2⟩
  go_wp2
  go_end0
  exact ⟨rfl, h1, (x0.step hlw).trans h2⟩
set_option maxRecDepth 100000 in
set_option maxHeartbeats 3200000 in
theorem exec6 {lo lo2 : Nat} {w : World} {mb n m : Nat} {pu tu : Value} {tm lg : Int} {sv lv : Value} {vs us : List Value} {S L : List (List Int)} (M : Mach lo lo2 w mb n pu tu tm lg sv lv vs us S L) (s : ByteArray) (q : Nat) (op : Int) (hop : opsOk op) (hq : q + 2 = S.length) (hS : S.length ≤ 1000) (hg : ∀ r ∈ S, good m r) (hm : m ≤ 64) :
    Calls Tryz.prog 60 #[.pointer (some ⟨mb, 0, none⟩), .agg #[.int .i64 6, .string s, .int .i64 op]] w fun e w' => e = .returned (.tuple #[]) ∧ (∃ sv' vs', Mach lo lo2 w' mb n pu tu tm lg sv' lv vs' us (S.take q ++ [List.zipWith (arithI op) (S.getD q []) (S.getD (q + 1) [])]) L) ∧ Step lo w w' := by
  have hlw : lo ≤ w.heap.size := Nat.le_trans M.hl M.hl2
  have x0 : Ext w (w.alloc (.cells #[.int .i64 6, .string s, .int .i64 op] 81)) := (by repeat (with_reducible (first | assumption | exact Ext.refl _ | apply Ext.alloc | apply Ext.drew | apply Ext.drewN)))
  have HC := hid (binary_any (M.ext x0) q m op hop hq hS hg hm)
  clear M hop hq
  go_enter Tryz.func60, Tryz.ntmps60
  go_wp2_with fail
  refine HC.out.mono ?_
  rintro e w2 ⟨rfl, h1, h2⟩
  go_wp2
  go_end0
  exact ⟨rfl, h1, (x0.step hlw).trans h2⟩
set_option maxRecDepth 100000 in
set_option maxHeartbeats 3200000 in
theorem exec4 {lo lo2 : Nat} {w : World} {mb n : Nat} {pu tu : Value} {tm lg : Int} {sv lv : Value} {vs us : List Value} {S L : List (List Int)} (M : Mach lo lo2 w mb n pu tu tm lg sv lv vs us S L) (s : ByteArray) (j q : Nat) (hj : j < L.length) (hq : q + 1 = S.length) (hS : S.length ≤ 1000) (hne : ∀ r ∈ S, r ≠ []) :
    Calls Tryz.prog 60 #[.pointer (some ⟨mb, 0, none⟩), .agg #[.int .i64 4, .string s, .int .i64 j]] w fun e w' => e = .returned (.tuple #[]) ∧ (∃ sv' vs' us', Mach lo lo2 w' mb n pu tu tm lg sv' lv vs' us' (S.take q) (L.set j (S.getD q []))) ∧ Step lo w w' := by
  have hR := Rws.right M.sl M.rows
  have hul := hR.len
  have hju : j < us.length := by omega
  have hvl := M.sl
  obtain ⟨x, hx1, hx2⟩ := snoc_drop vs q (by omega)
  obtain ⟨xs, hs1, hs2⟩ := snoc_drop S q hq
  have hRl := Rws.left M.sl M.rows
  have hown : OwnInts lo w x xs := by
    have := (hRl.drop q).own 0 x xs (by rw [hx1]; rfl) (by rw [hs1]; rfl)
    exact this
  have hnx : xs ≠ [] := hne xs (List.mem_of_mem_drop (by rw [hs1]; exact List.mem_singleton.2 rfl))
  have hxs : S.getD q [] = xs := by
    have h1 : S[q]? = (S.drop q)[0]? := by rw [List.getElem?_drop, Nat.add_zero]
    rw [List.getD, h1, hs1]
    rfl
  rw [hxs]
  obtain ⟨xa, xc, rfl, _⟩ := hown.form
  obtain ⟨lb, lc, rfl, hlb1, hlb2⟩ := ownsRow.form1 M.lo' (by omega)
  obtain ⟨k1, k2⟩ := ownsRow.caps M.lo'
  have hbl := M.sep lb rfl
  have hb := M.lt
  have c6 := cell_of_cells M.box 6
  simp at c6
  have hlw : lo ≤ w.heap.size := Nat.le_trans M.hl M.hl2
  have hsv := World.ownsRow.lt M.so
  have hlo2 := M.hl2
  have hapt : Apt ((vs.take q ++ [.slice xa xs.length xc]) ++ us) := by rw [← hx2]; exact M.apt
  have x0 : Ext w (w.alloc (.cells #[.int .i64 4, .string s, .int .i64 j] 81)) := (by repeat (with_reducible (first | assumption | exact Ext.refl _ | apply Ext.alloc | apply Ext.drew | apply Ext.drewN)))
  have HM := hid (M.ext x0)
  have HO := hid hown
  have HA := hid hapt
  have hxb : w.heap.size < (w.alloc (.cells #[.int .i64 4, .string s, .int .i64 j] 81)).heap.size := by simp
  replace hx1 := hid hx1
  clear M hown hR hRl hapt hx2 hs1 hs2 hxs
  go_enter Tryz.func60, Tryz.ntmps60
  go_wp2_with fail
  refine wp_region_stagesS [([0, 1, 2, 3, 4, 5, 6], 7), ([], 8), ([], 9), ([], 10), ([], 11)] 11 (fun w' => ∃ d, w' = lowc (CMx mb w.heap.size) _ d) (by kernel_rfl) (by kernel_rfl) (SC.drew _ _) ?_
  refine wpStagesS_cons ?_
  simp only [List.filterMap_cons, List.filterMap_nil, List.getElem?_toArray, List.getElem?_cons_zero, List.getElem?_cons_succ]
  show wpQuiet _ _ _ _ [_, _, _, _, _, _, _] _
  repeat (go_big_quiet_step (fail))
  refine wpQuiet_nil ⟨_, rfl, fun K hK => ?_⟩
  go_wp2_with fail
  have X1 : Ext (w.alloc (.cells #[.int .i64 4, .string s, .int .i64 j] 81)) (w.alloc (.cells #[.int .i64 4, .string s, .int .i64 j] 81)).drew := Ext.drew (Ext.refl _)
  have M1 := HM.out.ext X1
  refine (pop_any M1 1 q (Nat.le_refl _) (by omega) (by omega)).mono ?_
  rintro e w2 ⟨r, rfl, hr, ⟨sv2, M2, hsv2⟩, st2, fr2⟩
  obtain ⟨rb, rc, rfl, hrb1, hrb2⟩ := ownsRow.form1 hr (Nat.le_refl _)
  rw [hx1.out] at hr
  have r0 := World.ownsRow.cellAt hr 0 (by omega)
  simp at r0
  have SC2 := CMx_of HM.out M2 ((fr2 w.heap.size (by have := X1.size; omega) (by omega)).trans (X1.block hxb))
  have hlt2 := (World.ownsRow.lt M2.lo' lb rfl).2
  obtain ⟨y0, hy0⟩ : ∃ y, us[j]? = some y := ⟨us[j], by simp [hju]⟩
  have t0 := World.ownsRow.cellAt M2.lo' j (by omega)
  rw [hy0] at t0
  have t1 := World.ownsRow.frozenAt M2.lo' j
  have HM2 := hid M2
  have HST := hid st2
  have HX := hid (HO.out.keepI ((x0.trans X1).keepI.trans st2.keep))
  clear M2 hr st2 fr2 hy0
  go_wp2_with fail
  refine hK _ _ (.inr (SC2)) ?_
  clear hK K
  refine wpStagesS_cons ?_
  simp only [List.filterMap_nil]
  show wpQuiet _ _ _ _ [] _
  try simp only [Act.put, List.setIfInBounds_toArray, List.set_cons_succ, List.set_cons_zero]
  repeat (go_big_quiet_step (fail))
  refine wpQuiet_nil ⟨_, rfl, fun K hK => ?_⟩
  go_wp2_with fail
  go_wp2_with fail
  refine hK _ _ (.inr (SC2)) ?_
  clear hK K
  refine wpStagesS_cons ?_
  simp only [List.filterMap_nil]
  show wpQuiet _ _ _ _ [] _
  try simp only [Act.put, List.setIfInBounds_toArray, List.set_cons_succ, List.set_cons_zero]
  repeat (go_big_quiet_step (fail))
  refine wpQuiet_nil ⟨_, rfl, fun K hK => ?_⟩
  go_wp2_with fail
  go_wp2_with fail
  refine hK _ _ (.inr (SC2)) ?_
  clear hK K
  refine wpStagesS_cons ?_
  simp only [List.filterMap_nil]
  show wpQuiet _ _ _ _ [] _
  try simp only [Act.put, List.setIfInBounds_toArray, List.set_cons_succ, List.set_cons_zero]
  repeat (go_big_quiet_step (fail))
  refine wpQuiet_nil ⟨_, rfl, fun K hK => ?_⟩
  go_wp2_with fail
  go_wp2_with fail
  refine hK _ _ (.inr (SC2)) ?_
  clear hK K
  refine wpStagesS_cons ?_
  simp only [List.filterMap_nil]
  show wpQuiet _ _ _ _ [] _
  try simp only [Act.put, List.setIfInBounds_toArray, List.set_cons_succ, List.set_cons_zero]
  repeat (go_big_quiet_step (fail))
  refine wpQuiet_nil ⟨_, rfl, fun K hK => ?_⟩
  go_wp2_with fail
  go_wp2_with fail
  refine hK _ _ (.inl (by trivial)) ?_
  clear hK K
  refine wpStagesS_nil ?_
  go_wp2
  go_end0
  have M2 := HM2.out
  have hsto := World.ownsRow.stored M2.lo' j (.slice xa xs.length xc)
  have hbm : lb ≠ mb := fun e => ownsRow.not M2.lo' M2.box (by decide) (by rw [← e]; rfl)
  have kk : KeepI w2 (w2.setCell ⟨lb, j, none⟩ (.slice xa xs.length xc)) := KeepI.setCell _ (fun cur fr => ownsRow.int M2.lo' (by decide) lb cur fr rfl)
  have hsl2 := World.ownsRow.lt M2.so
  have hl2 : (us.set j (.slice xa xs.length xc)).length = us.length := by simp
  refine ⟨rfl, ⟨sv2, vs.take q, us.set j (.slice xa xs.length xc), ⟨?_, M2.low, ?_, ?_, M2.sep, M2.hl, by have := M2.hl2; simpa using this, M2.sl, ?_, HA.out.store j, M2.nls.set j hnx⟩⟩, (((x0.trans X1).step hlw).trans HST.out).trans ⟨Below.setCell (Below.refl _ _) hlb1 _, kk⟩⟩
  · exact (Below.heap_setCell _ _ _ _ (fun e => hbm e.symm)).trans M2.box
  · refine M2.so.kept hsto.2 ?_
    cases hk : sv2.ownBlock with
    | none => exact .inl rfl
    | some k => exact .inr (fun e => by have := (hsl2 k hk).1; injection e with e; omega)
  · rw [hl2]
    exact hsto.1
  · exact (Rws.left M2.sl M2.rows).keepI kk |>.app (((Rws.right M2.sl M2.rows).keepI kk).set j (HX.out.keepI kk))
end Go.Proofs.YtaegmenjgjdimaaGreat
end

section
/- This text says what the grid's machine computes, in plain numbers, and proves that its rows stay in range; it walks no function. -/
namespace Go.Proofs.YtaegmenjgjdimaaGreat
open Go.RowKit

/-- the row that an instruction other than a store pushes -/
def rowI (n m : Nat) (f : Nat → Int) (tm : Int) (t : Tex) (op : Int) (s : ByteArray) (num : Int) (args L : List (List Int)) : List Int :=
  if op = 1 then List.replicate m num else if op = 2 then (List.range m).map (varL s.toList f tm) else if op = 3 then L.getD num.toNat [] else if op = 5 then List.zipWith (arithI num) (args.getD 0 []) (args.getD 0 [])
  else if op = 6 then List.zipWith (arithI num) (args.getD 0 []) (args.getD 1 []) else callRow n m t s.toList args
/-- where the operands of an instruction begin -/
def cutI (op : Int) (s : ByteArray) (S : List (List Int)) : Nat := S.length - (popsI op s).toNat
def nextS (n m : Nat) (f : Nat → Int) (tm : Int) (t : Tex) (x : Ins) (S L : List (List Int)) : List (List Int) :=
  if x.op = 4 then S.take (cutI x.op x.name S) else S.take (cutI x.op x.name S) ++ [rowI n m f tm t x.op x.name x.num (S.drop (cutI x.op x.name S)) L]
def nextL (x : Ins) (S L : List (List Int)) : List (List Int) := if x.op = 4 then L.set x.num.toNat (S.getD (cutI x.op x.name S) []) else L
/-- the locals behind the instructions -/
def runG (n m : Nat) (f : Nat → Int) (tm : Int) (t : Tex) : List Ins → List (List Int) → List (List Int) → List (List Int)
  | [], _, L => L
  | x :: r, S, L => runG n m f tm t r (nextS n m f tm t x S L) (nextL x S L)
theorem zip_good {m : Nat} {op : Int} {a b : List Int} (ha : a.length = m) (hb : b.length = m) : good m (List.zipWith (arithI op) a b) := by
  refine ⟨by simp; omega, fun x hx => ?_⟩
  obtain ⟨i, hi, rfl⟩ := List.getElem_of_mem hx
  simp
  exact satI_S9 _
theorem varL_S9 {f : Nat → Int} {tm : Int} {m q : Nat} (l : List UInt8) (hf : ∀ i, i < m * 5 → S9 (f i)) (ht : S9 tm) (hq : q < m) : S9 (varL l f tm q) := by
  unfold varL
  split
  · exact hf _ (by omega)
  split
  · exact hf _ (by omega)
  split
  · exact hf _ (by omega)
  split
  · exact hf _ (by omega)
  split
  · exact hf _ (by omega)
  · exact ht
theorem call_good {n m : Nat} (hm : n * n = m) (t : Tex) (l : List UInt8) (S : List (List Int)) : good m (callRow n m t l S) := by
  have hd : ∀ xs rows, good m (diffs xs n rows) := fun xs rows => ⟨by rw [diffs_length, hm], fun x hx => by
    obtain ⟨i, hi, rfl⟩ := List.getElem_of_mem hx
    rw [diffs_at]
    exact dVal_i64 _ _ _ _⟩
  unfold callRow
  split
  · exact hd _ _
  split
  · exact hd _ _
  · refine ⟨by simp, fun x hx => ?_⟩
    obtain ⟨i, hi, rfl⟩ := List.mem_map.1 hx
    exact satI_S9 _
/-- the state of the machine ahead of the instructions xs -/
structure Okst (L0 m : Nat) (xs : List Ins) (S L : List (List Int)) : Prop where
  run : ∃ d st, (runD L0 xs S.length d st).isSome = true ∧ ∀ j r, L[j]? = some r → (st j = true ∧ good m r) ∨ (st j = false ∧ r = [])
  len : L.length = L0
  rows : ∀ r ∈ S, good m r
theorem Okst.wf {L0 m : Nat} {x : Ins} {r : List Ins} {S L : List (List Int)} (h : Okst L0 m (x :: r) S L) : wfI x.op x.name x.num L0 = true := by
  obtain ⟨d, st, h1, _⟩ := h.run
  exact runD_wf _ _ _ _ h1 x (List.mem_cons_self)
theorem Okst.pops {L0 m : Nat} {x : Ins} {r : List Ins} {S L : List (List Int)} (h : Okst L0 m (x :: r) S L) : ∃ p : Nat, popsI x.op x.name = p ∧ cutI x.op x.name S + p = S.length := by
  obtain ⟨d, st, h1, _⟩ := h.run
  have hb := pops_bd h.wf
  unfold runD at h1
  split at h1
  · rename_i hc
    refine ⟨(popsI x.op x.name).toNat, by omega, ?_⟩
    unfold cutI
    omega
  · simp at h1
/-- a local that is read is stored -/
theorem Okst.local {L0 m : Nat} {x : Ins} {r : List Ins} {S L : List (List Int)} (h : Okst L0 m (x :: r) S L) (h3 : x.op = 3) : ∃ xs, L[x.num.toNat]? = some xs ∧ good m xs := by
  obtain ⟨d, st, h1, h2⟩ := h.run
  obtain ⟨j, hj, hjL⟩ := wf_at h.wf (.inl h3)
  unfold runD at h1
  split at h1
  · rename_i hc
    have hs := hc.2.1 h3
    rw [hj] at hs ⊢
    simp only [Int.toNat_natCast] at hs ⊢
    have hl := h.len
    have hx : L[j]? = some (L[j]'(by omega)) := by simp [show j < L.length by omega]
    rcases h2 j _ hx with h4 | h4
    · exact ⟨_, hx, h4.2⟩
    · rw [hs] at h4; cases h4.1
  · simp at h1
theorem Okst.next {L0 n m : Nat} {f : Nat → Int} {tm : Int} {t : Tex} {x : Ins} {r : List Ins} {S L : List (List Int)} (h : Okst L0 m (x :: r) S L) (hm : n * n = m) (hn : numB x = true) (hf : ∀ i, i < m * 5 → S9 (f i)) (ht : S9 tm) : Okst L0 m r (nextS n m f tm t x S L) (nextL x S L) := by
  obtain ⟨p, hp, hc⟩ := h.pops
  have hwf := h.wf
  have hloc := h.local
  have hrows := h.rows
  obtain ⟨d, st, h1, h2⟩ := h.run
  have hlen := h.len
  have hd : ∀ y ∈ S.drop (cutI x.op x.name S), good m y := fun y hy => hrows y (List.mem_of_mem_drop hy)
  have htk : ∀ y ∈ S.take (cutI x.op x.name S), good m y := fun y hy => hrows y (List.mem_of_mem_take hy)
  have hdl : (S.drop (cutI x.op x.name S)).length = p := by simp; omega
  have hga : ∀ i, i < p → good m ((S.drop (cutI x.op x.name S)).getD i []) := fun i hi => by
    have e : (S.drop (cutI x.op x.name S)).getD i [] = (S.drop (cutI x.op x.name S))[i]'(by omega) := by rw [List.getD, List.getElem?_eq_getElem (show i < (S.drop (cutI x.op x.name S)).length by omega)]; rfl
    rw [e]
    exact hd _ (List.getElem_mem _)
  unfold runD at h1
  split at h1
  case isFalse => simp at h1
  rename_i hcond
  generalize (if (S.length : Int) - popsI x.op x.name + pushI x.op > d then (S.length : Int) - popsI x.op x.name + pushI x.op else d) = d2 at h1
  by_cases h4 : x.op = 4
  · have hp1 : p = 1 := by
      rw [h4] at hp
      have : popsI 4 x.name = 1 := rfl
      omega
    have hq0 : pushI x.op = 0 := by rw [h4]; rfl
    obtain ⟨j, hj, hjL⟩ := wf_at hwf (.inr h4)
    refine ⟨⟨d2, markSt x.op x.num st, ?_, ?_⟩, ?_, ?_⟩
    · unfold nextS
      rw [if_pos h4, List.length_take, Nat.min_eq_left (by omega)]
      have e : ((S.length : Int) - popsI x.op x.name + pushI x.op) = (cutI x.op x.name S : Nat) := by rw [hp, hq0]; omega
      rw [e] at h1
      exact h1
    · intro i y hy
      unfold nextL at hy
      rw [if_pos h4, hj, Int.toNat_natCast] at hy
      unfold markSt
      rw [if_pos h4, hj, Int.toNat_natCast]
      rw [List.getElem?_set] at hy
      by_cases hij : j = i
      · subst hij
        rw [if_pos rfl, if_pos (by omega)] at hy
        injection hy with hy
        subst hy
        refine .inl ⟨by simp, ?_⟩
        have := hga 0 (by omega)
        rw [List.getD, List.getElem?_drop, Nat.add_zero] at this
        exact this
      · rw [if_neg hij] at hy
        have := h2 i y hy
        rw [if_neg (fun e => hij e.symm)]
        exact this
    · unfold nextL
      rw [if_pos h4, List.length_set]
      exact hlen
    · intro y hy
      unfold nextS at hy
      rw [if_pos h4] at hy
      exact htk y hy
  · have hq1 : pushI x.op = 1 := by unfold pushI; rw [if_neg h4]
    have hmk : markSt x.op x.num st = st := by unfold markSt; rw [if_neg h4]
    have hL : nextL x S L = L := by unfold nextL; rw [if_neg h4]
    have hrow : good m (rowI n m f tm t x.op x.name x.num (S.drop (cutI x.op x.name S)) L) := by
      unfold rowI
      split
      · have hb := inB_iff.1 (show inB x.num (-1000000000) 1000000000 = true from hn)
        refine ⟨by simp, fun y hy => ?_⟩
        rw [List.eq_of_mem_replicate hy]
        exact hb
      split
      · refine ⟨by simp, fun y hy => ?_⟩
        obtain ⟨i, hi, rfl⟩ := List.mem_map.1 hy
        exact varL_S9 _ hf ht (List.mem_range.1 hi)
      split
      · rename_i h3
        obtain ⟨xs, hx, hg⟩ := hloc h3
        rw [List.getD, hx]
        exact hg
      split
      · rename_i h5
        have hp5 : p = 1 := by
          rw [h5] at hp
          have : popsI 5 x.name = 1 := rfl
          omega
        exact zip_good (hga 0 (by omega)).1 (hga 0 (by omega)).1
      split
      · rename_i h6
        have hp6 : p = 2 := by
          rw [h6] at hp
          have : popsI 6 x.name = 2 := rfl
          omega
        exact zip_good (hga 0 (by omega)).1 (hga 1 (by omega)).1
      · exact call_good hm t _ _
    refine ⟨⟨d2, st, ?_, ?_⟩, by rw [hL]; exact hlen, ?_⟩
    · unfold nextS
      rw [if_neg h4, List.length_append, List.length_take, Nat.min_eq_left (by omega), List.length_singleton]
      rw [hmk] at h1
      have e : ((S.length : Int) - popsI x.op x.name + pushI x.op) = ((cutI x.op x.name S + 1 : Nat) : Int) := by rw [hp, hq1]; omega
      rw [e] at h1
      exact h1
    · rw [hL]
      exact h2
    · intro y hy
      unfold nextS at hy
      rw [if_neg h4] at hy
      rcases List.mem_append.1 hy with hy | hy
      · exact htk y hy
      · simp at hy
        subst hy
        exact hrow
end Go.Proofs.YtaegmenjgjdimaaGreat
end

section
/- This text proves the program's RunGrid. -/
namespace Go.Proofs.YtaegmenjgjdimaaGreat
open Go.RowKit

theorem opsOk_of {num : Int} (h : inB num 4 7 = true) : opsOk num := by
  have := inB_iff.1 h
  unfold opsOk
  omega
theorem execute_any {lo lo2 : Nat} {w : World} {mb n m : Nat} {pu tu : Value} {f : Nat → Int} {tm : Int} {t : Tex} {sv lv : Value} {vs us : List Value} {S L : List (List Int)} {x : Ins} {r : List Ins} {L0 : Nat} (M : Mach lo lo2 w mb n pu tu tm t.log sv lv vs us S L) (G : GridIn lo w n m pu tu f tm t) (ok : Okst L0 m (x :: r) S L) (hn : numB x = true) (hS : S.length ≤ 1000) :
    Calls Tryz.prog 60 #[.pointer (some ⟨mb, 0, none⟩), .agg #[.int .i64 x.op, .string x.name, .int .i64 x.num]] w fun e w' => e = .returned (.tuple #[]) ∧ (∃ sv' vs' us', Mach lo lo2 w' mb n pu tu tm t.log sv' lv vs' us' (nextS n m f tm t x S L) (nextL x S L)) ∧ Step lo w w' := by
  have hwf := ok.wf
  obtain ⟨p, hp, hc⟩ := ok.pops
  obtain ⟨q1, q2, q3⟩ := G.hmi
  have hloc := ok.local
  have hrows := ok.rows
  have hlen := ok.len
  clear ok
  obtain ⟨op, s, num⟩ := x
  simp only at hwf hp hc hloc ⊢
  have hop : 1 ≤ op ∧ op ≤ 7 := by
    by_cases h : 1 ≤ op ∧ op ≤ 7
    · exact h
    · unfold wfI at hwf
      rw [if_neg (by omega), if_neg (by omega), if_neg (by omega), if_neg (by omega), if_neg (by omega), if_neg (by omega), if_neg (by omega)] at hwf
      cases hwf
  have hnum := inB_iff.1 (show inB num (-1000000000) 1000000000 = true from hn)
  have wrap : ∀ {e : Ending} {w' : World} {S' L' : List (List Int)}, (nextS n m f tm t ⟨op, s, num⟩ S L = S') → (nextL ⟨op, s, num⟩ S L = L') → (e = .returned (.tuple #[]) ∧ (∃ sv' vs', Mach lo lo2 w' mb n pu tu tm t.log sv' lv vs' us S' L') ∧ Step lo w w') → (e = .returned (.tuple #[]) ∧ (∃ sv' vs' us', Mach lo lo2 w' mb n pu tu tm t.log sv' lv vs' us' (nextS n m f tm t ⟨op, s, num⟩ S L) (nextL ⟨op, s, num⟩ S L)) ∧ Step lo w w') := by
    intro e w' S' L' h1 h2 ⟨h3, ⟨sv', vs', h4⟩, h5⟩
    subst h1 h2
    exact ⟨h3, ⟨sv', vs', us, h4⟩, h5⟩
  rcases (show op = 1 ∨ op = 2 ∨ op = 3 ∨ op = 4 ∨ op = 5 ∨ op = 6 ∨ op = 7 by omega) with rfl | rfl | rfl | rfl | rfl | rfl | rfl
  · have h0 : p = 0 := by have : popsI 1 s = 0 := rfl; omega
    refine (exec1 M G s num ⟨by omega, by omega⟩ hS _ rfl).mono fun e w' h => wrap ?_ rfl h
    unfold nextS
    rw [if_neg (by simp), show cutI 1 s S = S.length by omega, List.take_length]
    rfl
  · have h0 : p = 0 := by have : popsI 2 s = 0 := rfl; omega
    refine (exec2 M G s num hS _ rfl).mono fun e w' h => wrap ?_ rfl h
    unfold nextS
    rw [if_neg (by simp), show cutI 2 s S = S.length by omega, List.take_length]
    rfl
  · have h0 : p = 0 := by have : popsI 3 s = 0 := rfl; omega
    obtain ⟨j, rfl, hj⟩ := wf_at hwf (.inl rfl)
    obtain ⟨xs, hx, hg⟩ := hloc rfl
    simp only [Int.toNat_natCast] at hx
    refine (exec3 (m := m) M s j xs hx (by rw [hg.1]; omega) (by rw [hg.1]; omega) hS).mono fun e w' h => wrap ?_ rfl h
    unfold nextS
    rw [if_neg (by simp), show cutI 3 s S = S.length by omega, List.take_length]
    unfold rowI
    rw [if_neg (by simp), if_neg (by simp), if_pos rfl, Int.toNat_natCast, List.getD, hx]
    rfl
  · have h0 : p = 1 := by have : popsI 4 s = 1 := rfl; omega
    obtain ⟨j, rfl, hj⟩ := wf_at hwf (.inr rfl)
    have h4 := exec4 M s j (cutI 4 s S) (by omega) (by omega) hS (fun r hr e => by have := (hrows r hr).1; rw [e] at this; simp at this; omega)
    unfold nextS nextL
    rw [if_pos rfl, if_pos rfl]
    exact h4
  · have h0 : p = 1 := by have : popsI 5 s = 1 := rfl; omega
    have hn3 : num = 3 := by simp [wfI] at hwf; exact hwf.2
    refine (exec5 (m := m) M s (cutI 5 s S) num (by subst hn3; unfold opsOk; omega) (by omega) hS hrows q3).mono fun e w' h => wrap ?_ rfl h
    unfold nextS
    rw [if_neg (by simp)]
    unfold rowI
    rw [if_neg (by simp), if_neg (by simp), if_neg (by simp), if_pos rfl]
    simp only [List.getD, List.getElem?_drop, Nat.add_zero]
  · have h0 : p = 2 := by have : popsI 6 s = 2 := rfl; omega
    have hn4 : inB num 4 7 = true := by simp [wfI] at hwf; exact hwf.2
    refine (exec6 (m := m) M s (cutI 6 s S) num (opsOk_of hn4) (by omega) hS hrows q3).mono fun e w' h => wrap ?_ rfl h
    unfold nextS
    rw [if_neg (by simp)]
    unfold rowI
    rw [if_neg (by simp), if_neg (by simp), if_neg (by simp), if_neg (by simp), if_pos rfl]
    simp only [List.getD, List.getElem?_drop, Nat.add_zero]
  · have hp7 : arity s = p := by have : popsI 7 s = arity s := rfl; omega
    have hab := arity_bd s
    refine (exec7 M G s num hS _ p (cutI 7 s S) hp7 (by omega) hc hrows rfl).mono fun e w' h => wrap ?_ rfl h
    unfold nextS
    rw [if_neg (by simp)]
    unfold rowI
    rw [if_neg (by simp), if_neg (by simp), if_neg (by simp), if_neg (by simp), if_neg (by simp)]
end Go.Proofs.YtaegmenjgjdimaaGreat
end

section
/- This text proves the program's RunGrid. -/
namespace Go.Proofs.YtaegmenjgjdimaaGreat
open Go.RowKit

/-- the slice value v owns rows that hold S, apart from one another -/
def OwnSS (lo : Nat) (w : World) (v : Value) (S : List (List Int)) : Prop := ∃ us, w.ownsRow lo 29 1 v us.length us ∧ Rws lo w us S ∧ Apt us ∧ Nls us S
/-- what RunGrid hands back, where it runs -/
def Cod.out (c : Cod) (g : Grd) : List (List Int) := runG g.n.toNat g.m g.f g.tm g.t c.xs [] (List.replicate c.ls.length [])
theorem iValid_val {g : Grd} {r : Bool} (h : g.okB = r) (lo hi : Nat) (v : Value) (w : World) (hv : g.R lo hi w v) (hh : hi ≤ w.heap.size) :
    Calls Tryz.prog 55 #[v] w fun e w' => e = .returned (.bool r) ∧ Ext w w' := h ▸ iIsValidGrid_any lo hi v g w hv hh
theorem Grd.parts {g : Grd} (h : g.okB = true) : ∃ n : Nat, g.n = n ∧ n * n = g.m ∧ 1 ≤ n ∧ n ≤ 8 ∧ g.t.okB = true ∧ S9 g.tm ∧ ∀ i, i < g.m * 5 → S9 (g.f i) := by
  unfold Grd.okB at h
  simp only [Bool.and_eq_true, decide_eq_true_eq, List.all_eq_true, List.mem_range] at h
  obtain ⟨⟨⟨⟨h1, h2⟩, h3⟩, h4⟩, h5⟩ := h
  have h1 := inB_iff.1 h1
  have h3 := inB_iff.1 h3
  obtain ⟨n, hn⟩ : ∃ n : Nat, g.n = n := ⟨g.n.toNat, by omega⟩
  rw [hn] at h1 h2
  have h6 : ((n * n : Nat) : Int) = (g.m : Int) := by rw [h2]; simp
  refine ⟨n, hn, by omega, by omega, by omega, h4, ⟨by omega, by omega⟩, fun i hi => ?_⟩
  have h7 := h5 (i / 5) (by omega)
  unfold ptB ptL at h7
  simp only [List.all_cons, List.all_nil, Bool.and_true, Bool.and_eq_true] at h7
  obtain ⟨a0, a1, a2, a3, a4⟩ := h7
  have hi5 : i = i / 5 * 5 + i % 5 := by omega
  have hlt : i % 5 < 5 := Nat.mod_lt _ (by decide)
  have key : inB (g.f i) (-1000000) 1000000 = true := by
    rcases (show i % 5 = 0 ∨ i % 5 = 1 ∨ i % 5 = 2 ∨ i % 5 = 3 ∨ i % 5 = 4 by omega) with e | e | e | e | e <;> rw [e] at hi5 <;> rw [hi5]
    · exact a0
    · exact a1
    · exact a2
    · exact a3
    · exact a4
  have := inB_iff.1 key
  exact ⟨by omega, by omega⟩
theorem Okst.start {c : Cod} {m : Nat} (h : c.depth.isSome = true) : Okst c.ls.length m c.xs [] (List.replicate c.ls.length []) := by
  unfold Cod.depth at h
  split at h
  · refine ⟨⟨0, fun _ => false, h, fun j r hj => .inr ⟨rfl, ?_⟩⟩, by simp, fun r hr => by cases hr⟩
    exact List.eq_of_mem_replicate (List.mem_of_getElem? hj)
  · simp at h
theorem Rws.nils (lo : Nat) (w : World) (k : Nat) : Rws lo w (List.replicate k (.slice none 0 0)) (List.replicate k []) := by
  refine ⟨by simp, fun i v xs h1 h2 => ?_⟩
  rw [List.eq_of_mem_replicate (List.mem_of_getElem? h1), List.eq_of_mem_replicate (List.mem_of_getElem? h2)]
  exact OwnInts.nil lo w
theorem Apt.nils (k : Nat) : Apt (List.replicate k (.slice none 0 0)) := by
  unfold Apt
  induction k with
  | zero => simp
  | succ k ih =>
    rw [List.replicate_succ, List.pairwise_cons]
    refine ⟨fun b hb j hj => ?_, ih⟩
    simp [Value.ownBlock] at hj
theorem ownsRow.fresh (w : World) (lo k : Nat) (hl : lo ≤ w.heap.size) (hk : k ≤ 2000000) : (w.alloc (.cells (madeCells #[.slice none 0 0] k) 29)).ownsRow lo 29 1 (.slice (some ⟨w.heap.size, 0, none⟩) k k) (List.replicate k (Value.slice none 0 0)).length (List.replicate k (.slice none 0 0)) := by
  have h := World.ownsRow_lit (size := 1) (e := 29) w (madeCells #[Value.slice none 0 0] k) k hl (by unfold maxLen; omega) (by rw [Nat.mul_one]; exact size_madeCells _ _)
  rw [toList_madeCells_one] at h
  simpa using h

set_option maxRecDepth 100000 in
set_option maxHeartbeats 6400000 in
theorem iRunGrid_no (lo hi lo' hi' : Nat) (v u : Value) (c : Cod) (g : Grd) (w : World) (hv : c.R lo hi w v) (hh : hi ≤ w.heap.size) (hu : g.R lo' hi' w u) (hh' : hi' ≤ w.heap.size) (hL : c.ls.length ≤ 2000000) (hno : (c.runB && g.okB) = false) :
    Calls Tryz.prog 33 #[v, u] w fun e w' => e = .returned (.tuple #[.slice none 0 0, .bool false]) ∧ Ext w w' := by
  have HV := hid hv
  have HU := hid hu
  obtain ⟨a1, c1, a2, c2, rfl, -, -⟩ := hv.form
  obtain ⟨pu, tu, rfl, -, -, -, -, -⟩ := hu
  clear hv
  cases h1 : c.runB
  · go_enter Tryz.func33, Tryz.ntmps33
    go_wp2_with (go_at_call 38; refine (iRunnable_val h1 lo hi _ _ (HV.out.ext hh (by repeat (with_reducible (first | assumption | exact Ext.refl _ | apply Ext.alloc | apply Ext.drew | apply Ext.drewN)))) (by simp; omega) hL).mono ?_; rintro e w1 ⟨rfl, x1⟩)
    refine bodyPost_ret (v := .tuple #[.slice none 0 0, .bool false]) (by simp [results, Tryz.results33, go_sem]) rfl ⟨rfl, Ext.trans (by repeat (with_reducible (first | assumption | exact Ext.refl _ | apply Ext.alloc | apply Ext.drew | apply Ext.drewN))) x1⟩
  · have h2 : g.okB = false := by rw [h1] at hno; simpa using hno
    have hbx := hid (show ∀ w1, Ext ((w.alloc (.cells #[.slice a1 c.xs.length c1, .slice a2 c.ls.length c2] 44)).alloc (.cells #[.int .i64 g.n, pu, .int .i64 g.tm, .int .i64 g.t.log, tu] 33)) w1 → w.heap.size + 1 < w1.heap.size ∧ w1.cell? ⟨w.heap.size + 1, 0, none⟩ = some (.int .i64 g.n) ∧ w1.cell? ⟨w.heap.size + 1, 1, none⟩ = some pu ∧ w1.cell? ⟨w.heap.size + 1, 2, none⟩ = some (.int .i64 g.tm) ∧ w1.cell? ⟨w.heap.size + 1, 3, none⟩ = some (.int .i64 g.t.log) ∧ w1.cell? ⟨w.heap.size + 1, 4, none⟩ = some tu from by
      intro w1 x1
      have := x1.size
      refine ⟨by simp at this; omega, ?_, ?_, ?_, ?_, ?_⟩ <;> (rw [x1.cells.1 _ _ (by simp)]; simp [go_sem]))
    go_enter Tryz.func33, Tryz.ntmps33
    go_wp2_with (go_at_call 38; refine (iRunnable_val h1 lo hi _ _ (HV.out.ext hh (by repeat (with_reducible (first | assumption | exact Ext.refl _ | apply Ext.alloc | apply Ext.drew | apply Ext.drewN)))) (by simp; omega) hL).mono ?_; rintro e w1 ⟨rfl, x1⟩; obtain ⟨d, d0, d1, d2, d3, d4⟩ := hbx.out w1 x1; have X1 : Ext w w1 := Ext.trans (by repeat (with_reducible (first | assumption | exact Ext.refl _ | apply Ext.alloc | apply Ext.drew | apply Ext.drewN))) x1; clear x1)
    refine (iValid_val h2 lo' hi' _ _ (HU.out.ext hh' X1) (by have := X1.size; omega)).mono ?_
    rintro e w2 ⟨rfl, x2⟩
    go_wp2
    refine bodyPost_ret (v := .tuple #[.slice none 0 0, .bool false]) (by simp [results, Tryz.results33, go_sem]) rfl ⟨rfl, X1.trans x2⟩
set_option maxRecDepth 100000 in
set_option maxHeartbeats 6400000 in
theorem iRunGrid_yes (lo hi lo' hi' : Nat) (v u : Value) (c : Cod) (g : Grd) (w : World) (hv : c.R lo hi w v) (hh : hi ≤ w.heap.size) (hu : g.R lo' hi' w u) (hh' : hi' ≤ w.heap.size) (hL : c.ls.length ≤ 2000000) (hyes : (c.runB && g.okB) = true) :
    Calls Tryz.prog 33 #[v, u] w fun e w' => ∃ r, e = .returned (.tuple #[r, .bool true]) ∧ OwnSS w.heap.size w' r (c.out g) ∧ Ext w w' := by
  have HV := hid hv
  have HU := hid hu
  obtain ⟨a1, c1, a2, c2, rfl, HI, -⟩ := hv.form
  obtain ⟨pu, tu, rfl, -, t64, l64, hp, ht⟩ := hu
  clear hv
  simp only [Bool.and_eq_true] at hyes
  obtain ⟨h1, h2⟩ := hyes
  obtain ⟨n, hn, hnn, n1, n8, hok, htm9, hf9⟩ := Grd.parts h2
  have hdep : c.depth.isSome = true := by unfold Cod.runB at h1; simp at h1; exact h1.1
  have hnums : ∀ x ∈ c.xs, numB x = true := by unfold Cod.runB at h1; simp at h1; exact h1.2
  have hlen : c.xs.length ≤ 300 := by
    unfold Cod.depth at hdep
    split at hdep
    · assumption
    · simp at hdep
  have hout : runG n g.m g.f g.tm g.t c.xs [] (List.replicate c.ls.length []) = c.out g := by unfold Cod.out; rw [hn]; rfl
  have HG := hid (show GridIn w.heap.size w n g.m pu tu g.f g.tm g.t from ⟨hp.wide (Nat.zero_le _) hh', ⟨tu, rfl, l64, ht.wide (Nat.zero_le _) hh'⟩, hnn, n1, n8, hok, htm9, hf9⟩)
  have HD := hid hdep
  have HN := hid hnums
  have HOUT := hid hout
  clear hp ht t64 l64 hnn hok htm9 hf9 hdep hnums hout
  rw [hn]
  replace hn := hid hn
  obtain ⟨i0, hi0, hz0, hz1, hz2⟩ := info_parts info_ints
  have hbx := hid (show ∀ w1, Ext ((w.alloc (.cells #[.slice a1 c.xs.length c1, .slice a2 c.ls.length c2] 44)).alloc (.cells #[.int .i64 n, pu, .int .i64 g.tm, .int .i64 g.t.log, tu] 33)) w1 → w.heap.size + 1 < w1.heap.size ∧ w1.cell? ⟨w.heap.size + 1, 0, none⟩ = some (.int .i64 n) ∧ w1.cell? ⟨w.heap.size + 1, 1, none⟩ = some pu ∧ w1.cell? ⟨w.heap.size + 1, 2, none⟩ = some (.int .i64 g.tm) ∧ w1.cell? ⟨w.heap.size + 1, 3, none⟩ = some (.int .i64 g.t.log) ∧ w1.cell? ⟨w.heap.size + 1, 4, none⟩ = some tu ∧ w.heap.size < w1.heap.size ∧ w1.cell? ⟨w.heap.size, 0, none⟩ = some (.slice a1 c.xs.length c1) ∧ w1.cell? ⟨w.heap.size, 1, none⟩ = some (.slice a2 c.ls.length c2) from by
    intro w1 x1
    have := x1.size
    simp at this
    refine ⟨by omega, ?_, ?_, ?_, ?_, ?_, by omega, ?_, ?_⟩ <;> (rw [x1.cells.1 _ _ (by simp <;> omega)]; simp [go_sem]))
  go_enter Tryz.func33, Tryz.ntmps33
  go_wp2_with (go_at_call 38; refine (iRunnable_val h1 lo hi _ _ (HV.out.ext hh (by repeat (with_reducible (first | assumption | exact Ext.refl _ | apply Ext.alloc | apply Ext.drew | apply Ext.drewN)))) (by simp; omega) hL).mono ?_; rintro e w1 ⟨rfl, x1⟩; obtain ⟨d, d0, d1, d2, d3, d4, -⟩ := hbx.out w1 x1)
  refine (iValid_val h2 lo' hi' _ _ (by have := HU.out.ext hh' (Ext.trans (by repeat (with_reducible (first | assumption | exact Ext.refl _ | apply Ext.alloc | apply Ext.drew | apply Ext.drewN))) x1 : Ext w w1); rw [hn.out] at this; exact this) (by have := x1.size; simp at this; omega)).mono ?_
  rintro e w2 ⟨rfl, x2⟩
  clear d d0 d1 d2 d3 d4
  obtain ⟨d, d0, d1, d2, d3, d4, e, e0, e1⟩ := hbx.out w2 (x1.trans x2)
  have X2 : Ext w w2 := (Ext.trans (by repeat (with_reducible (first | assumption | exact Ext.refl _ | apply Ext.alloc | apply Ext.drew | apply Ext.drewN))) x1 : Ext w w1).trans x2
  clear x1 x2 hbx
  have HX2 := hid X2
  go_wp2_with fail
  refine wp_region_stages [([0, 1, 2, 3], 4), ([5], 6), ([], 7)] 7 w2.heap.size (by kernel_rfl) (by kernel_rfl) ?_
  refine wpStages_cons ?_
  simp only [List.filterMap_cons, List.filterMap_nil, List.getElem?_toArray, List.getElem?_cons_zero, List.getElem?_cons_succ]
  show wpQuiet _ _ _ _ [_, _, _, _] _
  repeat (go_big_quiet_step (fail))
  refine wpQuiet_nil ⟨_, rfl, fun K hK => ?_⟩
  go_wp2_with (at_make; refine wpList_make_row _ rfl _ _ 70 rfl 29 i0 (.slice none 0 0) Tryz.underlying70 hi0 hz0 hz1 rfl .i64 .i64 c.ls.length rfl rfl (by rw [hz2]; omega) (by omega) ?_)
  go_wp2_with fail
  refine hK _ _ (.inr (fun k _ hk => Ext.block (by repeat (with_reducible (first | assumption | exact Ext.refl _ | apply Ext.alloc | apply Ext.drew | apply Ext.drewN))) (by first | omega | (simp; omega)))) ?_
  clear hK K
  clear hi0 hz0 hz1 hz2
  refine wpStages_cons ?_
  simp only [List.filterMap_cons, List.filterMap_nil, List.getElem?_toArray, List.getElem?_cons_zero, List.getElem?_cons_succ]
  show wpQuiet _ _ _ _ [_] _
  try simp only [Act.put, List.setIfInBounds_toArray, List.set_cons_succ, List.set_cons_zero]
  repeat (go_big_quiet_step (fail))
  refine wpQuiet_nil ⟨_, rfl, fun K hK => ?_⟩
  go_wp2_with fail
  go_wp2_with fail
  refine hK _ _ (.inr (fun k _ hk => Ext.block (by repeat (with_reducible (first | assumption | exact Ext.refl _ | apply Ext.alloc | apply Ext.drew | apply Ext.drewN))) (by first | omega | (simp; omega)))) ?_
  clear hK K
  refine wpStages_cons ?_
  simp only [List.filterMap_nil]
  show wpQuiet _ _ _ _ [] _
  try simp only [Act.put, List.setIfInBounds_toArray, List.set_cons_succ, List.set_cons_zero]
  repeat (go_big_quiet_step (fail))
  refine wpQuiet_nil ⟨_, rfl, fun K hK => ?_⟩
  go_wp2_with fail
  go_wp2_with fail
  refine hK _ _ (.inl (by trivial)) ?_
  clear hK K
  refine wpStages_nil ?_
  have M0 : Mach w.heap.size (w2.heap.size + 1) ((w2.drew.alloc (.cells (madeCells #[.slice none 0 0] c.ls.length) 29)).alloc (.cells #[.int .i64 n, pu, .int .i64 g.tm, .int .i64 g.t.log, tu, .slice none 0 0, .slice (some ⟨w2.heap.size, 0, none⟩) c.ls.length c.ls.length] 130)) (w2.heap.size + 1) n pu tu g.tm g.t.log (.slice none 0 0) (.slice (some ⟨w2.heap.size, 0, none⟩) c.ls.length c.ls.length) [] (List.replicate c.ls.length (.slice none 0 0)) [] (List.replicate c.ls.length []) := by
    have hz := X2.size
    have hf := ownsRow.fresh w2.drew w.heap.size c.ls.length hz hL
    refine ⟨?_, by omega, World.ownsRow_nil _ _ _ _, hf.alloc _, fun k hk => by simp [Value.ownBlock] at hk; omega, by omega, by simp, rfl, Rws.nils _ _ _, Apt.nils _, Nls.nils _⟩
    have := hnew (w2.drew.alloc (.cells (madeCells #[.slice none 0 0] c.ls.length) 29)) (.cells #[.int .i64 n, pu, .int .i64 g.tm, .int .i64 g.t.log, tu, .slice none 0 0, .slice (some ⟨w2.heap.size, 0, none⟩) c.ls.length c.ls.length] 130)
    simpa using this
  have X3 : Ext w ((w2.drew.alloc (.cells (madeCells #[.slice none 0 0] c.ls.length) 29)).alloc (.cells #[.int .i64 n, pu, .int .i64 g.tm, .int .i64 g.t.log, tu, .slice none 0 0, .slice (some ⟨w2.heap.size, 0, none⟩) c.ls.length c.ls.length] 130)) := (X2.drew.alloc _).alloc _
  have X23 : Ext w2 ((w2.drew.alloc (.cells (madeCells #[.slice none 0 0] c.ls.length) 29)).alloc (.cells #[.int .i64 n, pu, .int .i64 g.tm, .int .i64 g.t.log, tu, .slice none 0 0, .slice (some ⟨w2.heap.size, 0, none⟩) c.ls.length c.ls.length] 130)) := (by repeat (with_reducible (first | assumption | exact Ext.refl _ | apply Ext.alloc | apply Ext.drew | apply Ext.drewN)))
  have f0 := (X23.cells.1 _ 0 e).trans e0
  have f1 : w.heap.size < ((w2.drew.alloc (.cells (madeCells #[.slice none 0 0] c.ls.length) 29)).alloc (.cells #[.int .i64 n, pu, .int .i64 g.tm, .int .i64 g.t.log, tu, .slice none 0 0, .slice (some ⟨w2.heap.size, 0, none⟩) c.ls.length c.ls.length] 130)).heap.size := by have := X23.size; omega
  go_wp2_with fail
  have M0' := hid M0
  have HX3 := hid X3
  clear M0 X3 X23 f0 f1
  clear d d0 d1 d2 d3 d4 e e0 e1 X2
  have k1 := HI.le
  have k2 := HI.cap
  go_loopw [27] (fun i wr => ∃ (k : Nat) (sv : Value) (vs us : List Value) (S L : List (List Int)), k ≤ c.xs.length ∧ i = .int .i64 k ∧ Mach w.heap.size (w2.heap.size + 1) wr (w2.heap.size + 1) n pu tu g.tm g.t.log sv (.slice (some ⟨w2.heap.size, 0, none⟩) c.ls.length c.ls.length) vs us S L ∧ Okst c.ls.length g.m (c.xs.drop k) S L ∧ runG n g.m g.f g.tm g.t (c.xs.drop k) S L = c.out g ∧ S.length ≤ k ∧ Ext w wr) (fun i _ => c.xs.length - (intOf i).toNat)
  case atStart => exact ⟨0, _, _, _, _, _, by omega, rfl, M0'.out, by rw [List.drop_zero]; exact Okst.start HD.out, by rw [List.drop_zero]; exact HOUT.out, by simp, HX3.out⟩
  case round =>
    clear M0' HX3
    obtain ⟨k, sv, vs, us, S, L, hk, rfl, M, ok, hrun, hSk, hx⟩ := hrel
    by_cases hlt : k < c.xs.length
    · obtain ⟨b, off, op, s, num, rfl, hb1, hbw, hdrop, hget, io, inn, x0, x1, x2⟩ := HI.at hlt hx hh
      rw [hdrop] at ok hrun
      have hnb : numB ⟨op, s, num⟩ = true := HN.out _ (List.mem_of_getElem? hget)
      have y0 : Ext wr (wr.alloc (.cells #[.int .i64 op, .string s, .int .i64 num] 81)) := (by repeat (with_reducible (first | assumption | exact Ext.refl _ | apply Ext.alloc | apply Ext.drew | apply Ext.drewN)))
      have HC := hid (execute_any (M.ext y0) (HG.out.step (hx.trans y0)) ok hnb (by omega))
      have HK := hid (ok.next (t := g.t) HG.out.hm hnb HG.out.f9 HG.out.tm9)
      have hpq := ok.pops
      have HR := hid hrun
      have HX := hid (hx.trans y0)
      clear M ok hrun hget hdrop hx y0 hnb
      go_wp2_with fail
      refine HC.out.mono ?_
      rintro e w7 ⟨rfl, ⟨sv', vs', us', M'⟩, st⟩
      have HM' := hid M'
      have HS' := hid st
      clear M' st
      go_wp2
      go_roundw
      case rel =>
        refine ⟨k + 1, sv', vs', us', _, _, by omega, by go_num, HM'.out, HK.out, HR.out, ?_, Below.trans HX.out HS'.out.below⟩
        obtain ⟨p, hp1, hp2⟩ := hpq
        unfold nextS
        split
        · rw [List.length_take]; omega
        · rw [List.length_append, List.length_take, List.length_singleton]; omega
      case measure => simp [intOf]; omega
    · obtain rfl : k = c.xs.length := by omega
      rw [List.drop_length] at hrun
      have c6 := cell_of_cells M.box 6
      simp at c6
      have hb := M.lt
      have hrun' : L = c.out g := hrun
      have HM := hid M
      have HR := hid hrun'
      clear M ok hrun hrun'
      go_wp2
      refine bodyPost_ret (v := .tuple #[.slice (some ⟨w2.heap.size, 0, none⟩) c.ls.length c.ls.length, .bool true]) (by simp [results, Tryz.results33, go_sem]) rfl ⟨_, rfl, ?_, hx⟩
      rw [← HR.out]
      have M := HM.out
      exact ⟨us, M.lo', Rws.right M.sl M.rows, (List.pairwise_append.1 M.apt).2.1, M.nls⟩
end Go.Proofs.YtaegmenjgjdimaaGreat
end

section
/- This text proves what the law reads back of a texture that was marked. -/
namespace Go.Proofs.YtaegmenjgjdimaaGreat
open Go.RowKit
end Go.Proofs.YtaegmenjgjdimaaGreat
end

section
/- This text proves what the law reads back of marked textures. -/
namespace Go.Proofs.YtaegmenjgjdimaaGreat
open Go.RowKit
theorem heldRes_mark (n : Nat) : heldRes (upFrom 1 n) 1 = 1 + n := by unfold heldRes; rw [upFrom_length, if_pos rfl]
end Go.Proofs.YtaegmenjgjdimaaGreat
end

section
/- This text holds whole blocks as the walks know them: what a block of cells holds, and what becomes of it. -/
namespace Go.Proofs.YtaegmenjgjdimaaGreat
open Go.RowKit

/-- block g of w holds the cells cs of element type t, and may be written -/
def Blk (w : World) (g : Nat) (t : TypeId) (cs : List Value) : Prop := w.heap[g]? = some (.cells cs.toArray t (0, 0))
theorem Blk.lt {w : World} {g : Nat} {t : TypeId} {cs : List Value} (h : Blk w g t cs) : g < w.heap.size := (Array.getElem?_eq_some_iff.1 h).1
theorem Blk.cell {w : World} {g : Nat} {t : TypeId} {cs : List Value} (h : Blk w g t cs) (i : Nat) {v : Value} (hi : cs[i]? = some v) : w.cell? ⟨g, i, none⟩ = some v := by
  unfold Blk at h
  simp [World.cell?, h, hi]
theorem Blk.free {w : World} {g : Nat} {t : TypeId} {cs : List Value} (h : Blk w g t cs) (i : Nat) : w.frozen? ⟨g, i, none⟩ = false := by
  unfold Blk at h
  simp [World.frozen?, h]
theorem Blk.new (w : World) (t : TypeId) (cs : List Value) : Blk (w.alloc (.cells cs.toArray t)) w.heap.size t cs := by
  show (w.heap.push _)[w.heap.size]? = _
  simp
theorem Blk.of {w w' : World} {g : Nat} {t : TypeId} {cs : List Value} (h : Blk w g t cs) (e : w'.heap[g]? = w.heap[g]?) : Blk w' g t cs := e.trans h
theorem Blk.ext {w w' : World} {g : Nat} {t : TypeId} {cs : List Value} (h : Blk w g t cs) (e : Ext w w') : Blk w' g t cs := h.of (e.block h.lt)
theorem Blk.set {w : World} {g : Nat} {t : TypeId} {cs : List Value} (h : Blk w g t cs) (i : Nat) (v : Value) : Blk (w.setCell ⟨g, i, none⟩ v) g t (cs.set i v) := by
  have hlt := h.lt
  have h' : w.heap[g] = .cells cs.toArray t (0, 0) := by unfold Blk at h; simpa [Array.getElem?_eq_getElem hlt] using h
  show (w.heap.modify g _)[g]? = _
  rw [Array.getElem?_eq_getElem (by simpa using hlt), Array.getElem_modify_self, h']
  simp
theorem Blk.other {w : World} {g : Nat} {t : TypeId} {cs : List Value} (h : Blk w g t cs) {a : Addr} (ne : g ≠ a.block) (v : Value) : Blk (w.setCell a v) g t cs := h.of (Below.heap_setCell _ _ _ _ ne)
theorem Blk.grown {w w' : World} {g : Nat} {t : TypeId} {cs : List Value} {row : Option Nat} (h : Blk w g t cs) (hg : w.grownBy w' row) (ne : some g ≠ row) : Blk w' g t cs := h.of (hg.block g h.lt ne)

theorem OwnInts.grown {lo : Nat} {w w' : World} {v : Value} {xs : List Int} {row : Option Nat} (h : OwnInts lo w v xs) (hg : w.grownBy w' row) (ne : ∀ k, v.ownBlock = some k → some k ≠ row) : OwnInts lo w' v xs := by
  obtain ⟨⟨h1, h2⟩, h3⟩ := h
  refine ⟨⟨h1, ?_⟩, h3⟩
  rcases h2 with hn | ⟨g, cap, cur, rfl, hb, hh, r⟩
  · exact .inl hn
  · exact .inr ⟨g, cap, cur, rfl, hb, by rw [hg.block g ((Array.getElem?_eq_some_iff.1 hh).1) (ne g rfl)]; exact hh, r⟩
theorem OwnInts.setOther {lo : Nat} {w : World} {v : Value} {xs : List Int} (h : OwnInts lo w v xs) {a : Addr} (ne : v.ownBlock ≠ some a.block) (u : Value) : OwnInts lo (w.setCell a u) v xs := ⟨ownsRow_setCell_other h.1 ne u, h.2⟩
theorem OwnInts.fresh0 {lo g : Nat} {w : World} (hl : lo ≤ g) (h : Blk w g 3 []) : OwnInts lo w (.slice (some ⟨g, 0, none⟩) 0 0) [] :=
  ⟨⟨rfl, .inr ⟨g, 0, #[], rfl, hl, h, Nat.le_refl _, Nat.zero_le _, rfl, rfl⟩⟩, fun _ h => by cases h⟩
theorem OwnInts.block {lo : Nat} {w : World} {v : Value} {xs : List Int} (h : OwnInts lo w v xs) {k : Nat} (hk : v.ownBlock = some k) : ∃ cur, w.heap[k]? = some (.cells cur 3 (0, 0)) := by
  obtain ⟨⟨h1, h2⟩, h3⟩ := h
  rcases h2 with ⟨rfl, _⟩ | ⟨g, cap, cur, rfl, hb, hh, r⟩
  · cases hk
  · simp only [Value.ownBlock, Option.some.injEq] at hk
    subst hk
    exact ⟨cur, hh⟩
theorem Ext.gr {w w' : World} (h : Ext w w') (row : Option Nat) : w.grownBy w' row := ⟨h.os, h.tape, h.output, h.size, fun i hi _ => h.block hi⟩
theorem Ext.setNew {w w1 : World} (h : Ext w w1) {b : Nat} (hb : w.heap.size ≤ b) (i : Nat) (u : Value) : Ext w (w1.setCell ⟨b, i, none⟩ u) := h.setCell hb u
end Go.Proofs.YtaegmenjgjdimaaGreat
end

section
/- This text proves what the laws' helper functions over slices of rows do. -/
namespace Go.Proofs.YtaegmenjgjdimaaGreat
open Go.RowKit

/-- v owns, in the blocks from lo up to hi, rows that hold S -/
def SSO (lo hi : Nat) (w : World) (v : Value) (S : List (List Int)) : Prop := ∃ us, w.ownsRow lo 29 1 v us.length us ∧ Rws lo w us S ∧ Apt us ∧ (∀ k, v.ownBlock = some k → k < hi) ∧ ∀ u ∈ us, ∀ k, u.ownBlock = some k → k < hi
theorem Rws.blk {lo : Nat} {w : World} {us : List Value} {S : List (List Int)} (h : Rws lo w us S) : ∀ u ∈ us, ∀ k, u.ownBlock = some k → lo ≤ k ∧ k < w.heap.size := by
  intro u hu k hk
  obtain ⟨i, hi, rfl⟩ := List.getElem_of_mem hu
  have hl := h.len
  exact (h.own i us[i] (S[i]'(by omega)) (by simp [hi]) (by simp [show i < S.length by omega])).lt k hk
theorem OwnSS.o {lo : Nat} {w : World} {v : Value} {S : List (List Int)} (h : OwnSS lo w v S) : SSO lo w.heap.size w v S := by
  obtain ⟨us, h1, h2, h3, -⟩ := h
  exact ⟨us, h1, h2, h3, fun k hk => (World.ownsRow.lt h1 k hk).2, fun u hu k hk => (h2.blk u hu k hk).2⟩
theorem SSO.kp {lo hi : Nat} {w w' : World} {v : Value} {S : List (List Int)} (h : SSO lo hi w v S) (k : Kp lo hi w w') : SSO lo hi w' v S := by
  obtain ⟨us, h1, h2, h3, h4, h5⟩ := h
  refine ⟨us, ⟨h1.1, ?_⟩, ⟨h2.len, fun i u xs hu hx => ?_⟩, h3, h4, h5⟩
  · rcases h1.2 with hn | ⟨g, cap, cur, hv, hb, hg, r⟩
    · exact .inl hn
    · exact .inr ⟨g, cap, cur, hv, hb, by rw [k.2 g hb (h4 g (by rw [hv]; rfl))]; exact hg, r⟩
  · have hown := h2.own i u xs hu hx
    exact (IntsO.kp (hi := hi) ⟨hown, h5 u (List.mem_of_getElem? hu)⟩ k).1
theorem SSO.ss {lo hi : Nat} {w : World} {v : Value} {S : List (List Int)} (h : SSO lo hi w v S) : SS 0 w.heap.size w v S := by
  obtain ⟨us, h1, h2, _⟩ := h
  exact ownsRow.ss h1 h2
theorem SSO.form {lo hi : Nat} {w : World} {v : Value} {S : List (List Int)} (h : SSO lo hi w v S) : ∃ a c, v = .slice a S.length c := by
  obtain ⟨us, h1, h2, _⟩ := h
  obtain ⟨a, c, e⟩ := ownsRow.form h1
  exact ⟨a, c, by rw [e, h2.len]⟩
/-- the number of cells in all rows -/
def tot : List (List Int) → Nat
  | [] => 0
  | x :: r => x.length + tot r
/-- the rows, marked from k on -/
def markS : Int → List (List Int) → List (List Int)
  | _, [] => []
  | k, x :: r => upFrom k x.length :: markS (k + x.length) r
theorem tot_append (a b : List (List Int)) : tot (a ++ b) = tot a + tot b := by
  induction a with
  | nil => simp [tot]
  | cons x r ih => simp [tot, ih]; omega
theorem markS_append (k : Int) (a b : List (List Int)) : markS k (a ++ b) = markS k a ++ markS (k + tot a) b := by
  induction a generalizing k with
  | nil => simp [markS, tot]
  | cons x r ih =>
    simp only [List.cons_append, markS, tot, ih]
    rw [show k + ((x.length + tot r : Nat) : Int) = k + x.length + tot r by omega]
theorem markS_length (k : Int) (a : List (List Int)) : (markS k a).length = a.length := by
  induction a generalizing k with
  | nil => rfl
  | cons x r ih => simp [markS, ih]
theorem tot_take_succ {S : List (List Int)} {j : Nat} (h : j < S.length) : tot (S.take (j + 1)) = tot (S.take j) + S[j].length := by
  rw [List.take_succ_eq_append_getElem h, tot_append]
  simp [tot]
theorem tot_take_le (S : List (List Int)) (j : Nat) : tot (S.take j) ≤ tot S := by
  have := tot_append (S.take j) (S.drop j)
  rw [List.take_append_drop] at this
  omega
theorem markS_take_succ {S : List (List Int)} {j : Nat} (k : Int) (h : j < S.length) : markS k (S.take (j + 1)) = markS k (S.take j) ++ [upFrom (k + tot (S.take j)) S[j].length] := by
  rw [List.take_succ_eq_append_getElem h, markS_append]
  rfl
theorem markS_step {S : List (List Int)} {j : Nat} (k : Int) (h : j < S.length) : (markS k (S.take j) ++ S.drop j).set j (upFrom (k + tot (S.take j)) S[j].length) = markS k (S.take (j + 1)) ++ S.drop (j + 1) := by
  have hl : (markS k (S.take j)).length = j := by rw [markS_length, List.length_take]; omega
  rw [List.set_append_right _ _ (by omega), hl, Nat.sub_self, List.drop_eq_getElem_cons h, List.set_cons_zero, markS_take_succ k h, List.append_assoc]
  rfl
theorem Apt.ne {us : List Value} (h : Apt us) {i j : Nat} {u v : Value} (hi : us[i]? = some u) (hj : us[j]? = some v) (ne : i ≠ j) : ∀ k, u.ownBlock = some k → v.ownBlock ≠ some k := by
  obtain ⟨hi1, hi2⟩ := List.getElem?_eq_some_iff.1 hi
  obtain ⟨hj1, hj2⟩ := List.getElem?_eq_some_iff.1 hj
  have hp := List.pairwise_iff_getElem.1 h
  subst hi2 hj2
  intro k hk e
  rcases Nat.lt_or_gt_of_ne ne with hlt | hlt
  · exact hp i j hi1 hj1 hlt k hk e
  · exact hp j i hj1 hi1 hlt k e hk
theorem Rws.marked {lo : Nat} {w w' : World} {us : List Value} {T : List (List Int)} (h : Rws lo w us T) (ha : Apt us) {j : Nat} {u : Value} {xs : List Int} (hj : us[j]? = some u) (hv : OwnInts lo w' u xs) (hg : w.grownBy w' u.ownBlock) : Rws lo w' us (T.set j xs) := by
  refine ⟨by rw [List.length_set]; exact h.len, fun i v ys h1 h2 => ?_⟩
  by_cases hij : i = j
  · subst hij
    rw [h1] at hj
    injection hj with hj
    subst hj
    rw [List.getElem?_set] at h2
    rw [if_pos rfl] at h2
    split at h2
    · injection h2 with h2
      exact h2 ▸ hv
    · cases h2
  · rw [List.getElem?_set_ne (by omega)] at h2
    refine (h.own i v ys h1 h2).grown hg fun k hk e => ?_
    exact ha.ne h1 hj hij k hk e.symm
end Go.Proofs.YtaegmenjgjdimaaGreat
end

section
/- This text proves the reference's derivatives of a row. -/
namespace Go.Proofs.YtaegmenjgjdimaaGreat
open Go.RowKit

theorem diff_at {n j i : Nat} (hi : i < n) : (j * n + i) % n = i ∧ (j * n + i) / n = j := by
  constructor
  · rw [Nat.mul_comm, Nat.mul_add_mod]; exact Nat.mod_eq_of_lt hi
  · rw [Nat.mul_comm, Nat.mul_add_div (by omega), Nat.div_eq_of_lt hi, Nat.add_zero]
/-- the derivative along a row, a step ahead or a step back -/
theorem dCol {xs : List Int} {n j i : Nat} (hi : i < n) (hn : n ≠ 1) : dVal xs n false (j * n + i) = if i + 1 < n then satI (xs.getD (j * n + (i + 1)) 0 - xs.getD (j * n + i) 0) else satI (xs.getD (j * n + i) 0 - xs.getD (j * n + (i - 1)) 0) := by
  obtain ⟨h1, h2⟩ := diff_at (j := j) hi
  unfold dVal dAt dStep
  rw [if_neg hn]
  simp only [Bool.false_eq_true, if_false, h1]
  by_cases h : i + 1 < n
  · rw [if_pos (by omega), if_pos h, Nat.add_assoc]
  · rw [if_neg (by omega), if_neg h, Nat.add_sub_assoc (by omega)]
theorem dRow {xs : List Int} {n j i : Nat} (hi : i < n) (hn : n ≠ 1) : dVal xs n true (j * n + i) = if j + 1 < n then satI (xs.getD (j * n + n + i) 0 - xs.getD (j * n + i) 0) else satI (xs.getD (j * n + i) 0 - xs.getD (j * n - n + i) 0) := by
  obtain ⟨h1, h2⟩ := diff_at (j := j) hi
  unfold dVal dAt dStep
  rw [if_neg hn]
  simp only [if_true, h2]
  by_cases h : j + 1 < n
  · rw [if_pos (by omega), if_pos h, show j * n + i + n = j * n + n + i by omega]
  · rw [if_neg (by omega), if_neg h]
    have hj : 1 ≤ j ∨ j = 0 := by omega
    rcases hj with hj | hj
    · have : 1 * n ≤ j * n := Nat.mul_le_mul_right _ hj
      rw [show j * n + i - n = j * n - n + i by omega]
    · subst hj
      exact absurd (by omega) hn
theorem OwnInts.take_snoc {lo : Nat} {w : World} {v : Value} {D : List Int} {k : Nat} {x : Int} (h : OwnInts lo w v (D.take k ++ [x])) (hk : k < D.length) (hx : D[k] = x) : OwnInts lo w v (D.take (k + 1)) := by
  rw [List.take_succ_eq_append_getElem hk, hx]
  exact h
end Go.Proofs.YtaegmenjgjdimaaGreat
end

section
/- This text proves the reference's rows of an instruction without operands. -/
namespace Go.Proofs.YtaegmenjgjdimaaGreat
open Go.RowKit

/-- a box of one grid -/
structure GBox (w : World) (B : Nat) (n : Int) (pu : Value) (tm lg : Int) (tu : Value) : Prop where
  lt : B < w.heap.size
  c0 : w.cell? ⟨B, 0, none⟩ = some (.int .i64 n)
  c1 : w.cell? ⟨B, 1, none⟩ = some pu
  c2 : w.cell? ⟨B, 2, none⟩ = some (.int .i64 tm)
  c3 : w.cell? ⟨B, 3, none⟩ = some (.int .i64 lg)
  c4 : w.cell? ⟨B, 4, none⟩ = some tu
theorem GBox.made (w : World) (n : Int) (pu : Value) (tm lg : Int) (tu : Value) (ty : TypeId) : GBox (w.alloc (.cells #[.int .i64 n, pu, .int .i64 tm, .int .i64 lg, tu] ty)) w.heap.size n pu tm lg tu := ⟨by simp, by simp [go_sem], by simp [go_sem], by simp [go_sem], by simp [go_sem], by simp [go_sem]⟩
theorem GBox.ext {w w' : World} {B : Nat} {n : Int} {pu : Value} {tm lg : Int} {tu : Value} (h : GBox w B n pu tm lg tu) (e : Ext w w') : GBox w' B n pu tm lg tu := by
  have := e.size
  have h0 := h.lt
  obtain ⟨a, b⟩ := e.cells
  exact ⟨by omega, (a B _ h0).trans h.c0, (a B _ h0).trans h.c1, (a B _ h0).trans h.c2, (a B _ h0).trans h.c3, (a B _ h0).trans h.c4⟩
end Go.Proofs.YtaegmenjgjdimaaGreat
end

section
/- This text proves the reference's rows of an instruction with operands. -/
namespace Go.Proofs.YtaegmenjgjdimaaGreat
open Go.RowKit

end Go.Proofs.YtaegmenjgjdimaaGreat
end

section
/- This text proves the reference's rows of all instructions with operands. -/
namespace Go.Proofs.YtaegmenjgjdimaaGreat
open Go.RowKit

/-- an operation at a column -/
def opV (num : Int) (x : List Int) : Int := opI num (x.getD 0 0) (x.getD (if num = 3 then 0 else 1) 0)
theorem op_row {m : Nat} {num : Int} {S : List (List Int)} {a b : List Int} (ha : S[0]? = some a) (hb : S[if num = 3 then 0 else 1]? = some b) (h1 : a.length = m) (h2 : b.length = m) : ((List.range m).map fun k => satI (opV num (colOf S k))) = List.zipWith (arithI num) a b := by
  apply List.ext_getElem?
  intro i
  by_cases hi : i < m
  · have e1 : (colOf S i).getD 0 0 = a[i]'(by omega) := by
      unfold colOf
      rw [List.getD, List.getElem?_map, ha]
      exact getD_at a i (by omega)
    have e2 : (colOf S i).getD (if num = 3 then 0 else 1) 0 = b[i]'(by omega) := by
      unfold colOf
      rw [List.getD, List.getElem?_map, hb]
      exact getD_at b i (by omega)
    rw [List.getElem?_map, List.getElem?_range hi, List.getElem?_eq_getElem (by simp; omega), List.getElem_zipWith]
    simp only [Option.map_some, Option.some.injEq]
    unfold opV arithI
    rw [e1, e2]
  · rw [List.getElem?_eq_none (by simp; omega), List.getElem?_eq_none (by simp; omega)]
end Go.Proofs.YtaegmenjgjdimaaGreat
end

section
/- This text proves the reference's RunGrid where it hands back no rows, and the rows of its instructions. -/
namespace Go.Proofs.YtaegmenjgjdimaaGreat
open Go.RowKit

end Go.Proofs.YtaegmenjgjdimaaGreat
end

section
/- This text proves the reference's RunGrid where it runs. -/
namespace Go.Proofs.YtaegmenjgjdimaaGreat
open Go.RowKit

/-- the reference's memory of the machine: the stack sv (headers vs) holds S, the locals lv (headers us) hold L -/
structure Mst (lo lo2 : Nat) (w : World) (sv lv : Value) (vs us : List Value) (S L : List (List Int)) : Prop where
  so : w.ownsRow lo2 29 1 sv vs.length vs
  lo' : w.ownsRow lo 29 1 lv us.length us
  sep : ∀ k, lv.ownBlock = some k → k < lo2
  hl : lo ≤ lo2
  hl2 : lo2 ≤ w.heap.size
  sr : Rws lo w vs S
  lr : Rws lo w us L
theorem Mst.ext {lo lo2 : Nat} {w w' : World} {sv lv : Value} {vs us : List Value} {S L : List (List Int)} (M : Mst lo lo2 w sv lv vs us S L) (e : Ext w w') : Mst lo lo2 w' sv lv vs us S L := by
  have hg : w.grownBy w' none := ⟨Below.os e, Below.tape e, Below.output e, e.size, fun k hk _ => e.block hk⟩
  exact ⟨M.so.kept hg (by cases sv.ownBlock <;> simp), M.lo'.kept hg (by cases lv.ownBlock <;> simp), M.sep, M.hl, Nat.le_trans M.hl2 e.size, M.sr.keepI e.keepI, M.lr.keepI e.keepI⟩

theorem Mst.push {lo lo2 : Nat} {w w' : World} {sv lv v' y : Value} {vs us : List Value} {S L : List (List Int)} {r : List Int} (M : Mst lo lo2 w sv lv vs us S L) (hv' : w'.ownsRow lo2 29 1 v' (vs.length + 1) (vs ++ [y])) (hg : w.grownBy w' sv.ownBlock) (hy : OwnInts lo w y r) :
    Mst lo lo2 w' v' lv (vs ++ [y]) us (S ++ [r]) L ∧ Below lo w w' := by
  have hsl := World.ownsRow.lt M.so
  have kk : KeepI w w' := KeepI.grown hg (fun k cur fr hk => ownsRow.int M.so (by decide) k cur fr hk)
  refine ⟨⟨by simpa using hv', M.lo'.kept hg ?_, M.sep, M.hl, Nat.le_trans M.hl2 hg.size, (M.sr.keepI kk).snoc (hy.keepI kk), M.lr.keepI kk⟩, Below.grown (Below.refl _ _) hg (Nat.le_trans M.hl M.hl2) (fun k hk => by have := (hsl k hk).1; have := M.hl; omega)⟩
  cases hk : lv.ownBlock with
  | none => exact .inl rfl
  | some k => exact .inr (fun e => by have h1 := M.sep k hk; have h2 := (hsl k e.symm).1; omega)
theorem Mst.shrink {lo lo2 g cap : Nat} {w : World} {lv : Value} {vs us : List Value} {S L : List (List Int)} (M : Mst lo lo2 w (.slice (some ⟨g, 0, none⟩) vs.length cap) lv vs us S L) (q : Nat) (hq : q ≤ vs.length) : Mst lo lo2 w (.slice (some ⟨g, 0, none⟩) q cap) lv (vs.take q) us (S.take q) L := by
  have e : (vs.take q).length = q := by simp; omega
  exact ⟨by rw [e]; exact ownsRow.shrink M.so hq, M.lo', M.sep, M.hl, M.hl2, M.sr.take q, M.lr⟩
theorem Mst.store {lo lo2 lb lc : Nat} {w : World} {sv y : Value} {vs us : List Value} {S L : List (List Int)} {r : List Int} (M : Mst lo lo2 w sv (.slice (some ⟨lb, 0, none⟩) us.length lc) vs us S L) (j : Nat) (hy : OwnInts lo w y r) :
    Mst lo lo2 (w.setCell ⟨lb, j, none⟩ y) sv (.slice (some ⟨lb, 0, none⟩) us.length lc) vs (us.set j y) S (L.set j r) ∧ Below lo w (w.setCell ⟨lb, j, none⟩ y) := by
  have hsto := World.ownsRow.stored M.lo' j y
  have kk : KeepI w (w.setCell ⟨lb, j, none⟩ y) := KeepI.setCell _ (fun cur fr => ownsRow.int M.lo' (by decide) lb cur fr rfl)
  have hsl := World.ownsRow.lt M.so
  have hll := World.ownsRow.lt M.lo' lb rfl
  have hl2 : (us.set j y).length = us.length := by simp
  refine ⟨⟨M.so.kept hsto.2 ?_, by rw [hl2]; exact hsto.1, M.sep, M.hl, by have := M.hl2; simpa using this, M.sr.keepI kk, (M.lr.keepI kk).set j (hy.keepI kk)⟩, Below.setCell (Below.refl _ _) hll.1 _⟩
  cases hk : sv.ownBlock with
  | none => exact .inl rfl
  | some k => exact .inr (fun e => by injection e with e; have h1 := M.sep lb rfl; have h2 := (hsl k hk).1; omega)
theorem ownsRow.size {w : World} {lo : Nat} {e : TypeId} {n : Nat} {v : Value} {xs : List Value} (h : w.ownsRow lo e 1 v n xs) : xs.length = n := by have := h.1; omega

end Go.Proofs.YtaegmenjgjdimaaGreat
end

section
/- This text proves the reference's RunGrid where it hands back no rows. -/
namespace Go.Proofs.YtaegmenjgjdimaaGreat
open Go.RowKit

end Go.Proofs.YtaegmenjgjdimaaGreat
end

section
/- This text holds RunGrid's contracts in one form, as the law wants them. -/
namespace Go.Proofs.YtaegmenjgjdimaaGreat
open Go.RowKit

theorem SS.kp {lo hi : Nat} {w w' : World} {v : Value} {S : List (List Int)} (h : SS lo hi w v S) (k : Kp lo hi w w') : SS lo hi w' v S := h.same k.same
/-- what RunGrid hands back -/
def Cod.res (c : Cod) (g : Grd) : List (List Int) := if (c.runB && g.okB) = true then c.out g else []
theorem OwnSS.nil (lo : Nat) (w : World) : OwnSS lo w (.slice none 0 0) [] := ⟨[], World.ownsRow_nil _ _ _ _, ⟨rfl, fun i v xs h => by simp at h⟩, List.Pairwise.nil, fun j u h => by simp at h⟩
theorem SS.nil (hi : Nat) (w : World) : SS 0 hi w (.slice none 0 0) [] := ⟨none, 0, rfl, Nat.le_refl _, by unfold maxLen; omega, fun i xs h => by simp at h⟩
theorem iRunGrid_one {b : Bool} {S : List (List Int)} (lo hi lo' hi' : Nat) (v u : Value) (c : Cod) (g : Grd) (w : World) (hb : (c.runB && g.okB) = b) (hS : c.res g = S) (hv : c.R lo hi w v) (hh : hi ≤ w.heap.size) (hu : g.R lo' hi' w u) (hh' : hi' ≤ w.heap.size) (hL : c.small) :
    Calls Tryz.prog 33 #[v, u] w fun e w' => ∃ r, e = .returned (.tuple #[r, .bool b]) ∧ OwnSS w.heap.size w' r S ∧ Ext w w' := by
  have hL' : c.ls.length ≤ 2000000 := by have := hL.2; omega
  subst hS
  unfold Cod.res
  cases b
  · rw [hb, if_neg (by decide)]
    exact (iRunGrid_no lo hi lo' hi' v u c g w hv hh hu hh' hL' hb).mono fun e w' ⟨h1, h2⟩ => ⟨_, h1, OwnSS.nil _ _, h2⟩
  · rw [hb, if_pos rfl]
    exact iRunGrid_yes lo hi lo' hi' v u c g w hv hh hu hh' hL' hb
theorem runG_small {L0 n m : Nat} {f : Nat → Int} {tm : Int} {t : Tex} (hm : n * n = m) (hf : ∀ i, i < m * 5 → S9 (f i)) (ht : S9 tm) :
    ∀ (xs : List Ins) (S L : List (List Int)), (∀ x ∈ xs, numB x = true) → Okst L0 m xs S L → (runG n m f tm t xs S L).length = L0 ∧ ∀ r ∈ runG n m f tm t xs S L, r.length ≤ m := by
  intro xs
  induction xs with
  | nil =>
    intro S L _ h
    refine ⟨h.len, fun r hr => ?_⟩
    obtain ⟨d, st, _, h2⟩ := h.run
    obtain ⟨j, hj⟩ := List.mem_iff_getElem?.1 hr
    rcases h2 j r hj with ⟨_, h3⟩ | ⟨_, h3⟩
    · have := h3.1; omega
    · rw [h3]; simp
  | cons x r ih =>
    intro S L hn h
    exact ih _ _ (fun y hy => hn y (List.mem_cons_of_mem _ hy)) (h.next hm (hn x List.mem_cons_self) hf ht)
theorem tot_le (S : List (List Int)) (m : Nat) (h : ∀ r ∈ S, r.length ≤ m) : tot S ≤ S.length * m := by
  induction S with
  | nil => simp [tot]
  | cons x r ih =>
    have h1 := h x List.mem_cons_self
    have h2 := ih fun y hy => h y (List.mem_cons_of_mem _ hy)
    simp only [tot, List.length_cons, Nat.add_mul, Nat.one_mul]
    omega
theorem Cod.res_tot {c : Cod} {g : Grd} (hc : c.small) : tot (c.res g) ≤ 4503599627370496 := by
  unfold Cod.res
  split
  · rename_i h
    simp only [Bool.and_eq_true] at h
    obtain ⟨h1, h2⟩ := h
    obtain ⟨n, hn, hm, hn1, hn8, ht, htm, hf⟩ := g.parts h2
    unfold Cod.runB at h1
    simp only [Bool.and_eq_true, List.all_eq_true] at h1
    have hnum := h1.2
    have hd := h1.1
    have key := runG_small (t := g.t) (f := g.f) (tm := g.tm) hm hf htm c.xs [] (List.replicate c.ls.length []) hnum (Okst.start hd)
    have e : c.out g = runG n g.m g.f g.tm g.t c.xs [] (List.replicate c.ls.length []) := by unfold Cod.out; rw [hn]; rfl
    rw [e]
    have h5 := tot_le _ _ key.2
    rw [key.1] at h5
    have h6 : n * n ≤ 8 * 8 := Nat.mul_le_mul hn8 hn8
    have h7 := Nat.mul_le_mul hc.2 (show g.m ≤ 64 by omega)
    omega
  · exact Nat.zero_le _
end Go.Proofs.YtaegmenjgjdimaaGreat
end

section
/- This text proves the search of a local by its name, of both sides. -/
namespace Go.Proofs.YtaegmenjgjdimaaGreat
open Go.RowKit

/-- the first place of the name s in ls, -1: none -/
def ixL (s : List UInt8) : List ByteArray → Int
  | [] => -1
  | x :: r => if x.toList = s then 0 else if ixL s r < 0 then -1 else ixL s r + 1
theorem ixL_bd (s : List UInt8) : ∀ ls, -1 ≤ ixL s ls ∧ ixL s ls < ls.length := by
  intro ls
  induction ls with
  | nil => simp [ixL]
  | cons x r ih =>
    simp only [ixL, List.length_cons]
    split
    · omega
    · split <;> omega
theorem ixL_at {s : List UInt8} : ∀ {ls : List ByteArray} {k : Nat} {y : ByteArray}, ls[k]? = some y → y.toList = s → (∀ j z, j < k → ls[j]? = some z → z.toList ≠ s) → ixL s ls = k := by
  intro ls
  induction ls with
  | nil => intro k y h; simp at h
  | cons x r ih =>
    intro k y h1 h2 h3
    cases k with
    | zero =>
      simp at h1
      subst h1
      simp [ixL, h2]
    | succ k =>
      have h0 := h3 0 x (by omega) rfl
      have := ih (k := k) (by simpa using h1) h2 (fun j z hj hz => h3 (j + 1) z (by omega) (by simpa using hz))
      simp only [ixL, if_neg h0, this]
      rw [if_neg (by omega)]
      simp
theorem ixL_no {s : List UInt8} : ∀ {ls : List ByteArray}, (∀ j z, j < ls.length → ls[j]? = some z → z.toList ≠ s) → ixL s ls = -1 := by
  intro ls
  induction ls with
  | nil => intro _; rfl
  | cons x r ih =>
    intro h
    have h0 := h 0 x (by simp) rfl
    have := ih (fun j z hj hz => h (j + 1) z (by simp; omega) (by simpa using hz))
    simp [ixL, if_neg h0, this]
set_option maxHeartbeats 1600000 in
theorem iIndex_any (lo hi : Nat) (u : Value) (ls : List ByteArray) (s : ByteArray) (w : World) (hu : Strs lo hi w u ls) (hl : ls.length ≤ 2000000) :
    Calls Tryz.prog 34 #[u, .string s] w fun e w' => e = .returned (.int .i64 (ixL s.toList ls)) ∧ w = w' := by
  obtain ⟨a, cap, rfl, HU⟩ := hu.open
  have l1 := HU.le
  have l2 := HU.cap
  clear hu
  go_enter Tryz.func34, Tryz.ntmps34
  go_wp2
  go_loopw [8] (fun i wr => ∃ k : Nat, k ≤ ls.length ∧ i = .int .i64 k ∧ wr = w ∧ ∀ j z, j < k → ls[j]? = some z → z.toList ≠ s.toList) (fun i _ => ls.length - (intOf i).toNat)
  case atStart => exact ⟨0, by omega, rfl, rfl, fun j x h => by omega⟩
  case round =>
    obtain ⟨k, hk, rfl, rfl, hno⟩ := hrel
    by_cases hlt : k < ls.length
    · obtain ⟨b, off, rfl, hb1, hb2, hc⟩ := HU.at hlt
      have hget : ls[k]? = some ls[k] := by simp [hlt]
      obtain ⟨y, hy⟩ : ∃ y, ls[k] = y := ⟨_, rfl⟩
      rw [hy] at hc hget
      clear hy
      by_cases he : (s.toList == y.toList) = true
      · have hv := hid (ixL_at hget (eq_of_beq he).symm hno)
        clear hno hget
        go_wp2
        go_ret
        exact ⟨by first | (rw [hv.out]; done) | (rw [hv.out]; rfl), rfl⟩
      · have HN : Hid (∀ j z, j < k + 1 → ls[j]? = some z → z.toList ≠ s.toList) := hid (fun j z hj hz => by
          by_cases hjk : j = k
          · subst hjk
            rw [hget] at hz
            injection hz with hz
            subst hz
            intro e
            exact he (by rw [e]; simp)
          · exact hno j z (by omega) hz)
        clear hno hget
        go_wp2
        go_roundw
        case rel => exact ⟨k + 1, by omega, by go_num, by trivial, HN.out⟩
        case measure => simp [intOf]; omega
    · obtain rfl : k = ls.length := by omega
      have hv := hid (ixL_no hno)
      clear hno
      go_wp2
      go_ret
      exact ⟨by first | (rw [hv.out]; done) | (rw [hv.out]; rfl), rfl⟩
end Go.Proofs.YtaegmenjgjdimaaGreat
end

section
/- This text says what ShadeGrid hands back, case by case, and opens the rows of RunGrid's result. -/
namespace Go.Proofs.YtaegmenjgjdimaaGreat
open Go.RowKit

theorem iIndex_val {i : Int} {s : ByteArray} {ls : List ByteArray} (h : ixL s.toList ls = i) (lo hi : Nat) (u : Value) (w : World) (hu : Strs lo hi w u ls) (hl : ls.length ≤ 2000000) :
    Calls Tryz.prog 34 #[u, .string s] w fun e w' => e = .returned (.int .i64 i) ∧ w = w' := h ▸ iIndex_any lo hi u ls s w hu hl
def colorIx (ls : List ByteArray) : Int := ixL (⟨#[99, 111, 108, 111, 114]⟩ : ByteArray).toList ls
def alphaIx (ls : List ByteArray) : Int := ixL (⟨#[97, 108, 112, 104, 97]⟩ : ByteArray).toList ls
/-- what ShadeGrid hands back -/
def Cod.shade (c : Cod) (g : Grd) : List Int × List Int × Bool :=
  if (c.runB && g.okB) = true ∧ 0 ≤ colorIx c.ls ∧ (c.res g).getD (colorIx c.ls).toNat [] ≠ [] ∧ (alphaIx c.ls < 0 ∨ (c.res g).getD (alphaIx c.ls).toNat [] ≠ []) then
    (((c.res g).getD (colorIx c.ls).toNat []).map col, if alphaIx c.ls < 0 then List.replicate g.m 256 else ((c.res g).getD (alphaIx c.ls).toNat []).map col, true)
  else ([], [], false)
theorem Cod.res_small {c : Cod} {g : Grd} (h : (c.runB && g.okB) = true) : (c.res g).length = c.ls.length ∧ ∀ r ∈ c.res g, r.length ≤ 64 := by
  unfold Cod.res
  rw [if_pos h]
  simp only [Bool.and_eq_true] at h
  obtain ⟨h1, h2⟩ := h
  obtain ⟨n, hn, hm, hn1, hn8, ht, htm, hf⟩ := g.parts h2
  unfold Cod.runB at h1
  simp only [Bool.and_eq_true, List.all_eq_true] at h1
  have key := runG_small (t := g.t) (f := g.f) (tm := g.tm) hm hf htm c.xs [] (List.replicate c.ls.length []) h1.2 (Okst.start h1.1)
  have e : c.out g = runG n g.m g.f g.tm g.t c.xs [] (List.replicate c.ls.length []) := by unfold Cod.out; rw [hn]; rfl
  rw [e]
  have h6 : n * n ≤ 8 * 8 := Nat.mul_le_mul hn8 hn8
  exact ⟨key.1, fun r hr => by have := key.2 r hr; omega⟩
theorem shade_neg {P : Prop} [Decidable P] {A : List Int × List Int × Bool} {X Y : List Int} {b : Bool} (h : (if P then A else ([], [], false)) = (X, Y, b)) (hP : ¬P) : X = [] ∧ Y = [] ∧ b = false := by
  rw [if_neg hP] at h
  simp only [Prod.mk.injEq] at h
  exact ⟨h.1.symm, h.2.1.symm, h.2.2.symm⟩
/-- the cases of ShadeGrid -/
structure ShCases (m : Nat) (R : Bool) (S : List (List Int)) (i j : Int) (X Y : List Int) (b : Bool) : Prop where
  all : (R = false ∧ X = [] ∧ Y = [] ∧ b = false) ∨
    (R = true ∧ i = -1 ∧ X = [] ∧ Y = [] ∧ b = false) ∨
    (R = true ∧ ∃ k : Nat, i = k ∧ k ≤ 2000000 ∧ S[k]? = some [] ∧ X = [] ∧ Y = [] ∧ b = false) ∨
    (R = true ∧ ∃ (k : Nat) (r : List Int), i = k ∧ k ≤ 2000000 ∧ S[k]? = some r ∧ r ≠ [] ∧ r.length ≤ 64 ∧
      ((∃ l : Nat, j = l ∧ l ≤ 2000000 ∧ S[l]? = some [] ∧ X = [] ∧ Y = [] ∧ b = false) ∨ (j = -1 ∧ X = r.map col ∧ Y = List.replicate m 256 ∧ b = true) ∨
        ∃ (l : Nat) (q : List Int), j = l ∧ l ≤ 2000000 ∧ S[l]? = some q ∧ q ≠ [] ∧ q.length ≤ 64 ∧ X = r.map col ∧ Y = q.map col ∧ b = true))
theorem shade_cases {c : Cod} {g : Grd} {R : Bool} {S : List (List Int)} {i j : Int} {X Y : List Int} {b : Bool} (hL : c.small) (hs : c.shade g = (X, Y, b)) (eR : (c.runB && g.okB) = R) (eS : c.res g = S) (ei : colorIx c.ls = i) (ej : alphaIx c.ls = j) : ShCases g.m R S i j X Y b := by
  have bi := ixL_bd (⟨#[99, 111, 108, 111, 114]⟩ : ByteArray).toList c.ls
  have bj := ixL_bd (⟨#[97, 108, 112, 104, 97]⟩ : ByteArray).toList c.ls
  have hl := hL.2
  rw [show ixL (⟨#[99, 111, 108, 111, 114]⟩ : ByteArray).toList c.ls = i from ei] at bi
  rw [show ixL (⟨#[97, 108, 112, 104, 97]⟩ : ByteArray).toList c.ls = j from ej] at bj
  unfold Cod.shade at hs
  rw [eR, eS, ei, ej] at hs
  refine ⟨?_⟩
  cases R with
  | false => exact .inl ⟨rfl, shade_neg hs (fun h => by cases h.1)⟩
  | true =>
    right
    have hz := Cod.res_small eR
    rw [eS] at hz
    by_cases h1 : i < 0
    · exact .inl ⟨rfl, by omega, shade_neg hs (fun h => by have := h.2.1; omega)⟩
    · right
      obtain ⟨k, rfl⟩ : ∃ k : Nat, i = k := ⟨i.toNat, by omega⟩
      simp only [Int.toNat_natCast] at hs
      have hk : k < S.length := by omega
      have gk : S.getD k [] = S[k] := by simp [List.getD, hk]
      have sk : S[k]? = some S[k] := by simp [hk]
      rw [gk] at hs
      by_cases h2 : S[k] = []
      · exact .inl ⟨rfl, k, rfl, by omega, h2 ▸ sk, shade_neg hs (fun h => h.2.2.1 h2)⟩
      · refine .inr ⟨rfl, k, S[k], rfl, by omega, sk, h2, hz.2 _ (List.getElem_mem hk), ?_⟩
        by_cases h3 : j < 0
        · rw [if_pos ⟨by trivial, by omega, h2, .inl h3⟩, if_pos h3] at hs
          simp only [Prod.mk.injEq] at hs
          exact .inr (.inl ⟨by omega, hs.1.symm, hs.2.1.symm, hs.2.2.symm⟩)
        · obtain ⟨l, rfl⟩ : ∃ l : Nat, j = l := ⟨j.toNat, by omega⟩
          simp only [Int.toNat_natCast] at hs
          have hl' : l < S.length := by omega
          have gl : S.getD l [] = S[l] := by simp [List.getD, hl']
          have sl : S[l]? = some S[l] := by simp [hl']
          rw [gl] at hs
          by_cases h4 : S[l] = []
          · exact .inl ⟨l, rfl, by omega, h4 ▸ sl, shade_neg hs (fun h => by rcases h.2.2.2 with h | h; exact h3 h; exact h h4)⟩
          · rw [if_pos ⟨by trivial, by omega, h2, .inr h4⟩, if_neg h3] at hs
            simp only [Prod.mk.injEq] at hs
            exact .inr (.inr ⟨l, S[l], rfl, by omega, sl, h4, hz.2 _ (List.getElem_mem hl'), hs.1.symm, hs.2.1.symm, hs.2.2.symm⟩)
/-- the rows of a result of the program's RunGrid -/
theorem OwnSS.open1 {lo : Nat} {w : World} {v : Value} {S : List (List Int)} (h : OwnSS lo w v S) (hn : 1 ≤ S.length) : ∃ b cap, v = .slice (some ⟨b, 0, none⟩) S.length cap ∧ b < w.heap.size ∧ S.length ≤ cap ∧ cap ≤ 9223372036854775807 ∧ ∀ k r, S[k]? = some r → ∃ ru, w.cell? ⟨b, k, none⟩ = some ru ∧ OwnInts lo w ru r ∧ (r = [] → ru = .slice none 0 0) := by
  obtain ⟨us, h1, h2, h3, h4⟩ := h
  have hl := h2.len
  obtain ⟨b, cap, rfl, hb1, hb2⟩ := ownsRow.form1 h1 (by omega)
  obtain ⟨k1, k2⟩ := ownsRow.caps h1
  refine ⟨b, cap, by rw [hl], hb2, by omega, k2, fun k r hr => ?_⟩
  have hk : k < us.length := by have := (List.getElem?_eq_some_iff.1 hr).1; omega
  have hu : us[k]? = some us[k] := by simp [hk]
  refine ⟨us[k], ?_, h2.own k us[k] r hu hr, fun e => h4 k us[k] hu (e ▸ hr)⟩
  have := World.ownsRow.cellAt h1 k (by omega)
  rw [hu] at this
  exact this
theorem OwnInts.someAt {lo : Nat} {w : World} {v : Value} {xs : List Int} (h : OwnInts lo w v xs) (hx : xs ≠ []) : ∃ g c, v = .slice (some ⟨g, 0, none⟩) xs.length c ∧ g < w.heap.size := by
  rcases h.1.2 with ⟨rfl, h4⟩ | ⟨g, cap, cur, rfl, hb, hg, hc, hm, hs, ht⟩
  · exact absurd (List.length_eq_zero_iff.1 h4) hx
  · exact ⟨g, cap, rfl, (Array.getElem?_eq_some_iff.1 hg).1⟩
theorem IntsO.nil (lo hi : Nat) (w : World) : IntsO lo hi w (.slice none 0 0) [] := ⟨⟨World.ownsRow_nil _ _ _ _, fun x h => by cases h⟩, fun k h => by cases h⟩
theorem IntsO.high {lo hi hi' : Nat} {w : World} {v : Value} {xs : List Int} (h : IntsO lo hi w v xs) (hh : hi ≤ hi') : IntsO lo hi' w v xs := ⟨h.1, fun k hk => by have := h.2 k hk; omega⟩
end Go.Proofs.YtaegmenjgjdimaaGreat
end

section
/- This text proves the program's ShadeGrid. -/
namespace Go.Proofs.YtaegmenjgjdimaaGreat
open Go.RowKit

theorem iConstant_g {g : Grd} {n : Nat} (hg : g.n = n) (c : Int) (g1 : Value) (g2 g3 : Int) (g4 : Value) (w : World) (hm : (n : Int) * n = g.m) (hn : g.m ≤ 1000000) (hc : I64 c) :
    Calls Tryz.prog 36 #[.int .i64 c, .agg #[.int .i64 g.n, g1, .int .i64 g2, .int .i64 g3, g4]] w fun e w' => ∃ v, e = .returned v ∧ OwnInts w.heap.size w' v (List.replicate g.m c) ∧ Ext w w' := by
  rw [hg]
  exact iConstant_any c n g.m g1 g2 g3 g4 w hm hn hc
theorem shade_none {w w' : World} (h : Ext w w') : ∃ r1 r2, Ending.returned (.tuple #[.slice none 0 0, .slice none 0 0, .bool false]) = .returned (.tuple #[r1, r2, .bool false]) ∧ ∃ h, w.heap.size ≤ h ∧ h ≤ w'.heap.size ∧ IntsO w.heap.size h w' r1 [] ∧ IntsO h w'.heap.size w' r2 [] ∧ Ext w w' :=
  ⟨_, _, rfl, w'.heap.size, h.size, Nat.le_refl _, IntsO.nil _ _ _, IntsO.nil _ _ _, h⟩
set_option maxRecDepth 20000 in
set_option maxHeartbeats 6400000 in
theorem iShadeGrid_any (lo hi lo' hi' : Nat) (v u : Value) (c : Cod) (g : Grd) (w : World) {X Y : List Int} {b : Bool} (hs : c.shade g = (X, Y, b)) (hv : c.R lo hi w v) (hh : hi ≤ w.heap.size) (hu : g.R lo' hi' w u) (hh' : hi' ≤ w.heap.size) (hL : c.small) :
    Calls Tryz.prog 13 #[v, u] w fun e w' => ∃ r1 r2, e = .returned (.tuple #[r1, r2, .bool b]) ∧ ∃ h, w.heap.size ≤ h ∧ h ≤ w'.heap.size ∧ IntsO w.heap.size h w' r1 X ∧ IntsO h w'.heap.size w' r2 Y ∧ Ext w w' := by
  obtain ⟨R, eR⟩ : ∃ R, (c.runB && g.okB) = R := ⟨_, rfl⟩
  obtain ⟨S, eS⟩ : ∃ S, c.res g = S := ⟨_, rfl⟩
  obtain ⟨i, ei⟩ : ∃ i, colorIx c.ls = i := ⟨_, rfl⟩
  obtain ⟨j, ej⟩ : ∃ j, alphaIx c.ls = j := ⟨_, rfl⟩
  have hn : R = true → ∃ n : Nat, g.n = n ∧ (n : Int) * n = g.m ∧ g.m ≤ 64 := by
    intro h
    rw [h] at eR
    simp only [Bool.and_eq_true] at eR
    obtain ⟨n, hn, hm, hn1, hn8, -⟩ := g.parts eR.2
    have h6 : n * n ≤ 8 * 8 := Nat.mul_le_mul hn8 hn8
    exact ⟨n, hn, by rw [← hm]; simp, by omega⟩
  have CS := hid (shade_cases hL hs eR eS ei ej)
  have HC := hid hv
  have HG := hid hu
  have ER := hid eR
  have ES := hid eS
  have EI := hid ei
  have EJ := hid ej
  have HL := hid hL
  have HN := hid hn
  have hl : c.ls.length ≤ 1048576 := hL.2
  obtain ⟨iu, lu, rfl, -, hlu⟩ := hv
  have HLU := hid hlu
  obtain ⟨pu, tu, rfl, _⟩ := hu
  clear hs eR eS ei ej hn hlu hL
  have en : ∀ (w : World) (a : Option Addr) (n c : Nat), (binOp .eql 29 (.slice a n c) (.slice none 0 0)).run Tryz.prog w = .ok (.bool a.isNone) w := fun w a n c => Lib.run_eql_slice_nil w _ _ a n c 0 0 Tryz.underlying29
  go_enter Tryz.func13, Tryz.ntmps13
  go_wp2_with fail
  refine (iRunGrid_one lo hi lo' hi' _ _ c g _ ER.out ES.out (HC.out.ext hh (by repeat (with_reducible (first | assumption | exact Ext.refl _ | apply Ext.alloc | apply Ext.drew | apply Ext.drewN)))) (by simp; omega) (HG.out.ext hh' (by repeat (with_reducible (first | assumption | exact Ext.refl _ | apply Ext.alloc | apply Ext.drew | apply Ext.drewN)))) (by simp; omega) HL.out).mono ?_
  rintro e w1 ⟨r, rfl, O1, x1⟩
  have BP := hid (((Bx.made w #[iu, lu] _).ext ((Ext.refl _).alloc _)).ext x1)
  have BQ := hid ((Bx.madeAt (B := w.heap.size + 1) (w.alloc _) #[.int .i64 g.n, pu, .int .i64 g.tm, .int .i64 g.t.log, tu] _ (by simp)).ext x1)
  have E : Ext w w1 := Ext.trans (by repeat (with_reducible (first | assumption | exact Ext.refl _ | apply Ext.alloc | apply Ext.drew | apply Ext.drewN))) x1
  have z1 := E.size
  have O1' := O1
  obtain ⟨us0, h0, h0', -⟩ := O1'
  obtain ⟨ra, rc, hrr⟩ := ownsRow.form h0
  rw [h0'.len] at hrr
  subst hrr
  have OR := hid O1
  clear x1 O1 h0 h0'
  have p := BP.out.lt
  have p0 := BP.out.cell 0
  simp only [List.getElem?_toArray, List.getElem?_cons_zero, List.getElem?_cons_succ] at p0
  have p1 := BP.out.cell 1
  simp only [List.getElem?_toArray, List.getElem?_cons_zero, List.getElem?_cons_succ] at p1
  have q := BQ.out.lt
  have q0 := BQ.out.cell 0
  simp only [List.getElem?_toArray, List.getElem?_cons_zero, List.getElem?_cons_succ] at q0
  have q1 := BQ.out.cell 1
  simp only [List.getElem?_toArray, List.getElem?_cons_zero, List.getElem?_cons_succ] at q1
  have q2 := BQ.out.cell 2
  simp only [List.getElem?_toArray, List.getElem?_cons_zero, List.getElem?_cons_succ] at q2
  have q3 := BQ.out.cell 3
  simp only [List.getElem?_toArray, List.getElem?_cons_zero, List.getElem?_cons_succ] at q3
  have q4 := BQ.out.cell 4
  simp only [List.getElem?_toArray, List.getElem?_cons_zero, List.getElem?_cons_succ] at q4
  go_wp2_with fail
  refine wp_region_stages [([0, 1, 3, 4], 2), ([], 5), ([6], 7)] 7 w1.heap.size (by kernel_rfl) (by kernel_rfl) ?_
  refine wpStages_cons ?_
  simp only [List.filterMap_cons, List.filterMap_nil, List.getElem?_toArray, List.getElem?_cons_zero, List.getElem?_cons_succ]
  show wpQuiet _ _ _ _ [_, _, _, _] _
  repeat (go_big_quiet_step (fail))
  refine wpQuiet_nil ⟨_, rfl, fun K hK => ?_⟩
  go_wp2_with fail
  refine (iIndex_val EI.out lo hi _ _ (HLU.out.ext hh E.drew) (by omega)).mono ?_
  rintro e wx ⟨rfl, rfl⟩
  go_wp2_with fail
  refine hK _ _ (.inr (fun k _ hk => Ext.block (by repeat (with_reducible (first | assumption | exact Ext.refl _ | apply Ext.alloc | apply Ext.drew | apply Ext.drewN))) (by first | omega | (simp; omega)))) ?_
  clear hK K
  refine wpStages_cons ?_
  simp only [List.filterMap_nil]
  show wpQuiet _ _ _ _ [] _
  try simp only [Act.put, List.setIfInBounds_toArray, List.set_cons_succ, List.set_cons_zero]
  repeat (go_big_quiet_step (fail))
  refine wpQuiet_nil ⟨_, rfl, fun K hK => ?_⟩
  go_wp2_with fail
  refine (iIndex_val EJ.out lo hi _ _ (HLU.out.ext hh E.drew) (by omega)).mono ?_
  rintro e wx ⟨rfl, rfl⟩
  go_wp2_with fail
  refine hK _ _ (.inr (fun k _ hk => Ext.block (by repeat (with_reducible (first | assumption | exact Ext.refl _ | apply Ext.alloc | apply Ext.drew | apply Ext.drewN))) (by first | omega | (simp; omega)))) ?_
  clear hK K
  refine wpStages_cons ?_
  simp only [List.filterMap_cons, List.filterMap_nil, List.getElem?_toArray, List.getElem?_cons_zero, List.getElem?_cons_succ]
  show wpQuiet _ _ _ _ [_] _
  try simp only [Act.put, List.setIfInBounds_toArray, List.set_cons_succ, List.set_cons_zero]
  repeat (go_big_quiet_step (fail))
  refine wpQuiet_nil ⟨_, rfl, fun K hK => ?_⟩
  go_wp2_with fail
  go_wp2_with fail
  refine hK _ _ (.inl (by trivial)) ?_
  clear hK K
  refine wpStages_nil ?_
  rcases CS.out.all with ⟨rfl, rfl, rfl, rfl⟩ | ⟨rfl, rfl, rfl, rfl, rfl⟩ | ⟨rfl, k, rfl, hk, sk, rfl, rfl, rfl⟩ | ⟨rfl, k, a, rfl, hk, sk, ha, la, hrest⟩
  · go_wp2
    refine bodyPost_ret (v := .tuple #[.slice none 0 0, .slice none 0 0, .bool false]) (by simp [results, Tryz.results13, go_sem]) rfl (shade_none E.drew)
  · go_wp2
    refine bodyPost_ret (v := .tuple #[.slice none 0 0, .slice none 0 0, .bool false]) (by simp [results, Tryz.results13, go_sem]) rfl (shade_none E.drew)
  · have SK := hid sk
    have hkS : k < S.length := (List.getElem?_eq_some_iff.1 sk).1
    obtain ⟨rb, rc', hrv, hb1, hb2, hb3, hcell⟩ := OR.out.open1 (by omega)
    simp only [Value.slice.injEq] at hrv
    obtain ⟨rfl, -, rfl⟩ := hrv
    obtain ⟨ru, c0, -, e0⟩ := hcell k _ sk
    obtain rfl := e0 rfl
    clear sk hcell e0
    go_wp2
    refine bodyPost_ret (v := .tuple #[.slice none 0 0, .slice none 0 0, .bool false]) (by simp [results, Tryz.results13, go_sem]) rfl (shade_none E.drew)
  have SK := hid sk
  have hkS : k < S.length := (List.getElem?_eq_some_iff.1 sk).1
  obtain ⟨rb, rc', hrv, hb1, hb2, hb3, hcell⟩ := OR.out.open1 (by omega)
  simp only [Value.slice.injEq] at hrv
  obtain ⟨rfl, -, rfl⟩ := hrv
  obtain ⟨ru, c0, o0, -⟩ := hcell k _ sk
  obtain ⟨ga, ca, rfl, hga⟩ := o0.someAt ha
  have O0 := hid (o0.low (lo' := w.heap.size) (by simp <;> omega))
  clear o0
  obtain ⟨n, gn, hnn, hm⟩ := HN.out rfl
  rcases hrest with ⟨l, rfl, hl2, sl, rfl, rfl, rfl⟩ | ⟨rfl, rfl, rfl, rfl⟩ | ⟨l, q, rfl, hl2, sl, hq, lq, rfl, rfl, rfl⟩
  · have SL := hid sl
    have hlS : l < S.length := (List.getElem?_eq_some_iff.1 sl).1
    obtain ⟨rw, c1, -, e1⟩ := hcell l _ sl
    obtain rfl := e1 rfl
    clear sk sl hcell e1 hnn gn
    go_wp2
    refine bodyPost_ret (v := .tuple #[.slice none 0 0, .slice none 0 0, .bool false]) (by simp [results, Tryz.results13, go_sem]) rfl (shade_none E.drew)
  · clear sk hcell
    have GN := hid gn
    have NN := hid hnn
    clear gn hnn
    go_wp2_with fail
    refine wp_region_stages [([0, 1, 2, 3, 5], 4), ([], 6), ([7, 8], 9)] 9 w1.heap.size (by kernel_rfl) (by kernel_rfl) ?_
    refine wpStages_cons ?_
    simp only [List.filterMap_cons, List.filterMap_nil, List.getElem?_toArray, List.getElem?_cons_zero, List.getElem?_cons_succ]
    show wpQuiet _ _ _ _ [_, _, _, _, _] _
    repeat (go_big_quiet_step (fail))
    refine wpQuiet_nil ⟨_, rfl, fun K hK => ?_⟩
    go_wp2_with fail
    refine (iLimited_any w.heap.size w1.heap.size _ a _ (O0.out.ints.ext (Nat.le_refl _) (by repeat (with_reducible (first | assumption | exact Ext.refl _ | apply Ext.alloc | apply Ext.drew | apply Ext.drewN)))) (by simp) (by omega)).mono ?_
    rintro e w3 ⟨r1, rfl, o1, x1⟩
    have y3 : Ext w1 w3 := Ext.trans (by repeat (with_reducible (first | assumption | exact Ext.refl _ | apply Ext.alloc | apply Ext.drew | apply Ext.drewN))) x1
    have z3 := y3.size
    go_wp2_with fail
    refine hK _ _ (.inr (y3.same (Nat.le_refl _))) ?_
    clear hK K
    refine wpStages_cons ?_
    simp only [List.filterMap_nil]
    show wpQuiet _ _ _ _ [] _
    try simp only [Act.put, List.setIfInBounds_toArray, List.set_cons_succ, List.set_cons_zero]
    repeat (go_big_quiet_step (fail))
    refine wpQuiet_nil ⟨_, rfl, fun K hK => ?_⟩
    go_wp2_with fail
    refine (iConstant_g GN.out 256 _ _ _ _ _ NN.out (by omega) ⟨by omega, by omega⟩).mono ?_
    rintro e w4 ⟨r2, rfl, o2, x2⟩
    have y4 : Ext w1 w4 := y3.trans (Ext.trans (by repeat (with_reducible (first | assumption | exact Ext.refl _ | apply Ext.alloc | apply Ext.drew | apply Ext.drewN))) x2)
    have y34 : Ext w3 w4 := Ext.trans (by repeat (with_reducible (first | assumption | exact Ext.refl _ | apply Ext.alloc | apply Ext.drew | apply Ext.drewN))) x2
    have z4 := y34.size
    go_wp2_with fail
    refine hK _ _ (.inr (y4.same (Nat.le_refl _))) ?_
    clear hK K
    refine wpStages_cons ?_
    simp only [List.filterMap_cons, List.filterMap_nil, List.getElem?_toArray, List.getElem?_cons_zero, List.getElem?_cons_succ]
    show wpQuiet _ _ _ _ [_, _] _
    try simp only [Act.put, List.setIfInBounds_toArray, List.set_cons_succ, List.set_cons_zero]
    repeat (go_big_quiet_step (fail))
    refine wpQuiet_nil ⟨_, rfl, fun K hK => ?_⟩
    go_wp2_with fail
    go_wp2_with fail
    refine hK _ _ (.inl (by trivial)) ?_
    clear hK K
    refine wpStages_nil ?_
    go_wp2
    refine bodyPost_ret (v := .tuple #[r1, r2, .bool true]) (by simp [results, Tryz.results13, go_sem]) rfl ⟨r1, r2, rfl, w3.heap.size, by omega, z4, ?_, ?_, E.trans y4⟩
    · exact (o1.low (by simp; omega)).o.kp (y34.kp (Nat.le_refl _))
    · exact (o2.low (by simp)).o
  · have SL := hid sl
    have hlS : l < S.length := (List.getElem?_eq_some_iff.1 sl).1
    obtain ⟨rw, c1, o9, -⟩ := hcell l _ sl
    obtain ⟨gb, cb, rfl, hgb⟩ := o9.someAt hq
    have O9 := hid (o9.low (lo' := w.heap.size) (by simp <;> omega))
    clear sk sl hcell o9 hnn gn
    go_wp2_with fail
    refine wp_region_stages [([0, 1, 2, 3, 5, 6, 7, 8], 4), ([], 9), ([10, 11], 12)] 12 w1.heap.size (by kernel_rfl) (by kernel_rfl) ?_
    refine wpStages_cons ?_
    simp only [List.filterMap_cons, List.filterMap_nil, List.getElem?_toArray, List.getElem?_cons_zero, List.getElem?_cons_succ]
    show wpQuiet _ _ _ _ [_, _, _, _, _, _, _, _] _
    repeat (go_big_quiet_step (fail))
    refine wpQuiet_nil ⟨_, rfl, fun K hK => ?_⟩
    go_wp2_with fail
    refine (iLimited_any w.heap.size w1.heap.size _ a _ (O0.out.ints.ext (Nat.le_refl _) (by repeat (with_reducible (first | assumption | exact Ext.refl _ | apply Ext.alloc | apply Ext.drew | apply Ext.drewN)))) (by simp) (by omega)).mono ?_
    rintro e w3 ⟨r1, rfl, o1, x1⟩
    have y3 : Ext w1 w3 := Ext.trans (by repeat (with_reducible (first | assumption | exact Ext.refl _ | apply Ext.alloc | apply Ext.drew | apply Ext.drewN))) x1
    have z3 := y3.size
    go_wp2_with fail
    refine hK _ _ (.inr (y3.same (Nat.le_refl _))) ?_
    clear hK K
    refine wpStages_cons ?_
    simp only [List.filterMap_nil]
    show wpQuiet _ _ _ _ [] _
    try simp only [Act.put, List.setIfInBounds_toArray, List.set_cons_succ, List.set_cons_zero]
    repeat (go_big_quiet_step (fail))
    refine wpQuiet_nil ⟨_, rfl, fun K hK => ?_⟩
    go_wp2_with fail
    refine (iLimited_any w.heap.size w1.heap.size _ q _ (O9.out.ints.ext (Nat.le_refl _) (y3.trans (by repeat (with_reducible (first | assumption | exact Ext.refl _ | apply Ext.alloc | apply Ext.drew | apply Ext.drewN))))) (by first | omega | (simp; omega)) (by omega)).mono ?_
    rintro e w4 ⟨r2, rfl, o2, x2⟩
    have y4 : Ext w1 w4 := y3.trans (Ext.trans (by repeat (with_reducible (first | assumption | exact Ext.refl _ | apply Ext.alloc | apply Ext.drew | apply Ext.drewN))) x2)
    have y34 : Ext w3 w4 := Ext.trans (by repeat (with_reducible (first | assumption | exact Ext.refl _ | apply Ext.alloc | apply Ext.drew | apply Ext.drewN))) x2
    have z4 := y34.size
    go_wp2_with fail
    refine hK _ _ (.inr (y4.same (Nat.le_refl _))) ?_
    clear hK K
    refine wpStages_cons ?_
    simp only [List.filterMap_cons, List.filterMap_nil, List.getElem?_toArray, List.getElem?_cons_zero, List.getElem?_cons_succ]
    show wpQuiet _ _ _ _ [_, _] _
    try simp only [Act.put, List.setIfInBounds_toArray, List.set_cons_succ, List.set_cons_zero]
    repeat (go_big_quiet_step (fail))
    refine wpQuiet_nil ⟨_, rfl, fun K hK => ?_⟩
    go_wp2_with fail
    go_wp2_with fail
    refine hK _ _ (.inl (by trivial)) ?_
    clear hK K
    refine wpStages_nil ?_
    go_wp2
    refine bodyPost_ret (v := .tuple #[r1, r2, .bool true]) (by simp [results, Tryz.results13, go_sem]) rfl ⟨r1, r2, rfl, w3.heap.size, by omega, z4, ?_, ?_, E.trans y4⟩
    · exact (o1.low (by simp; omega)).o.kp (y34.kp (Nat.le_refl _))
    · exact (o2.low (by simp)).o
end Go.Proofs.YtaegmenjgjdimaaGreat
end

section
/- This text proves the reference's ShadeGrid. -/
namespace Go.Proofs.YtaegmenjgjdimaaGreat
open Go.RowKit

theorem Ints.nil0 (hi : Nat) (w : World) : Ints 0 hi w (.slice none 0 0) [] := ⟨none, 0, rfl, Nat.le_refl _, by unfold maxLen; omega, fun i x h => by simp at h⟩
theorem shade_none' {w w' : World} (h : Ext w w') : ∃ r1 r2, Ending.returned (.tuple #[.slice none 0 0, .slice none 0 0, .bool false]) = .returned (.tuple #[r1, r2, .bool false]) ∧ Ints 0 w'.heap.size w' r1 [] ∧ Ints 0 w'.heap.size w' r2 [] ∧ Ext w w' :=
  ⟨_, _, rfl, Ints.nil0 _ _, Ints.nil0 _ _, h⟩
end Go.Proofs.YtaegmenjgjdimaaGreat
end

section
/- This text counts, in plain numbers, the nodes and roots of a valid program; it walks no function. -/
namespace Go.Proofs.YtaegmenjgjdimaaGreat
open Go.RowKit

theorem sum_zero : ∀ n : Nat, ((List.range n).map fun _ => 0).sum = 0
  | 0 => rfl
  | n + 1 => by rw [List.range_succ, List.map_append, List.sum_append, sum_zero n]; rfl
theorem sum_single (w : Nat → Nat) : ∀ (n e : Nat), e < n → ((List.range n).map fun j => if e = j then w j else 0).sum = w e := by
  intro n
  induction n with
  | zero => intro e h; omega
  | succ n ih =>
    intro e h
    rw [List.range_succ, List.map_append, List.sum_append]
    by_cases he : e = n
    · subst he
      have : ((List.range e).map fun j => if e = j then w j else 0).sum = 0 := by
        rw [List.map_congr_left (g := fun _ => 0) fun j hj => if_neg (by have := List.mem_range.1 hj; omega)]
        exact sum_zero e
      rw [this]
      simp
    · rw [ih e (by omega)]
      simp [he]
theorem sum_add {α : Type} (f g : α → Nat) : ∀ L : List α, (L.map fun x => f x + g x).sum = (L.map f).sum + (L.map g).sum
  | [] => rfl
  | x :: r => by simp only [List.map_cons, List.sum_cons, sum_add f g r]; omega
/-- a sum over a list of numbers below n, number by number -/
theorem sumW (w : Nat → Nat) (n : Nat) : ∀ E : List Nat, (∀ e ∈ E, e < n) → (E.map w).sum = ((List.range n).map fun j => (E.countP fun e => e == j) * w j).sum := by
  intro E
  induction E with
  | nil =>
    intro _
    have e : ((List.range n).map fun j => (([] : List Nat).countP fun e => e == j) * w j) = (List.range n).map fun _ => 0 := List.map_congr_left fun j _ => by simp
    rw [e, sum_zero]
    rfl
  | cons e r ih =>
    intro h
    rw [List.map_cons, List.sum_cons, ih fun x hx => h x (by simp [hx]), ← sum_single w n e (h e (by simp)), ← sum_add]
    congr 1
    refine List.map_congr_left fun j _ => ?_
    rw [List.countP_cons]
    by_cases hj : e = j
    · subst hj; simp [Nat.add_mul]; omega
    · simp [hj]
/-- everything that is referred to: arguments and roots -/
def Prg.refs (p : Prg) : List Nat := (p.ns.flatMap fun x => x.args.map Int.toNat) ++ p.gs.map fun a => a.root.toNat
theorem refs_ns (j : Nat) : ∀ xs : List Nd, ((xs.flatMap fun x => x.args.map Int.toNat).countP fun e => e == j) = cntN j xs
  | [] => rfl
  | x :: r => by
    rw [List.flatMap_cons, List.countP_append, refs_ns j r]
    simp only [cntN, List.map_cons, List.sum_cons]
    congr 1
    unfold cntL
    rw [List.countP_map]
    rfl
theorem refs_gs (j : Nat) : ∀ xs : List Asg, ((xs.map fun a => a.root.toNat).countP fun e => e == j) = cntG j xs
  | [] => rfl
  | x :: r => by
    rw [List.map_cons, List.countP_cons, refs_gs j r]
    simp only [cntG, List.map_cons, List.sum_cons]
    by_cases h : x.root.toNat = j <;> simp [h] <;> omega
theorem Prg.V.refs_lt {p : Prg} (h : p.V) : ∀ e ∈ p.refs, e < p.ns.length := by
  intro e he
  unfold Prg.refs at he
  rcases List.mem_append.1 he with he | he
  · obtain ⟨x, hx, he⟩ := List.mem_flatMap.1 he
    obtain ⟨a, ha, rfl⟩ := List.mem_map.1 he
    obtain ⟨k, hk, rfl⟩ := List.getElem_of_mem hx
    have := (h.nd k _ (by simp [hk])).2 a ha
    omega
  · obtain ⟨a, ha, rfl⟩ := List.mem_map.1 he
    obtain ⟨k, hk, rfl⟩ := List.getElem_of_mem ha
    have := (h.ag k p.gs[k] (by simp [hk])).2
    omega
theorem Prg.V.sum_refs {p : Prg} (h : p.V) (w : Nat → Nat) : (p.refs.map w).sum = ((List.range p.ns.length).map w).sum := by
  rw [sumW w p.ns.length p.refs h.refs_lt]
  congr 1
  refine List.map_congr_left fun j hj => ?_
  have h1 := h.one j (List.mem_range.1 hj)
  have : (p.refs.countP fun e => e == j) = 1 := by
    unfold Prg.refs
    rw [List.countP_append, refs_ns, refs_gs]
    exact h1
  rw [this, Nat.one_mul]
theorem Prg.V.gs_len {p : Prg} (h : p.V) : p.gs.length ≤ 60 := by
  have h1 := h.sum_refs (fun _ => 1)
  have h2 := h.len
  unfold Prg.refs at h1
  simp only [List.map_append, List.sum_append, List.map_map] at h1
  have e1 : (p.gs.map ((fun _ => 1) ∘ fun a : Asg => a.root.toNat)).sum = p.gs.length := by
    have : ∀ xs : List Asg, (xs.map ((fun _ => 1) ∘ fun a : Asg => a.root.toNat)).sum = xs.length := fun xs => by
      induction xs with
      | nil => rfl
      | cons x r ih => rw [List.map_cons, List.sum_cons, ih]; simp; omega
    exact this _
  have e2 : ((List.range p.ns.length).map fun _ => 1).sum = p.ns.length := by
    have : ∀ n : Nat, ((List.range n).map fun _ => 1).sum = n := fun n => by
      induction n with
      | zero => rfl
      | succ n ih => rw [List.range_succ, List.map_append, List.sum_append, ih]; rfl
    exact this _
  rw [e1, e2] at h1
  omega
/-- a weight that is one more than that of the arguments together: the roots weigh as many as there are nodes -/
theorem Prg.V.sum_roots {p : Prg} (h : p.V) (w : Nat → Nat) (hw : ∀ (j : Nat) (x : Nd), p.ns[j]? = Option.some x → w j = 1 + (x.args.map fun a => w a.toNat).sum) : (p.gs.map fun a => w a.root.toNat).sum = p.ns.length := by
  have h1 := h.sum_refs w
  have e1 : ((List.range p.ns.length).map w).sum = p.ns.length + (p.ns.map fun x => (x.args.map fun a => w a.toNat).sum).sum := by
    have : ∀ (xs : List Nd) (o : Nat), (∀ (j : Nat) (x : Nd), xs[j]? = Option.some x → w (o + j) = 1 + (x.args.map fun a => w a.toNat).sum) → ((List.range xs.length).map fun j => w (o + j)).sum = xs.length + (xs.map fun x => (x.args.map fun a => w a.toNat).sum).sum := by
      intro xs
      induction xs with
      | nil => intro o _; rfl
      | cons x r ih =>
        intro o ho
        rw [List.length_cons, List.range_succ_eq_map, List.map_cons, List.sum_cons, List.map_map, List.map_cons, List.sum_cons]
        have := ih (o + 1) fun j y hy => by
          have := ho (j + 1) y (by simpa using hy)
          rw [← this]
          congr 1
          omega
        have e : (List.range r.length).map ((fun j => w (o + j)) ∘ Nat.succ) = (List.range r.length).map fun j => w (o + 1 + j) := List.map_congr_left fun j _ => by
          show w (o + (j + 1)) = w (o + 1 + j)
          congr 1
          omega
        rw [e, this]
        have h0 := ho 0 x (by simp)
        rw [h0]
        omega
    have := this p.ns 0 fun j x hx => by rw [Nat.zero_add]; exact hw j x hx
    simpa using this
  have e2 : ∀ xs : List Nd, ((xs.flatMap fun x => x.args.map Int.toNat).map w).sum = (xs.map fun x => (x.args.map fun a => w a.toNat).sum).sum := fun xs => by
    induction xs with
    | nil => rfl
    | cons x r ih =>
      rw [List.flatMap_cons, List.map_append, List.sum_append, ih, List.map_cons, List.sum_cons, List.map_map]
      rfl
  unfold Prg.refs at h1
  rw [List.map_append, List.sum_append, e2, e1, List.map_map] at h1
  have e3 : (p.gs.map (w ∘ fun a : Asg => a.root.toNat)).sum = (p.gs.map fun a => w a.root.toNat).sum := rfl
  omega
end Go.Proofs.YtaegmenjgjdimaaGreat
end

section
/- This text says in plain numbers what a program that passes the checks is compiled to, and proves that the code computes the program's values; it walks no function. -/
namespace Go.Proofs.YtaegmenjgjdimaaGreat
open Go.RowKit

def ixOf (p : Prg) (s : ByteArray) : Nat := (frst p.gs p.gs.length s.toList).getD 0
/-- the instruction of a node -/
def insOf (p : Prg) (x : Nd) : Ins :=
  if x.op = 1 then ⟨1, ⟨#[]⟩, x.num⟩ else if x.op = 3 then ⟨5, ⟨#[]⟩, 3⟩ else if x.op = 2 then (if isVar x.name then ⟨2, x.name, 0⟩ else ⟨3, ⟨#[]⟩, (ixOf p x.name : Nat)⟩) else if x.op = 8 then ⟨7, x.name, 0⟩ else ⟨6, ⟨#[]⟩, x.op⟩
def trF (p : Prg) : Nat → Nat → List Ins
  | 0, _ => []
  | F + 1, j => match p.ns[j]? with | some x => (x.args.flatMap fun a => trF p F a.toNat) ++ [insOf p x] | none => []
/-- the instructions of the expression at a node -/
def Prg.tr (p : Prg) (j : Nat) : List Ins := trF p (j + 1) j
def Prg.trs (p : Prg) : Nat → List Ins
  | 0 => []
  | k + 1 => p.trs k ++ (match p.gs[k]? with | some a => p.tr a.root.toNat ++ [⟨4, ⟨#[]⟩, (k : Nat)⟩] | none => [])
def Prg.code (p : Prg) : Cod := ⟨p.trs p.gs.length, p.gs.map (·.name)⟩
theorem flatMap_congr2 {α β : Type} {L : List α} {f g : α → List β} (h : ∀ a ∈ L, f a = g a) : L.flatMap f = L.flatMap g := by
  induction L with
  | nil => rfl
  | cons a r ih => rw [List.flatMap_cons, List.flatMap_cons, h a (by simp), ih fun b hb => h b (by simp [hb])]
theorem trF_eq {p : Prg} (h : p.V) : ∀ (F F' j : Nat), j < F → j < F' → trF p F j = trF p F' j := by
  intro F
  induction F with
  | zero => intro F' j hj; omega
  | succ F ih =>
    intro F' j hj hj'
    obtain ⟨G, rfl⟩ : ∃ G, F' = G + 1 := ⟨F' - 1, by omega⟩
    unfold trF
    cases hx : p.ns[j]? with
    | none => rfl
    | some x =>
      simp only
      rw [flatMap_congr2 fun a ha => ih G a.toNat (by have := (h.nd j x hx).2 a ha; omega) (by have := (h.nd j x hx).2 a ha; omega)]
theorem Prg.V.tr_step {p : Prg} (h : p.V) {j : Nat} {x : Nd} (hx : p.ns[j]? = Option.some x) : p.tr j = (x.args.flatMap fun a => p.tr a.toNat) ++ [insOf p x] := by
  have e : p.tr j = (x.args.flatMap fun a => trF p j a.toNat) ++ [insOf p x] := by
    show trF p (j + 1) j = _
    rw [trF, hx]
  rw [e, flatMap_congr2 fun a ha => trF_eq h _ _ _ (by have := (h.nd j x hx).2 a ha; omega) (Nat.lt_succ_self _)]
  rfl
theorem Prg.trs_step {p : Prg} {k : Nat} {a : Asg} (h : p.gs[k]? = some a) : p.trs (k + 1) = p.trs k ++ (p.tr a.root.toNat ++ [⟨4, ⟨#[]⟩, (k : Nat)⟩]) := by
  rw [Prg.trs, h]
theorem insOf_pops {p : Prg} (h : p.K) {j : Nat} {x : Nd} (hx : p.ns[j]? = some x) : popsI (insOf p x).op (insOf p x).name = x.args.length ∧ (insOf p x).op ≠ 4 ∧ pushI (insOf p x).op = 1 := by
  rcases nodeF_op (h.v.nd j x hx).1 with ⟨o, h2, h3⟩ | ⟨o, h3⟩ | ⟨o, h3⟩ | ⟨o, o', h3⟩ | ⟨o, h3⟩
  · unfold insOf; rw [if_pos o, h3]; exact ⟨rfl, by show (_ : Int) ≠ 4; simp, rfl⟩
  · unfold insOf
    rw [if_neg (by omega), if_neg (by omega), if_pos o, h3]
    split
    · exact ⟨rfl, by show (_ : Int) ≠ 4; simp, rfl⟩
    · exact ⟨rfl, by show (_ : Int) ≠ 4; simp, rfl⟩
  · unfold insOf; rw [if_neg (by omega), if_pos o, h3]; exact ⟨rfl, by show (_ : Int) ≠ 4; simp, rfl⟩
  · unfold insOf; rw [if_neg (by omega), if_neg (by omega), if_neg (by omega), if_neg (by omega), h3]; exact ⟨rfl, by show (_ : Int) ≠ 4; simp, rfl⟩
  · unfold insOf
    rw [if_neg (by omega), if_neg (by omega), if_neg (by omega), if_pos o, ← (h.call j x hx o).2]
    exact ⟨rfl, by show (7 : Int) ≠ 4; simp, rfl⟩
/-- the locals hold the values of the first k assignments -/
def HasV (p : Prg) (V : Nat → List Int) (k : Nat) (L : List (List Int)) : Prop := ∀ (i : Nat) (a : Asg), i < k → p.gs[i]? = some a → L.getD i [] = V a.root.toNat
theorem rowI_evB {p : Prg} (h : p.K) {n m : Nat} {f : Nat → Int} {tm : Int} {t : Tex} {j : Nat} {x : Nd} (hx : p.ns[j]? = some x) {L : List (List Int)} (hL : HasV p (p.ev n m f tm t) (p.own j) L) :
    rowI n m f tm t (insOf p x).op (insOf p x).name (insOf p x).num (x.args.map fun a => p.ev n m f tm t a.toNat) L = p.ev n m f tm t j := by
  rw [h.ev_step hx]
  unfold evB
  rcases nodeF_op (h.v.nd j x hx).1 with ⟨o, h2, h3⟩ | ⟨o, h3⟩ | ⟨o, h3⟩ | ⟨o, o', h3⟩ | ⟨o, h3⟩
  · rw [if_pos o]; unfold insOf; rw [if_pos o]; rfl
  · rw [if_neg (by omega), if_pos o]
    unfold insOf
    rw [if_neg (by omega), if_neg (by omega), if_pos o]
    cases hv : isVar x.name
    · obtain ⟨i, hi, hio⟩ := h.name j x hx o hv
      obtain ⟨s', g1, g2, g3, g4⟩ := h.root hi
      have e1 : ixOf p x.name = i := by unfold ixOf; rw [hi]; rfl
      have := hL i _ hio g1
      show L.getD ((ixOf p x.name : Nat) : Int).toNat [] = p.ev n m f tm t (p.rootOf x.name)
      rw [e1, Int.toNat_natCast, this]
      simp
    · rfl
  · rw [if_neg (by omega), if_neg (by omega), if_neg (by omega)]
    unfold insOf
    rw [if_neg (by omega), if_pos o, o]
    rfl
  · rw [if_neg (by omega), if_neg (by omega), if_neg (by omega)]
    unfold insOf
    rw [if_neg (by omega), if_neg (by omega), if_neg (by omega), if_neg (by omega)]
    show List.zipWith (arithI x.op) _ _ = _
    rw [if_neg (by omega)]
  · rw [if_neg (by omega), if_neg (by omega), if_pos o]
    unfold insOf
    rw [if_neg (by omega), if_neg (by omega), if_neg (by omega), if_pos o]
    rfl
/-- the instructions of a node push its value -/
theorem run_ins {p : Prg} (h : p.K) {n m : Nat} {f : Nat → Int} {tm : Int} {t : Tex} {j : Nat} {x : Nd} (hx : p.ns[j]? = some x) {L : List (List Int)} (hL : HasV p (p.ev n m f tm t) (p.own j) L) (rest : List Ins) (S : List (List Int)) :
    runG n m f tm t (insOf p x :: rest) (S ++ x.args.map fun a => p.ev n m f tm t a.toNat) L = runG n m f tm t rest (S ++ [p.ev n m f tm t j]) L := by
  obtain ⟨h1, h2, h3⟩ := insOf_pops h hx
  have hc : cutI (insOf p x).op (insOf p x).name (S ++ x.args.map fun a => p.ev n m f tm t a.toNat) = S.length := by
    unfold cutI
    rw [h1]
    simp
  rw [runG]
  unfold nextS nextL
  rw [if_neg h2, if_neg h2, hc, List.take_left, List.drop_left, rowI_evB h hx hL]
theorem run_tr {p : Prg} (h : p.K) {n m : Nat} {f : Nat → Int} {tm : Int} {t : Tex} : ∀ (F j : Nat), j < F → j < p.ns.length → ∀ (L : List (List Int)), HasV p (p.ev n m f tm t) (p.own j) L → ∀ (rest : List Ins) (S : List (List Int)),
    runG n m f tm t (p.tr j ++ rest) S L = runG n m f tm t rest (S ++ [p.ev n m f tm t j]) L := by
  intro F
  induction F with
  | zero => intro j hj; omega
  | succ F ih =>
    intro j hj hjl L hL rest S
    have hx : p.ns[j]? = some p.ns[j] := by simp [hjl]
    obtain ⟨x, hxe⟩ : ∃ x, p.ns[j] = x := ⟨_, rfl⟩
    rw [hxe] at hx
    rw [h.v.tr_step hx, List.append_assoc, ← run_ins h hx hL rest S]
    have key : ∀ (es : List Int), (∀ a ∈ es, a ∈ x.args) → ∀ (rest : List Ins) (S : List (List Int)), runG n m f tm t ((es.flatMap fun a => p.tr a.toNat) ++ rest) S L = runG n m f tm t rest (S ++ es.map fun a => p.ev n m f tm t a.toNat) L := by
      intro es
      induction es with
      | nil => intro _ rest S; simp
      | cons a r ihr =>
        intro hs rest S
        have ha := hs a (by simp)
        have hr := h.rank_arg hx ha
        have hlt := (h.v.nd j x hx).2 a ha
        rw [List.flatMap_cons, List.append_assoc, ih a.toNat (by omega) hr.2.1 L (by rw [hr.2.2]; exact hL), ihr (fun b hb => hs b (by simp [hb]))]
        simp
    exact key x.args (fun a ha => ha) _ S
/-- the assignments up to k leave the values of their roots -/
theorem run_trs {p : Prg} (h : p.K) {n m : Nat} {f : Nat → Int} {tm : Int} {t : Tex} : ∀ k, k ≤ p.gs.length → ∀ rest, ∃ L, L.length = p.gs.length ∧ HasV p (p.ev n m f tm t) k L ∧ runG n m f tm t (p.trs k ++ rest) [] (List.replicate p.gs.length []) = runG n m f tm t rest [] L := by
  intro k
  induction k with
  | zero => intro _ rest; exact ⟨List.replicate p.gs.length [], List.length_replicate, fun i a hi => by omega, by rw [Prg.trs, List.nil_append]⟩
  | succ k ih =>
    intro hk rest
    have ha : p.gs[k]? = some p.gs[k] := by simp [show k < p.gs.length by omega]
    obtain ⟨a, hae⟩ : ∃ a, p.gs[k] = a := ⟨_, rfl⟩
    rw [hae] at ha
    obtain ⟨L, h1, h2, h3⟩ := ih (by omega) ((p.tr a.root.toNat ++ [⟨4, ⟨#[]⟩, (k : Nat)⟩]) ++ rest)
    have hr := (h.v.ag k a ha).2
    have e2 : a = ⟨a.name, (a.root.toNat : Nat)⟩ := by cases a; simp only [Asg.mk.injEq, true_and] at *; omega
    have ho : p.own a.root.toNat = k := h.v.own_eq (Own.root (s := a.name) (by rw [ha]; exact congrArg some e2))
    refine ⟨L.set k (p.ev n m f tm t a.root.toNat), by simp [h1], fun i b hi hb => ?_, ?_⟩
    · rw [List.getD_eq_getElem?_getD, List.getElem?_set]
      by_cases e : k = i
      · subst e
        rw [ha] at hb
        injection hb with hb
        subst hb
        simp [h1, show k < p.gs.length by omega]
      · rw [if_neg e, ← List.getD_eq_getElem?_getD]
        exact h2 i b (by omega) hb
    · rw [Prg.trs_step ha, List.append_assoc, h3, List.append_assoc, run_tr h (a.root.toNat + 1) a.root.toNat (by omega) (by omega) L (by rw [ho]; exact h2), List.nil_append]
      show runG n m f tm t (_ :: rest) _ _ = _
      rw [runG]
      rfl
/-- what the code of a program leaves -/
theorem Prg.K.out {p : Prg} (h : p.K) (g : Grd) : ∀ (i : Nat) (a : Asg), p.gs[i]? = some a → (p.code.out g).getD i [] = evV p g a.root.toNat := by
  intro i a ha
  obtain ⟨L, h1, h2, h3⟩ := run_trs h (n := g.n.toNat) (m := g.m) (f := g.f) (tm := g.tm) (t := g.t) p.gs.length (Nat.le_refl _) []
  unfold Cod.out Prg.code evV
  simp only [List.length_map]
  rw [List.append_nil] at h3
  rw [h3, runG]
  exact h2 i a (List.getElem?_eq_some_iff.1 ha).1 ha
theorem insOf_wf {p : Prg} (h : p.K) {j : Nat} {x : Nd} (hx : p.ns[j]? = some x) : wfI (insOf p x).op (insOf p x).name (insOf p x).num p.gs.length = true ∧ numB (insOf p x) = true ∧ ((insOf p x).op = 3 → ∃ i, i < p.own j ∧ (insOf p x).num = (i : Nat)) := by
  have e0 : ((⟨#[]⟩ : ByteArray).toList == []) = true := by rw [Lib.toList_data]; rfl
  have hv := h.v
  have hol := (List.getElem?_eq_some_iff.1 hx).1
  rcases nodeF_op (h.v.nd j x hx).1 with ⟨o, h2, h3⟩ | ⟨o, h3⟩ | ⟨o, h3⟩ | ⟨o, o', h3⟩ | ⟨o, h3⟩
  · unfold insOf
    rw [if_pos o]
    have := inB_iff.1 h2
    refine ⟨by simp [wfI, e0], inB_iff.2 (by simp only; omega), fun e => by simp at e⟩
  · unfold insOf
    rw [if_neg (by omega), if_neg (by omega), if_pos o]
    cases hv : isVar x.name
    · obtain ⟨i, hi, hio⟩ := h.name j x hx o hv
      obtain ⟨g1, ⟨a, g2, _⟩, _⟩ := frst_some hi
      have hl := (List.getElem?_eq_some_iff.1 g2).1
      have e1 : ixOf p x.name = i := by unfold ixOf; rw [hi]; rfl
      refine ⟨?_, ?_, fun _ => ⟨i, hio, by simp [e1]⟩⟩
      · simp only [Bool.false_eq_true, if_false, wfI, e1, e0]
        simp [inB_iff]
        omega
      · simp only [Bool.false_eq_true, if_false, e1]
        refine inB_iff.2 ⟨by simp only; omega, ?_⟩
        simp only
        have := h.v.gs_len
        omega
    · simp only [if_true, wfI, hv]
      exact ⟨by simp, inB_iff.2 (by simp), fun e => by simp at e⟩
  · unfold insOf
    rw [if_neg (by omega), if_pos o]
    exact ⟨by simp [wfI, e0], inB_iff.2 (by simp), fun e => by simp at e⟩
  · unfold insOf
    rw [if_neg (by omega), if_neg (by omega), if_neg (by omega), if_neg (by omega)]
    exact ⟨by simp [wfI, e0, inB_iff]; omega, inB_iff.2 (by simp only; omega), fun e => by simp at e⟩
  · unfold insOf
    rw [if_neg (by omega), if_neg (by omega), if_neg (by omega), if_pos o]
    have := (h.call j x hx o).1
    exact ⟨by simp [wfI, this], inB_iff.2 (by simp), fun e => by simp at e⟩
theorem tr_len {p : Prg} (h : p.K) {j : Nat} {x : Nd} (hx : p.ns[j]? = some x) : (p.tr j).length = 1 + (x.args.map fun a => (p.tr a.toNat).length).sum := by
  rw [h.v.tr_step hx, List.length_append, List.length_flatMap]
  simp
  omega
theorem trs_len {p : Prg} : ∀ k, k ≤ p.gs.length → (p.trs k).length = ((p.gs.take k).map fun a => (p.tr a.root.toNat).length).sum + k := by
  intro k
  induction k with
  | zero => intro _; rfl
  | succ k ih =>
    intro hk
    have ha : p.gs[k]? = some p.gs[k] := by simp [show k < p.gs.length by omega]
    rw [Prg.trs_step ha, List.length_append, ih (by omega), ← List.take_append_getElem (show k < p.gs.length by omega), List.map_append, List.sum_append]
    simp
    omega
theorem code_len {p : Prg} (h : p.K) : p.code.xs.length ≤ 120 := by
  show (p.trs p.gs.length).length ≤ 120
  rw [trs_len _ (Nat.le_refl _), List.take_length, h.v.sum_roots (fun j => (p.tr j).length) fun j x hx => tr_len h hx]
  have := h.v.len
  have := h.v.gs_len
  omega
/-- the simulation of a node's instructions -/
theorem runD_ins {p : Prg} (h : p.K) {j : Nat} {x : Nd} (hx : p.ns[j]? = some x) {st : Nat → Bool} (hst : ∀ i, i < p.own j → st i = true) (rest : List Ins) (d m : Int) (hd : 0 ≤ d) (hr : ∀ m', (runD p.gs.length rest (d + 1) m' st).isSome = true) :
    (runD p.gs.length (insOf p x :: rest) (d + x.args.length) m st).isSome = true := by
  obtain ⟨h1, h2, h3⟩ := insOf_pops h hx
  obtain ⟨w1, w2, w3⟩ := insOf_wf h hx
  unfold runD
  rw [if_pos ⟨w1, fun e => by obtain ⟨i, hi, hn⟩ := w3 e; rw [hn]; exact hst i hi, by rw [h1]; omega⟩, h1, h3]
  have em : markSt (insOf p x).op (insOf p x).num st = st := by unfold markSt; rw [if_neg h2]
  rw [em, show d + (x.args.length : Int) - x.args.length + 1 = d + 1 by omega]
  exact hr _
theorem runD_tr {p : Prg} (h : p.K) : ∀ (F j : Nat), j < F → j < p.ns.length → ∀ (st : Nat → Bool), (∀ i, i < p.own j → st i = true) → ∀ (rest : List Ins) (d m : Int), 0 ≤ d → (∀ m', (runD p.gs.length rest (d + 1) m' st).isSome = true) →
    (runD p.gs.length (p.tr j ++ rest) d m st).isSome = true := by
  intro F
  induction F with
  | zero => intro j hj; omega
  | succ F ih =>
    intro j hj hjl st hst rest d m hd hr
    have hx : p.ns[j]? = some p.ns[j] := by simp [hjl]
    obtain ⟨x, hxe⟩ : ∃ x, p.ns[j] = x := ⟨_, rfl⟩
    rw [hxe] at hx
    rw [h.v.tr_step hx, List.append_assoc]
    have key : ∀ (es : List Int), (∀ a ∈ es, a ∈ x.args) → ∀ (rest : List Ins) (d m : Int), 0 ≤ d → (∀ m', (runD p.gs.length rest (d + es.length) m' st).isSome = true) → (runD p.gs.length ((es.flatMap fun a => p.tr a.toNat) ++ rest) d m st).isSome = true := by
      intro es
      induction es with
      | nil => intro _ rest d m _ hr; simpa using hr m
      | cons a r ihr =>
        intro hs rest d m hd hr
        have ha := hs a (by simp)
        have hk := h.rank_arg hx ha
        have hlt := (h.v.nd j x hx).2 a ha
        rw [List.flatMap_cons, List.append_assoc]
        refine ih a.toNat (by omega) hk.2.1 st (by rw [hk.2.2]; exact hst) _ d m hd fun m' => ?_
        refine ihr (fun b hb => hs b (by simp [hb])) rest (d + 1) m' (by omega) fun m2 => ?_
        have := hr m2
        rw [List.length_cons] at this
        rw [show d + 1 + (r.length : Int) = d + ((r.length + 1 : Nat) : Int) by omega]
        exact this
    exact key x.args (fun a ha => ha) _ d m hd fun m' => runD_ins h hx hst rest d m' hd hr
theorem runD_trs {p : Prg} (h : p.K) : ∀ k, k ≤ p.gs.length → ∀ (rest : List Ins) (m : Int), (∀ m' st, (∀ i, i < k → st i = true) → (runD p.gs.length rest 0 m' st).isSome = true) → (runD p.gs.length (p.trs k ++ rest) 0 m fun _ => false).isSome = true := by
  intro k
  induction k with
  | zero => intro _ rest m hr; rw [Prg.trs, List.nil_append]; exact hr m _ fun i hi => by omega
  | succ k ih =>
    intro hk rest m hr
    have ha : p.gs[k]? = some p.gs[k] := by simp [show k < p.gs.length by omega]
    obtain ⟨a, hae⟩ : ∃ a, p.gs[k] = a := ⟨_, rfl⟩
    rw [hae] at ha
    have hra := (h.v.ag k a ha).2
    have e2 : a = ⟨a.name, (a.root.toNat : Nat)⟩ := by cases a; simp only [Asg.mk.injEq, true_and] at *; omega
    have ho : p.own a.root.toNat = k := h.v.own_eq (Own.root (s := a.name) (by rw [ha]; exact congrArg some e2))
    have e0 : ((⟨#[]⟩ : ByteArray).toList == []) = true := by rw [Lib.toList_data]; rfl
    rw [Prg.trs_step ha, List.append_assoc]
    refine ih (by omega) _ m fun m' st hst => ?_
    rw [List.append_assoc]
    refine runD_tr h (a.root.toNat + 1) a.root.toNat (by omega) (by omega) st (by rw [ho]; exact hst) _ 0 m' (by omega) fun m2 => ?_
    show (runD p.gs.length (_ :: rest) _ _ _).isSome = true
    unfold runD
    rw [if_pos ⟨by simp [wfI, e0, inB_iff]; omega, fun e => by simp at e, by show (1 : Int) ≤ 0 + 1; omega⟩]
    refine hr _ _ fun i hi => ?_
    show markSt 4 ((k : Nat) : Int) st i = true
    unfold markSt
    rw [if_pos rfl]
    simp only [Int.toNat_natCast]
    by_cases e : i = k
    · rw [if_pos e]
    · rw [if_neg e]; exact hst i (by omega)
theorem trs_num {p : Prg} (h : p.K) : ∀ x ∈ p.code.xs, numB x = true := by
  have t1 : ∀ (F j : Nat), j < F → j < p.ns.length → ∀ x ∈ p.tr j, numB x = true := by
    intro F
    induction F with
    | zero => intro j hj; omega
    | succ F ih =>
      intro j hj hjl y hy
      have hx : p.ns[j]? = some p.ns[j] := by simp [hjl]
      rw [h.v.tr_step hx] at hy
      rcases List.mem_append.1 hy with hy | hy
      · obtain ⟨a, ha, hy⟩ := List.mem_flatMap.1 hy
        have hk := h.rank_arg hx ha
        have hlt := (h.v.nd j _ hx).2 a ha
        exact ih a.toNat (by omega) hk.2.1 y hy
      · rw [List.mem_singleton.1 hy]
        exact (insOf_wf h hx).2.1
  have t2 : ∀ k, k ≤ p.gs.length → ∀ x ∈ p.trs k, numB x = true := by
    intro k
    induction k with
    | zero => intro _ x hx; cases hx
    | succ k ih =>
      intro hk x hx
      have ha : p.gs[k]? = some p.gs[k] := by simp [show k < p.gs.length by omega]
      have hra := (h.v.ag k _ ha).2
      rw [Prg.trs_step ha] at hx
      rcases List.mem_append.1 hx with hx | hx
      · exact ih (by omega) x hx
      · rcases List.mem_append.1 hx with hx | hx
        · exact t1 _ _ (Nat.lt_succ_self _) (by omega) x hx
        · rw [List.mem_singleton.1 hx]
          have := h.v.gs_len
          exact inB_iff.2 (by simp only; omega)
  exact t2 _ (Nat.le_refl _)
/-- the code of a program that passes the checks may be run -/
theorem Prg.K.runB {p : Prg} (h : p.K) : p.code.runB = true := by
  unfold Cod.runB
  rw [Bool.and_eq_true]
  refine ⟨?_, List.all_eq_true.2 (trs_num h)⟩
  unfold Cod.depth
  rw [if_pos (by have := code_len h; omega)]
  show (runD (p.gs.map (·.name)).length (p.trs p.gs.length) 0 0 fun _ => false).isSome = true
  rw [List.length_map]
  have := runD_trs h p.gs.length (Nat.le_refl _) [] 0 fun m' st _ => rfl
  rwa [List.append_nil] at this
end Go.Proofs.YtaegmenjgjdimaaGreat
end

section
/- This text proves the program's instructionOf. -/
namespace Go.Proofs.YtaegmenjgjdimaaGreat
open Go.RowKit Go.Maps Go.WideMaps

theorem insOf_val {p : Prg} {op num : Int} {s : ByteArray} {us : List Int} {o n : Int} {t : ByteArray} (h : insOf p ⟨op, s, num, us⟩ = ⟨o, t, n⟩) : (insOf p ⟨op, s, num, us⟩).val = .agg #[.int .i64 o, .string t, .int .i64 n] := by rw [h]; rfl
set_option maxRecDepth 20000 in
set_option maxHeartbeats 6400000 in
theorem iInsOf_any (p : Prg) (hK : p.K) (j : Nat) (op num : Int) (s : ByteArray) (ra : List Int) (hx : p.ns[j]? = some ⟨op, s, num, ra⟩) (sa : Option Addr) (sn sc b : Nat) (w : World) (hM : FM w b p.gs p.gs.length) (hs : s.size ≤ maxLen) (hgl : p.gs.length ≤ 1048576) :
    Calls Tryz.prog 32 #[.agg #[.int .i64 op, .string s, .int .i64 num, .slice sa sn sc], .map (some b)] w fun e w' => e = .returned (insOf p ⟨op, s, num, ra⟩).val ∧ Ext w w' := by
  have HM := hid hM
  have nF := nodeF_op (hK.v.nd j _ hx).1
  simp only at nF
  have HX := hid hx
  clear hM hx
  by_cases o1 : op = 1
  · subst o1
    clear nF
    have hi : insOf p ⟨1, s, num, ra⟩ = ⟨1, ⟨#[]⟩, num⟩ := rfl
    rw [insOf_val hi]
    clear hi
    have NB := hid (Blk.new w 79 [.int .i64 (1), .string s, .int .i64 num, .slice sa sn sc])
    go_enter Tryz.func32, Tryz.ntmps32
    go_wp2_with fail
    refine (iExprOf_any (1) s num _ _).mono ?_
    rintro e w1 ⟨rfl, x1⟩
    have N1 := NB.out.ext (show Ext _ ((w.alloc (.cells #[.int .i64 (1), .string s, .int .i64 num, .slice sa sn sc] 79)).alloc (.cells #[.int .i64 0, .string ⟨#[]⟩, .int .i64 0] 81)) from (by repeat (with_reducible (first | assumption | exact Ext.refl _ | apply Ext.alloc | apply Ext.drew | apply Ext.drewN))))
    have R1 := Blk.new (w.alloc (.cells #[.int .i64 (1), .string s, .int .i64 num, .slice sa sn sc] 79)) 81 [.int .i64 0, .string ⟨#[]⟩, .int .i64 0]
    rw [World.size_alloc] at R1
    have X1 : Ext w w1 := Ext.trans (by repeat (with_reducible (first | assumption | exact Ext.refl _ | apply Ext.alloc | apply Ext.drew | apply Ext.drewN))) x1
    have N2 := N1.ext x1
    have R2 := R1.ext x1
    have M2 := hid (HM.out.ext X1)
    have n0 := N2.cell 0 rfl
    have n1 := N2.cell 1 rfl
    have n2 := N2.cell 2 rfl
    have r0 := R2.cell 0 rfl
    have r1 := R2.cell 1 rfl
    have r2 := R2.cell 2 rfl
    have f0 := R2.free 0
    have f1 := R2.free 1
    have f2 := R2.free 2
    have zn := N2.lt
    have zr := R2.lt
    clear N1 R1 N2 R2 x1
    unfold exprV
    rw [if_neg (by decide), if_neg (by decide)]
    go_wp2
    refine bodyPost_ret (v := .agg #[.int .i64 (1), .string ⟨#[]⟩, .int .i64 (num)]) (by simp [results, Tryz.results32, go_sem, *]) rfl ?_
    exact ⟨rfl, (by repeat (first | with_reducible assumption | with_reducible exact Ext.refl _ | with_reducible apply Ext.alloc | with_reducible apply Ext.drew | with_reducible apply Ext.drewN | (with_reducible refine Ext.setCell ?_ (by simp; omega) _) | (with_reducible refine Ext.setCell ?_ (by simp) _)))⟩
  by_cases o3 : op = 3
  · subst o3
    clear nF
    have hi : insOf p ⟨3, s, num, ra⟩ = ⟨5, ⟨#[]⟩, 3⟩ := rfl
    rw [insOf_val hi]
    clear hi
    have NB := hid (Blk.new w 79 [.int .i64 (3), .string s, .int .i64 num, .slice sa sn sc])
    go_enter Tryz.func32, Tryz.ntmps32
    go_wp2_with fail
    refine (iExprOf_any (3) s num _ _).mono ?_
    rintro e w1 ⟨rfl, x1⟩
    have N1 := NB.out.ext (show Ext _ ((w.alloc (.cells #[.int .i64 (3), .string s, .int .i64 num, .slice sa sn sc] 79)).alloc (.cells #[.int .i64 0, .string ⟨#[]⟩, .int .i64 0] 81)) from (by repeat (with_reducible (first | assumption | exact Ext.refl _ | apply Ext.alloc | apply Ext.drew | apply Ext.drewN))))
    have R1 := Blk.new (w.alloc (.cells #[.int .i64 (3), .string s, .int .i64 num, .slice sa sn sc] 79)) 81 [.int .i64 0, .string ⟨#[]⟩, .int .i64 0]
    rw [World.size_alloc] at R1
    have X1 : Ext w w1 := Ext.trans (by repeat (with_reducible (first | assumption | exact Ext.refl _ | apply Ext.alloc | apply Ext.drew | apply Ext.drewN))) x1
    have N2 := N1.ext x1
    have R2 := R1.ext x1
    have M2 := hid (HM.out.ext X1)
    have n0 := N2.cell 0 rfl
    have n1 := N2.cell 1 rfl
    have n2 := N2.cell 2 rfl
    have r0 := R2.cell 0 rfl
    have r1 := R2.cell 1 rfl
    have r2 := R2.cell 2 rfl
    have f0 := R2.free 0
    have f1 := R2.free 1
    have f2 := R2.free 2
    have zn := N2.lt
    have zr := R2.lt
    clear N1 R1 N2 R2 x1
    unfold exprV
    rw [if_neg (by decide), if_neg (by decide)]
    go_wp2
    refine bodyPost_ret (v := .agg #[.int .i64 (5), .string ⟨#[]⟩, .int .i64 (3)]) (by simp [results, Tryz.results32, go_sem, *]) rfl ?_
    exact ⟨rfl, (by repeat (first | with_reducible assumption | with_reducible exact Ext.refl _ | with_reducible apply Ext.alloc | with_reducible apply Ext.drew | with_reducible apply Ext.drewN | (with_reducible refine Ext.setCell ?_ (by simp; omega) _) | (with_reducible refine Ext.setCell ?_ (by simp) _)))⟩
  by_cases o2 : op = 2
  · subst o2
    have h0 := as_vv (.agg #[.int .i64 2, .string s, .int .i64 num, .slice sa sn sc])
    clear nF
    cases hv : isVar s
    · obtain ⟨i, hi0, hik⟩ := hK.name j _ HX.out rfl hv
      simp only at hi0
      have HI := hid hi0
      have hil := (frst_some hi0).1
      have hix : ixOf p s = i := by unfold ixOf; rw [hi0]; rfl
      have HV := hid hv
      clear hi0
      have hi : insOf p ⟨2, s, num, ra⟩ = ⟨3, ⟨#[]⟩, (i : Nat)⟩ := by unfold insOf; simp [hv, hix]
      rw [insOf_val hi]
      clear hi
      clear hv hix
      have NB := hid (Blk.new w 79 [.int .i64 (2), .string s, .int .i64 num, .slice sa sn sc])
      go_enter Tryz.func32, Tryz.ntmps32
      go_wp2_with fail
      refine (iExprOf_any (2) s num _ _).mono ?_
      rintro e w1 ⟨rfl, x1⟩
      have N1 := NB.out.ext (show Ext _ ((w.alloc (.cells #[.int .i64 (2), .string s, .int .i64 num, .slice sa sn sc] 79)).alloc (.cells #[.int .i64 0, .string ⟨#[]⟩, .int .i64 0] 81)) from (by repeat (with_reducible (first | assumption | exact Ext.refl _ | apply Ext.alloc | apply Ext.drew | apply Ext.drewN))))
      have R1 := Blk.new (w.alloc (.cells #[.int .i64 (2), .string s, .int .i64 num, .slice sa sn sc] 79)) 81 [.int .i64 0, .string ⟨#[]⟩, .int .i64 0]
      rw [World.size_alloc] at R1
      have X1 : Ext w w1 := Ext.trans (by repeat (with_reducible (first | assumption | exact Ext.refl _ | apply Ext.alloc | apply Ext.drew | apply Ext.drewN))) x1
      have N2 := N1.ext x1
      have R2 := R1.ext x1
      have M2 := hid (HM.out.ext X1)
      have n0 := N2.cell 0 rfl
      have n1 := N2.cell 1 rfl
      have n2 := N2.cell 2 rfl
      have r0 := R2.cell 0 rfl
      have r1 := R2.cell 1 rfl
      have r2 := R2.cell 2 rfl
      have f0 := R2.free 0
      have f1 := R2.free 1
      have f2 := R2.free 2
      have zn := N2.lt
      have zr := R2.lt
      clear N1 R1 N2 R2 x1
      unfold exprV
      rw [if_pos rfl]
      go_wp2_with (first | (at_lookup; refine wpList_first _ rfl _ _ rfl _ _ _ rfl (M2.out.ext (by repeat (with_reducible (first | assumption | exact Ext.refl _ | apply Ext.alloc | apply Ext.drew | apply Ext.drewN)))) _ hs rfl _ HI.out ?_) | (go_at_call 54; refine (iIsVariable_val HV.out _).mono ?_; rintro e w3 ⟨rfl, rfl⟩))
      refine bodyPost_ret (v := .agg #[.int .i64 (3), .string ⟨#[]⟩, .int .i64 ((i : Nat))]) (by simp [results, Tryz.results32, go_sem, *]) rfl ?_
      exact ⟨rfl, (by repeat (first | with_reducible assumption | with_reducible exact Ext.refl _ | with_reducible apply Ext.alloc | with_reducible apply Ext.drew | with_reducible apply Ext.drewN | (with_reducible refine Ext.setCell ?_ (by simp; omega) _) | (with_reducible refine Ext.setCell ?_ (by simp) _)))⟩
    · have HV := hid hv
      have hi : insOf p ⟨2, s, num, ra⟩ = ⟨2, s, 0⟩ := by unfold insOf; simp [hv]
      rw [insOf_val hi]
      clear hi
      clear hv
      have NB := hid (Blk.new w 79 [.int .i64 (2), .string s, .int .i64 num, .slice sa sn sc])
      go_enter Tryz.func32, Tryz.ntmps32
      go_wp2_with fail
      refine (iExprOf_any (2) s num _ _).mono ?_
      rintro e w1 ⟨rfl, x1⟩
      have N1 := NB.out.ext (show Ext _ ((w.alloc (.cells #[.int .i64 (2), .string s, .int .i64 num, .slice sa sn sc] 79)).alloc (.cells #[.int .i64 0, .string ⟨#[]⟩, .int .i64 0] 81)) from (by repeat (with_reducible (first | assumption | exact Ext.refl _ | apply Ext.alloc | apply Ext.drew | apply Ext.drewN))))
      have R1 := Blk.new (w.alloc (.cells #[.int .i64 (2), .string s, .int .i64 num, .slice sa sn sc] 79)) 81 [.int .i64 0, .string ⟨#[]⟩, .int .i64 0]
      rw [World.size_alloc] at R1
      have X1 : Ext w w1 := Ext.trans (by repeat (with_reducible (first | assumption | exact Ext.refl _ | apply Ext.alloc | apply Ext.drew | apply Ext.drewN))) x1
      have N2 := N1.ext x1
      have R2 := R1.ext x1
      have M2 := hid (HM.out.ext X1)
      have n0 := N2.cell 0 rfl
      have n1 := N2.cell 1 rfl
      have n2 := N2.cell 2 rfl
      have r0 := R2.cell 0 rfl
      have r1 := R2.cell 1 rfl
      have r2 := R2.cell 2 rfl
      have f0 := R2.free 0
      have f1 := R2.free 1
      have f2 := R2.free 2
      have zn := N2.lt
      have zr := R2.lt
      clear N1 R1 N2 R2 x1
      unfold exprV
      rw [if_pos rfl]
      go_wp2_with (go_at_call 54; refine (iIsVariable_val HV.out _).mono ?_; rintro e w3 ⟨rfl, rfl⟩)
      refine bodyPost_ret (v := .agg #[.int .i64 (2), .string s, .int .i64 (0)]) (by simp [results, Tryz.results32, go_sem, *]) rfl ?_
      exact ⟨rfl, (by repeat (first | with_reducible assumption | with_reducible exact Ext.refl _ | with_reducible apply Ext.alloc | with_reducible apply Ext.drew | with_reducible apply Ext.drewN | (with_reducible refine Ext.setCell ?_ (by simp; omega) _) | (with_reducible refine Ext.setCell ?_ (by simp) _)))⟩
  by_cases o8 : op = 8
  · subst o8
    have h0 := as_cv (.agg #[.int .i64 8, .string s, .int .i64 num, .slice sa sn sc])
    have h1 := as_cc (.agg #[.int .i64 8, .string s, .int .i64 num, .slice sa sn sc])
    clear nF
    have hi : insOf p ⟨8, s, num, ra⟩ = ⟨7, s, 0⟩ := rfl
    rw [insOf_val hi]
    clear hi
    have NB := hid (Blk.new w 79 [.int .i64 (8), .string s, .int .i64 num, .slice sa sn sc])
    go_enter Tryz.func32, Tryz.ntmps32
    go_wp2_with fail
    refine (iExprOf_any (8) s num _ _).mono ?_
    rintro e w1 ⟨rfl, x1⟩
    have N1 := NB.out.ext (show Ext _ ((w.alloc (.cells #[.int .i64 (8), .string s, .int .i64 num, .slice sa sn sc] 79)).alloc (.cells #[.int .i64 0, .string ⟨#[]⟩, .int .i64 0] 81)) from (by repeat (with_reducible (first | assumption | exact Ext.refl _ | apply Ext.alloc | apply Ext.drew | apply Ext.drewN))))
    have R1 := Blk.new (w.alloc (.cells #[.int .i64 (8), .string s, .int .i64 num, .slice sa sn sc] 79)) 81 [.int .i64 0, .string ⟨#[]⟩, .int .i64 0]
    rw [World.size_alloc] at R1
    have X1 : Ext w w1 := Ext.trans (by repeat (with_reducible (first | assumption | exact Ext.refl _ | apply Ext.alloc | apply Ext.drew | apply Ext.drewN))) x1
    have N2 := N1.ext x1
    have R2 := R1.ext x1
    have M2 := hid (HM.out.ext X1)
    have n0 := N2.cell 0 rfl
    have n1 := N2.cell 1 rfl
    have n2 := N2.cell 2 rfl
    have r0 := R2.cell 0 rfl
    have r1 := R2.cell 1 rfl
    have r2 := R2.cell 2 rfl
    have f0 := R2.free 0
    have f1 := R2.free 1
    have f2 := R2.free 2
    have zn := N2.lt
    have zr := R2.lt
    clear N1 R1 N2 R2 x1
    unfold exprV
    rw [if_neg (by decide), if_pos rfl]
    go_wp2
    refine bodyPost_ret (v := .agg #[.int .i64 (7), .string s, .int .i64 (0)]) (by simp [results, Tryz.results32, go_sem, *]) rfl ?_
    exact ⟨rfl, (by repeat (first | with_reducible assumption | with_reducible exact Ext.refl _ | with_reducible apply Ext.alloc | with_reducible apply Ext.drew | with_reducible apply Ext.drewN | (with_reducible refine Ext.setCell ?_ (by simp; omega) _) | (with_reducible refine Ext.setCell ?_ (by simp) _)))⟩
  have h0 := as_pv (.agg #[.int .i64 op, .string s, .int .i64 num, .slice sa sn sc])
  have h1 := as_pc (.agg #[.int .i64 op, .string s, .int .i64 num, .slice sa sn sc])
  have b1 : (op == 1) = false := beq_eq_false_iff_ne.2 o1
  have b3 : (op == 3) = false := beq_eq_false_iff_ne.2 o3
  have hi : insOf p ⟨op, s, num, ra⟩ = ⟨6, ⟨#[]⟩, op⟩ := by unfold insOf; simp [o1, o2, o3, o8]
  rw [insOf_val hi]
  clear hi
  have NB := hid (Blk.new w 79 [.int .i64 (op), .string s, .int .i64 num, .slice sa sn sc])
  go_enter Tryz.func32, Tryz.ntmps32
  go_wp2_with fail
  refine (iExprOf_any (op) s num _ _).mono ?_
  rintro e w1 ⟨rfl, x1⟩
  have N1 := NB.out.ext (show Ext _ ((w.alloc (.cells #[.int .i64 (op), .string s, .int .i64 num, .slice sa sn sc] 79)).alloc (.cells #[.int .i64 0, .string ⟨#[]⟩, .int .i64 0] 81)) from (by repeat (with_reducible (first | assumption | exact Ext.refl _ | apply Ext.alloc | apply Ext.drew | apply Ext.drewN))))
  have R1 := Blk.new (w.alloc (.cells #[.int .i64 (op), .string s, .int .i64 num, .slice sa sn sc] 79)) 81 [.int .i64 0, .string ⟨#[]⟩, .int .i64 0]
  rw [World.size_alloc] at R1
  have X1 : Ext w w1 := Ext.trans (by repeat (with_reducible (first | assumption | exact Ext.refl _ | apply Ext.alloc | apply Ext.drew | apply Ext.drewN))) x1
  have N2 := N1.ext x1
  have R2 := R1.ext x1
  have M2 := hid (HM.out.ext X1)
  have n0 := N2.cell 0 rfl
  have n1 := N2.cell 1 rfl
  have n2 := N2.cell 2 rfl
  have r0 := R2.cell 0 rfl
  have r1 := R2.cell 1 rfl
  have r2 := R2.cell 2 rfl
  have f0 := R2.free 0
  have f1 := R2.free 1
  have f2 := R2.free 2
  have zn := N2.lt
  have zr := R2.lt
  clear N1 R1 N2 R2 x1
  unfold exprV
  rw [if_neg o2, if_neg o8]
  go_wp2
  refine bodyPost_ret (v := .agg #[.int .i64 (6), .string ⟨#[]⟩, .int .i64 (op)]) (by simp [results, Tryz.results32, go_sem, *]) rfl ?_
  exact ⟨rfl, (by repeat (first | with_reducible assumption | with_reducible exact Ext.refl _ | with_reducible apply Ext.alloc | with_reducible apply Ext.drew | with_reducible apply Ext.drewN | (with_reducible refine Ext.setCell ?_ (by simp; omega) _) | (with_reducible refine Ext.setCell ?_ (by simp) _)))⟩
end Go.Proofs.YtaegmenjgjdimaaGreat
end

section
/- This text holds owned slices of structs, the tokens of the shading language, and the worlds in which one box and the rows of one type are written. -/
namespace Go.Proofs.YtaegmenjgjdimaaGreat
open Go.RowKit

/-- v owns, from block lo on, a row of elements xs of type e; element x fills the cells cs x -/
def OwnG {α : Type} (cs : α → List Value) (lo : Nat) (e : TypeId) (sz : Nat) (w : World) (v : Value) (xs : List α) : Prop := w.ownsRow lo e sz v xs.length (xs.flatMap cs)
theorem flatMap_at {α : Type} {cs : α → List Value} {sz : Nat} (hc : ∀ x, (cs x).length = sz) : ∀ {xs : List α} {i : Nat} {x : α}, xs[i]? = some x → ∀ j, j < sz → (xs.flatMap cs)[i * sz + j]? = (cs x)[j]?
  | [], _, _, h, _, _ => by simp at h
  | y :: r, 0, x, h, j, hj => by
    simp at h
    subst h
    rw [List.flatMap_cons, Nat.zero_mul, Nat.zero_add, List.getElem?_append_left (by rw [hc]; exact hj)]
  | y :: r, i + 1, x, h, j, hj => by
    rw [List.flatMap_cons, Nat.succ_mul, List.getElem?_append_right (by rw [hc]; omega), hc, show i * sz + sz + j - sz = i * sz + j by omega]
    exact flatMap_at hc (by simpa using h) j hj
theorem flatMap_len {α : Type} {cs : α → List Value} {sz : Nat} (hc : ∀ x, (cs x).length = sz) : ∀ xs : List α, (xs.flatMap cs).length = xs.length * sz
  | [] => by simp
  | y :: r => by rw [List.flatMap_cons, List.length_append, hc, flatMap_len hc r, List.length_cons, Nat.succ_mul]; omega
theorem OwnG.nil {α : Type} (cs : α → List Value) (lo : Nat) (e : TypeId) (sz : Nat) (w : World) : OwnG cs lo e sz w (.slice none 0 0) [] := World.ownsRow_nil _ _ _ _
theorem OwnG.lt {α : Type} {cs : α → List Value} {lo : Nat} {e : TypeId} {sz : Nat} {w : World} {v : Value} {xs : List α} (h : OwnG cs lo e sz w v xs) : ∀ k, v.ownBlock = some k → lo ≤ k ∧ k < w.heap.size := World.ownsRow.lt h
theorem OwnG.form {α : Type} {cs : α → List Value} {lo : Nat} {e : TypeId} {sz : Nat} {w : World} {v : Value} {xs : List α} (h : OwnG cs lo e sz w v xs) : ∃ a cap, v = .slice a xs.length cap ∧ xs.length ≤ 9223372036854775807 := by
  rcases h.2 with ⟨rfl, h4⟩ | ⟨g, cap, cur, rfl, hb, hg, hc, hm, hs, ht⟩
  · exact ⟨none, 0, by rw [h4], by omega⟩
  · exact ⟨some ⟨g, 0, none⟩, cap, rfl, by unfold maxLen at hm; omega⟩
/-- the row's block stands as it stood -/
theorem OwnG.of {α : Type} {cs : α → List Value} {lo : Nat} {e : TypeId} {sz : Nat} {w w' : World} {v : Value} {xs : List α} (h : OwnG cs lo e sz w v xs) (s : ∀ b c, lo ≤ b → w.heap[b]? = some (.cells c e (0, 0)) → w'.heap[b]? = some (.cells c e (0, 0))) : OwnG cs lo e sz w' v xs := by
  refine ⟨h.1, ?_⟩
  rcases h.2 with hn | ⟨g, cap, cur, hv, hb, hg, r⟩
  · exact .inl hn
  · exact .inr ⟨g, cap, cur, hv, hb, s g cur hb hg, r⟩
theorem OwnG.ext {α : Type} {cs : α → List Value} {lo : Nat} {e : TypeId} {sz : Nat} {w w' : World} {v : Value} {xs : List α} (h : OwnG cs lo e sz w v xs) (x : Ext w w') : OwnG cs lo e sz w' v xs :=
  h.of fun b c _ hb => (x.block (Array.getElem?_eq_some_iff.1 hb).1).trans hb
theorem OwnG.low {α : Type} {cs : α → List Value} {lo lo' : Nat} {e : TypeId} {sz : Nat} {w : World} {v : Value} {xs : List α} (h : OwnG cs lo e sz w v xs) (hl : lo' ≤ lo) : OwnG cs lo' e sz w v xs := by
  refine ⟨h.1, ?_⟩
  rcases h.2 with hn | ⟨g, cap, cur, hv, hb, r⟩
  · exact .inl hn
  · exact .inr ⟨g, cap, cur, hv, by omega, r⟩
/-- element i: where its cells lie -/
theorem OwnG.at {α : Type} {cs : α → List Value} {lo : Nat} {e : TypeId} {sz : Nat} {w : World} {v : Value} {xs : List α} (h : OwnG cs lo e sz w v xs) (hc : ∀ x, (cs x).length = sz) {i : Nat} {x : α} (hx : xs[i]? = some x) :
    ∃ g cap, v = .slice (some ⟨g, 0, none⟩) xs.length cap ∧ lo ≤ g ∧ g < w.heap.size ∧ xs.length ≤ cap ∧ cap ≤ 9223372036854775807 ∧ (∃ c, w.heap[g]? = some (.cells c e (0, 0))) ∧ ∀ j, j < sz → w.cell? ⟨g, i * sz + j, none⟩ = (cs x)[j]? := by
  have hi := (List.getElem?_eq_some_iff.1 hx).1
  rcases h.2 with ⟨rfl, h4⟩ | ⟨g, cap, cur, rfl, hb, hg, hcap, hm, hs, ht⟩
  · omega
  · refine ⟨g, cap, rfl, hb, (Array.getElem?_eq_some_iff.1 hg).1, hcap, by unfold maxLen at hm; omega, ⟨_, hg⟩, fun j hj => ?_⟩
    have e1 := flatMap_at hc hx j hj
    rw [← ht, List.getElem?_take, if_pos (flat_lt hi hj)] at e1
    rw [← e1]
    simp only [World.cell?, hg]
    simp

/-- w' is w with new blocks, and, from lo on, block B and the rows of type e written -/
structure KN (lo B : Nat) (e : TypeId) (w w' : World) : Prop where
  os : w'.os = w.os
  tape : w'.tape = w.tape
  output : w'.output = w.output
  size : w.heap.size ≤ w'.heap.size
  block : ∀ b, b < w.heap.size → (b < lo ∨ (b ≠ B ∧ ∀ c, w.heap[b]? ≠ some (.cells c e (0, 0)))) → w'.heap[b]? = w.heap[b]?
theorem KN.refl (lo B : Nat) (e : TypeId) (w : World) : KN lo B e w w := ⟨rfl, rfl, rfl, Nat.le_refl _, fun _ _ _ => rfl⟩
theorem KN.trans {lo B : Nat} {e : TypeId} {w w1 w2 : World} (h : KN lo B e w w1) (k : KN lo B e w1 w2) : KN lo B e w w2 :=
  ⟨k.os.trans h.os, k.tape.trans h.tape, k.output.trans h.output, Nat.le_trans h.size k.size, fun b hb hn => by
    have e1 := h.block b hb hn
    exact (k.block b (Nat.lt_of_lt_of_le hb h.size) (by rw [e1]; exact hn)).trans e1⟩
theorem Ext.kn {w w' : World} (h : Ext w w') (lo B : Nat) (e : TypeId) : KN lo B e w w' := ⟨h.os, h.tape, h.output, h.size, fun b hb _ => h.block hb⟩
theorem KN.ext {lo B : Nat} {e : TypeId} {w w1 w2 : World} (h : KN lo B e w w1) (k : Ext w1 w2) : KN lo B e w w2 := h.trans (k.kn lo B e)
theorem KN.set {lo B : Nat} {e : TypeId} {w w1 : World} (h : KN lo B e w w1) (hl : lo ≤ B) (i : Nat) (u : Value) : KN lo B e w (w1.setCell ⟨B, i, none⟩ u) :=
  h.trans ⟨rfl, rfl, rfl, by rw [World.size_setCell]; exact Nat.le_refl _, fun b _ hn => Below.heap_setCell _ _ _ _ (by simp only; rcases hn with hn | hn <;> omega)⟩
/-- a row of type e grew -/
theorem KN.grown {lo B : Nat} {e : TypeId} {w w1 w2 : World} {row : Option Nat} (h : KN lo B e w w1) (hg : w1.grownBy w2 row) (hr : ∀ k, row = some k → lo ≤ k ∧ ∃ c, w1.heap[k]? = some (.cells c e (0, 0))) : KN lo B e w w2 :=
  h.trans ⟨hg.os, hg.tape, hg.output, hg.size, fun b hb hn => hg.block b hb (fun e1 => by
    obtain ⟨h1, c, h2⟩ := hr b e1.symm
    rcases hn with hn | hn
    · omega
    · exact hn.2 c h2)⟩
/-- a block made since was written -/
theorem KN.setNew {lo B : Nat} {e : TypeId} {w w1 : World} (h : KN lo B e w w1) {b : Nat} (hb : w.heap.size ≤ b) (i : Nat) (u : Value) : KN lo B e w (w1.setCell ⟨b, i, none⟩ u) :=
  ⟨h.os, h.tape, h.output, by rw [World.size_setCell]; exact h.size, fun k hk hn => (Below.heap_setCell _ _ _ _ (by simp only; omega)).trans (h.block k hk hn)⟩
theorem KN.up {lo B : Nat} {e : TypeId} {w0 w w1 : World} (h : KN lo B e w w1) (x : Ext w0 w) (hl : w0.heap.size ≤ lo) : Ext w0 w1 := by
  refine Ext.trans (Ext.refl w0) ?_
  refine (Ext.refl w0).grown (row := none) ⟨h.os.trans x.os, h.tape.trans x.tape, h.output.trans x.output, Nat.le_trans x.size h.size, fun b hb _ => ?_⟩ (fun k hk => by cases hk)
  exact (h.block b (Nat.lt_of_lt_of_le hb x.size) (.inl (by omega))).trans (x.block hb)
theorem KN.row {lo B : Nat} {e e' : TypeId} {α : Type} {cs : α → List Value} {sz lo' : Nat} {w w' : World} {v : Value} {xs : List α} (h : OwnG cs lo' e' sz w v xs) (k : KN lo B e w w') (hB : ∀ c, w.heap[B]? ≠ some (.cells c e' (0, 0))) (he : e' ≠ e) : OwnG cs lo' e' sz w' v xs :=
  h.of fun b c _ hb => (k.block b (Array.getElem?_eq_some_iff.1 hb).1 (.inr ⟨fun e1 => hB c (e1 ▸ hb), fun c' h' => by rw [hb] at h'; simp only [Option.some.injEq, Obj.cells.injEq] at h'; exact he h'.2.1⟩)).trans hb
theorem KN.ints {lo B : Nat} {e : TypeId} {lo' : Nat} {w w' : World} {v : Value} {xs : List Int} (h : OwnInts lo' w v xs) (k : KN lo B e w w') (hB : ∀ c, w.heap[B]? ≠ some (.cells c 3 (0, 0))) (he : 3 ≠ e) : OwnInts lo' w' v xs := by
  obtain ⟨⟨h1, h2⟩, h3⟩ := h
  refine ⟨⟨h1, ?_⟩, h3⟩
  rcases h2 with hn | ⟨g, cap, cur, hv, hb, hg, r⟩
  · exact .inl hn
  · refine .inr ⟨g, cap, cur, hv, hb, ?_, r⟩
    exact (k.block g (Array.getElem?_eq_some_iff.1 hg).1 (.inr ⟨fun e1 => hB cur (e1 ▸ hg), fun c' h' => by rw [hg] at h'; simp only [Option.some.injEq, Obj.cells.injEq] at h'; exact he h'.2.1⟩)).trans hg
theorem KN.blk {lo B : Nat} {e : TypeId} {w w' : World} {g : Nat} {t : TypeId} {cs : List Value} (h : Blk w g t cs) (k : KN lo B e w w') (hg : g ≠ B) (ht : t ≠ e) : Blk w' g t cs :=
  h.of (k.block g h.lt (.inr ⟨hg, fun c' h' => by unfold Blk at h; rw [h] at h'; simp only [Option.some.injEq, Obj.cells.injEq] at h'; exact ht h'.2.1⟩))

/-- a token: its kind, text, number, offset -/
structure Tok where
  kind : Int
  text : ByteArray
  num : Int
  off : Int
def Tok.cs (t : Tok) : List Value := [.int .i64 t.kind, .string t.text, .int .i64 t.num, .int .i64 t.off]
/-- a node and the slice value of its arguments -/
def ndCs (p : Nd × Value) : List Value := [.int .i64 p.1.op, .string p.1.name, .int .i64 p.1.num, p.2]
def Asg.cs (a : Asg) : List Value := [.string a.name, .int .i64 a.root]
def OwnToks (lo : Nat) (w : World) (v : Value) (xs : List Tok) : Prop := OwnG Tok.cs lo 145 4 w v xs
def OwnAsgs (lo : Nat) (w : World) (v : Value) (xs : List Asg) : Prop := OwnG Asg.cs lo 74 2 w v xs
/-- rows of nodes whose arguments lie in no block of X -/
def OwnNds (lo : Nat) (X : Nat → Prop) (w : World) (v : Value) (xs : List Nd) : Prop := ∃ ps : List (Nd × Value), ps.map (·.1) = xs ∧ OwnG ndCs lo 79 4 w v ps ∧ ∀ p ∈ ps, OwnInts lo w p.2 p.1.args ∧ ∀ k, p.2.ownBlock = some k → ¬ X k
theorem info_Token : (Tryz.prog.info? 145).map (fun i => (i.zero, i.size, i.bytes)) = some (some (.agg #[.int .i64 0, .string ⟨#[]⟩, .int .i64 0, .int .i64 0]), 4, 40) := by kernel_rfl
theorem info_NodeT : (Tryz.prog.info? 79).map (fun i => (i.zero, i.size, i.bytes)) = some (some (.agg #[.int .i64 0, .string ⟨#[]⟩, .int .i64 0, .slice none 0 0]), 4, 56) := by kernel_rfl
theorem info_AsgT : (Tryz.prog.info? 74).map (fun i => (i.zero, i.size, i.bytes)) = some (some (.agg #[.string ⟨#[]⟩, .int .i64 0]), 2, 24) := by kernel_rfl

/-- append of one element to an owned row -/
theorem wpList_append_elt {α : Type} (cs : α → List Value) (e : TypeId) (sz bytes : Nat) (z : Value) (w : World) {ops : Array Oper} {rest : List Oper} {o : Oper} {a : Act} {Q : Exit → Act → World → Prop} (hg : o.guard = none) (s x : Operand) (t : TypeId)
    (hop : o.op = Op.call { callee := Callee.builtin Builtin.append, args := #[s, x], argTypes := #[t, t] }) (ht : Tryz.prog.underlying t = some (.slice e))
    (hinfo : (Tryz.prog.info? e).map (fun i => (i.zero, i.size, i.bytes)) = some (some z, sz, bytes)) (hzs : z.cells.size = sz) (hsz : 0 < sz) (hby : bytes ≤ 1000) (hc : ∀ x, (cs x).length = sz)
    (lo : Nat) (v : Value) (xs : List α) (hs : a.eval s = v) (hown : OwnG cs lo e sz w v xs)
    (y : α) (b : Nat) (hx : a.eval x = .slice (some ⟨b, 0, none⟩) 1 1) (hcell : ∀ j, j < sz → w.cell? ⟨b, j, none⟩ = (cs y)[j]?) (h1 : ∀ u ∈ cs y, u.oneCell' = true) (hlen : xs.length < 1000000) (hlo : lo ≤ w.heap.size)
    (hK : ∀ v' w', OwnG cs lo e sz w' v' (xs ++ [y]) → w.grownBy w' v.ownBlock → wpList Tryz.prog ops Q rest (a.put o.dst v') w') : wpList Tryz.prog ops Q (o :: rest) a w := by
  obtain ⟨i0, hi0, hz0, hz1, hz2⟩ := info_parts hinfo
  refine wpList_append_own w hg s x t hop lo e i0 z sz bytes ht hi0 hz0 hz1 hz2 hzs hsz v xs.length _ hs hown ⟨b, 0, none⟩ 1 1 (cs y) hx (by rw [hc, Nat.one_mul]) ?_ h1 ?_ ?_ hlo ?_
  · intro j u hj
    have hjl : j < sz := by rw [← hc y]; exact (List.getElem?_eq_some_iff.1 hj).1
    have ea : (⟨b, 0, none⟩ : Addr).add j = ⟨b, j, none⟩ := by
      unfold Addr.add
      split <;> simp_all
    rw [ea, hcell j hjl, hj]
  · unfold maxLen; omega
  · have : (xs.length + 1) * bytes ≤ 1000000 * 1000 := Nat.mul_le_mul (by omega) hby
    omega
  · intro v' w1 hown' hgrow _
    refine hK v' w1 ?_ hgrow
    unfold OwnG
    rw [List.length_append, List.flatMap_append]
    simpa using hown'
theorem wpList_append_tok (w : World) {ops : Array Oper} {rest : List Oper} {o : Oper} {a : Act} {Q : Exit → Act → World → Prop} (hg : o.guard = none) (s x : Operand)
    (hop : o.op = Op.call { callee := Callee.builtin Builtin.append, args := #[s, x], argTypes := #[138, 138] }) (lo : Nat) (v : Value) (xs : List Tok) (hs : a.eval s = v) (hown : OwnToks lo w v xs)
    (y : Tok) (b : Nat) (hx : a.eval x = .slice (some ⟨b, 0, none⟩) 1 1) (hcell : w.cell? ⟨b, 0, none⟩ = some (.int .i64 y.kind) ∧ w.cell? ⟨b, 1, none⟩ = some (.string y.text) ∧ w.cell? ⟨b, 2, none⟩ = some (.int .i64 y.num) ∧ w.cell? ⟨b, 3, none⟩ = some (.int .i64 y.off)) (hlen : xs.length < 1000000) (hlo : lo ≤ w.heap.size)
    (hK : ∀ v' w', OwnToks lo w' v' (xs ++ [y]) → w.grownBy w' v.ownBlock → wpList Tryz.prog ops Q rest (a.put o.dst v') w') : wpList Tryz.prog ops Q (o :: rest) a w := by
  refine wpList_append_elt Tok.cs 145 4 40 _ w hg s x 138 hop Tryz.underlying138 info_Token rfl (by decide) (by decide) (fun _ => rfl) lo v xs hs hown y b hx ?_ ?_ hlen hlo hK
  · intro j hj
    obtain ⟨c0, c1, c2, c3⟩ := hcell
    rcases (show j = 0 ∨ j = 1 ∨ j = 2 ∨ j = 3 by omega) with rfl | rfl | rfl | rfl
    · exact c0
    · exact c1
    · exact c2
    · exact c3
  · intro u hu
    simp only [Tok.cs, List.mem_cons, List.not_mem_nil, or_false] at hu
    rcases hu with rfl | rfl | rfl | rfl <;> rfl
theorem wpList_append_asg (w : World) {ops : Array Oper} {rest : List Oper} {o : Oper} {a : Act} {Q : Exit → Act → World → Prop} (hg : o.guard = none) (s x : Operand)
    (hop : o.op = Op.call { callee := Callee.builtin Builtin.append, args := #[s, x], argTypes := #[24, 24] }) (lo : Nat) (v : Value) (xs : List Asg) (hs : a.eval s = v) (hown : OwnAsgs lo w v xs)
    (y : Asg) (b : Nat) (hx : a.eval x = .slice (some ⟨b, 0, none⟩) 1 1) (hcell : w.cell? ⟨b, 0, none⟩ = some (.string y.name) ∧ w.cell? ⟨b, 1, none⟩ = some (.int .i64 y.root)) (hlen : xs.length < 1000000) (hlo : lo ≤ w.heap.size)
    (hK : ∀ v' w', OwnAsgs lo w' v' (xs ++ [y]) → w.grownBy w' v.ownBlock → wpList Tryz.prog ops Q rest (a.put o.dst v') w') : wpList Tryz.prog ops Q (o :: rest) a w := by
  refine wpList_append_elt Asg.cs 74 2 24 _ w hg s x 24 hop Tryz.underlying24 info_AsgT rfl (by decide) (by decide) (fun _ => rfl) lo v xs hs hown y b hx ?_ ?_ hlen hlo hK
  · intro j hj
    obtain ⟨c0, c1⟩ := hcell
    rcases (show j = 0 ∨ j = 1 by omega) with rfl | rfl
    · exact c0
    · exact c1
  · intro u hu
    simp only [Asg.cs, List.mem_cons, List.not_mem_nil, or_false] at hu
    rcases hu with rfl | rfl <;> rfl
theorem OwnNds.nil (lo : Nat) (X : Nat → Prop) (w : World) : OwnNds lo X w (.slice none 0 0) [] := ⟨[], rfl, OwnG.nil _ _ _ _ _, fun p h => by cases h⟩
theorem OwnNds.form {lo : Nat} {X : Nat → Prop} {w : World} {v : Value} {xs : List Nd} (h : OwnNds lo X w v xs) : ∃ a cap, v = .slice a xs.length cap ∧ xs.length ≤ 9223372036854775807 := by
  obtain ⟨ps, rfl, h1, _⟩ := h
  rw [List.length_map]
  exact h1.form
theorem OwnNds.ext {lo : Nat} {X : Nat → Prop} {w w' : World} {v : Value} {xs : List Nd} (h : OwnNds lo X w v xs) (x : Ext w w') : OwnNds lo X w' v xs := by
  obtain ⟨ps, h0, h1, h2⟩ := h
  exact ⟨ps, h0, h1.ext x, fun p hp => ⟨(h2 p hp).1.ext x, (h2 p hp).2⟩⟩
theorem OwnNds.row {lo : Nat} {X : Nat → Prop} {w : World} {v : Value} {xs : List Nd} (h : OwnNds lo X w v xs) : ∀ k, v.ownBlock = some k → lo ≤ k ∧ ∃ c, w.heap[k]? = some (.cells c 79 (0, 0)) := by
  obtain ⟨ps, h0, h1, h2⟩ := h
  intro k hk
  rcases h1.2 with ⟨rfl, h4⟩ | ⟨g, cap, cur, rfl, hb, hg, hc, hm, hs, ht⟩
  · cases hk
  · simp only [Value.ownBlock, Option.some.injEq] at hk
    subst hk
    exact ⟨hb, cur, hg⟩
/-- a box that is no row is written -/
theorem OwnNds.set {lo B : Nat} {X : Nat → Prop} {w : World} {v : Value} {xs : List Nd} {T : TypeId} {cs : List Value} (h : OwnNds lo X w v xs) (hB : Blk w B T cs) (h1 : T ≠ 79) (h2 : T ≠ 3) (i : Nat) (u : Value) : OwnNds lo X (w.setCell ⟨B, i, none⟩ u) v xs := by
  obtain ⟨ps, h0, h3, h4⟩ := h
  refine ⟨ps, h0, h3.of fun b c _ hb => ?_, fun p hp => ⟨(h4 p hp).1.setOther ?_ u, (h4 p hp).2⟩⟩
  · refine (Below.heap_setCell _ _ _ _ ?_).trans hb
    intro e
    simp only at e
    subst e
    unfold Blk at hB
    rw [hB] at hb
    simp only [Option.some.injEq, Obj.cells.injEq] at hb
    exact h1 hb.2.1
  · intro e
    obtain ⟨cur, hc⟩ := (h4 p hp).1.block e
    unfold Blk at hB
    simp only at hc
    rw [hB] at hc
    simp only [Option.some.injEq, Obj.cells.injEq] at hc
    exact h2 hc.2.1
theorem OwnG.set {α : Type} {cs : α → List Value} {lo : Nat} {e : TypeId} {sz : Nat} {w : World} {v : Value} {xs : List α} {B : Nat} {T : TypeId} {us : List Value} (h : OwnG cs lo e sz w v xs) (hB : Blk w B T us) (h1 : T ≠ e) (i : Nat) (u : Value) : OwnG cs lo e sz (w.setCell ⟨B, i, none⟩ u) v xs := by
  refine h.of fun b c _ hb => (Below.heap_setCell _ _ _ _ ?_).trans hb
  intro e
  simp only at e
  subst e
  unfold Blk at hB
  rw [hB] at hb
  simp only [Option.some.injEq, Obj.cells.injEq] at hb
  exact h1 hb.2.1
/-- append of one node, whose arguments are an owned row, to an owned row of nodes -/
theorem wpList_append_nd (w : World) {ops : Array Oper} {rest : List Oper} {o : Oper} {a : Act} {Q : Exit → Act → World → Prop} (hg : o.guard = none) (s x : Operand)
    (hop : o.op = Op.call { callee := Callee.builtin Builtin.append, args := #[s, x], argTypes := #[23, 23] }) (lo : Nat) (X : Nat → Prop) (v : Value) (xs : List Nd) (hs : a.eval s = v) (hown : OwnNds lo X w v xs)
    (y : Nd) (u : Value) (hu : OwnInts lo w u y.args) (hux : ∀ k, u.ownBlock = some k → ¬ X k) (b : Nat) (hx : a.eval x = .slice (some ⟨b, 0, none⟩) 1 1) (hcell : w.cell? ⟨b, 0, none⟩ = some (.int .i64 y.op) ∧ w.cell? ⟨b, 1, none⟩ = some (.string y.name) ∧ w.cell? ⟨b, 2, none⟩ = some (.int .i64 y.num) ∧ w.cell? ⟨b, 3, none⟩ = some u) (hlen : xs.length < 1000000) (hlo : lo ≤ w.heap.size)
    (hK : ∀ v' w', OwnNds lo X w' v' (xs ++ [y]) → w.grownBy w' v.ownBlock → wpList Tryz.prog ops Q rest (a.put o.dst v') w') : wpList Tryz.prog ops Q (o :: rest) a w := by
  have hrow := hown.row
  obtain ⟨ps, hps, h1, h2⟩ := hown
  have hpl : ps.length = xs.length := by rw [← hps, List.length_map]
  obtain ⟨ua, uc, hue, _⟩ := hu.form
  refine wpList_append_elt ndCs 79 4 56 _ w hg s x 23 hop Tryz.underlying23 info_NodeT rfl (by decide) (by decide) (fun _ => rfl) lo v ps hs h1 (y, u) b hx ?_ ?_ (by omega) hlo ?_
  · intro j hj
    obtain ⟨c0, c1, c2, c3⟩ := hcell
    rcases (show j = 0 ∨ j = 1 ∨ j = 2 ∨ j = 3 by omega) with rfl | rfl | rfl | rfl
    · exact c0
    · exact c1
    · exact c2
    · exact c3
  · intro q hq
    simp only [ndCs, List.mem_cons, List.not_mem_nil, or_false] at hq
    rcases hq with rfl | rfl | rfl | rfl
    · rfl
    · rfl
    · rfl
    · rw [hue]; rfl
  · intro v' w1 hown' hgrow
    have keep : ∀ {p : Nd × Value}, OwnInts lo w p.2 p.1.args → OwnInts lo w1 p.2 p.1.args := fun hp => hp.grown hgrow (fun k hk e => by
      obtain ⟨cur, hc⟩ := hp.block hk
      obtain ⟨_, c, hc'⟩ := hrow k e.symm
      rw [hc] at hc'
      simp only [Option.some.injEq, Obj.cells.injEq] at hc'
      exact absurd hc'.2.1 (by decide))
    refine hK v' w1 ⟨ps ++ [(y, u)], by simp [hps], hown', fun p hp => ?_⟩ hgrow
    rcases List.mem_append.1 hp with h | h
    · exact ⟨keep (h2 p h).1, (h2 p h).2⟩
    · simp only [List.mem_cons, List.not_mem_nil, or_false] at h
      subst h
      exact ⟨keep (p := (y, u)) hu, hux⟩
/-- the blocks of X are others -/
theorem OwnNds.other {lo : Nat} {X Y : Nat → Prop} {w : World} {v : Value} {xs : List Nd} (h : OwnNds lo X w v xs) (hx : ∀ k, k < w.heap.size → ¬ X k → ¬ Y k) : OwnNds lo Y w v xs := by
  obtain ⟨ps, h0, h1, h2⟩ := h
  exact ⟨ps, h0, h1, fun p hp => ⟨(h2 p hp).1, fun k hk => hx k ((h2 p hp).1.lt k hk).2 ((h2 p hp).2 k hk)⟩⟩
/-- a row of integers grew that is none of the nodes' rows -/
theorem OwnNds.grownI {lo : Nat} {X : Nat → Prop} {w w' : World} {v : Value} {xs : List Nd} {row : Option Nat} (h : OwnNds lo X w v xs) (hg : w.grownBy w' row) (hr : ∀ k, row = some k → X k ∧ ∃ c, w.heap[k]? = some (.cells c 3 (0, 0))) : OwnNds lo X w' v xs := by
  obtain ⟨ps, h0, h1, h2⟩ := h
  refine ⟨ps, h0, h1.of fun b c _ hb => (hg.block b (Array.getElem?_eq_some_iff.1 hb).1 fun e => ?_).trans hb, fun p hp => ⟨(h2 p hp).1.grown hg fun k hk e => (h2 p hp).2 k hk (hr k e.symm).1, (h2 p hp).2⟩⟩
  obtain ⟨_, c', hc'⟩ := hr b e.symm
  rw [hb] at hc'
  simp only [Option.some.injEq, Obj.cells.injEq] at hc'
  exact absurd hc'.2.1 (by decide)
end Go.Proofs.YtaegmenjgjdimaaGreat
end

section
/- This text proves what the closure inside the program's Compile does. -/
namespace Go.Proofs.YtaegmenjgjdimaaGreat
open Go.RowKit Go.Maps Go.WideMaps

def Ins.cs (x : Ins) : List Value := [.int .i64 x.op, .string x.name, .int .i64 x.num]
def OwnInss (lo : Nat) (w : World) (v : Value) (xs : List Ins) : Prop := OwnG Ins.cs lo 81 3 w v xs
theorem info_InsT : (Tryz.prog.info? 81).map (fun i => (i.zero, i.size, i.bytes)) = some (some (.agg #[.int .i64 0, .string ⟨#[]⟩, .int .i64 0]), 3, 32) := by kernel_rfl
theorem wpList_append_insn (w : World) {ops : Array Oper} {rest : List Oper} {o : Oper} {a : Act} {Q : Exit → Act → World → Prop} (hg : o.guard = none) (s x : Operand)
    (hop : o.op = Op.call { callee := Callee.builtin Builtin.append, args := #[s, x], argTypes := #[41, 41] }) (lo : Nat) (v : Value) (xs : List Ins) (hs : a.eval s = v) (hown : OwnInss lo w v xs)
    (y : Ins) (b : Nat) (hx : a.eval x = .slice (some ⟨b, 0, none⟩) 1 1) (hcell : w.cell? ⟨b, 0, none⟩ = some (.int .i64 y.op) ∧ w.cell? ⟨b, 1, none⟩ = some (.string y.name) ∧ w.cell? ⟨b, 2, none⟩ = some (.int .i64 y.num)) (hlen : xs.length < 1000000) (hlo : lo ≤ w.heap.size)
    (hK : ∀ v' w', OwnInss lo w' v' (xs ++ [y]) → w.grownBy w' v.ownBlock → wpList Tryz.prog ops Q rest (a.put o.dst v') w') : wpList Tryz.prog ops Q (o :: rest) a w := by
  refine wpList_append_elt Ins.cs 81 3 32 _ w hg s x 41 hop Tryz.underlying41 info_InsT rfl (by decide) (by decide) (fun _ => rfl) lo v xs hs hown y b hx ?_ ?_ hlen hlo hK
  · intro j hj
    obtain ⟨c0, c1, c2⟩ := hcell
    rcases (show j = 0 ∨ j = 1 ∨ j = 2 by omega) with rfl | rfl | rfl
    · exact c0
    · exact c1
    · exact c2
  · intro u hu
    simp only [Ins.cs, List.mem_cons, List.not_mem_nil, or_false] at hu
    rcases hu with rfl | rfl | rfl <;> rfl
theorem OwnG.rowC {α : Type} {cs : α → List Value} {lo : Nat} {e : TypeId} {sz : Nat} {w : World} {v : Value} {xs : List α} (h : OwnG cs lo e sz w v xs) : ∀ k, v.ownBlock = some k → lo ≤ k ∧ ∃ c, w.heap[k]? = some (.cells c e (0, 0)) := by
  intro k hk
  rcases h.2 with ⟨rfl, h4⟩ | ⟨g, cap, cur, rfl, hb, hg, _⟩
  · cases hk
  · simp only [Value.ownBlock, Option.some.injEq] at hk
    subst hk
    exact ⟨hb, cur, hg⟩
/-- a row of strings stands, whatever was written in block B and the rows of another type -/
theorem KN.strs {lo B : Nat} {e : TypeId} {lo' : Nat} {w w' : World} {v : Value} {xs : List ByteArray} (h : OwnStrs lo' w v xs) (k : KN lo B e w w') (hB : ∀ c, w.heap[B]? ≠ some (.cells c 9 (0, 0))) (he : 9 ≠ e) : OwnStrs lo' w' v xs := by
  obtain ⟨h1, h2⟩ := h
  refine ⟨h1, ?_⟩
  rcases h2 with hn | ⟨g, cap, cur, hv, hb, hg, r⟩
  · exact .inl hn
  · refine .inr ⟨g, cap, cur, hv, hb, ?_, r⟩
    exact (k.block g (Array.getElem?_eq_some_iff.1 hg).1 (.inr ⟨fun e1 => hB cur (e1 ▸ hg), fun c' h' => by rw [hg] at h'; simp only [Option.some.injEq, Obj.cells.injEq] at h'; exact he h'.2.1⟩)).trans hg
/-- the boxes of the program's Compile: program, function, code, first assignments -/
structure TB (p : Prg) (P T C M mb lo : Nat) (a1 a2 : Option Addr) (c1 c2 : Nat) (w : World) (xs : List Ins) (iv : Value) (ls : List ByteArray) (lv : Value) : Prop where
  prog : Blk w P 26 [.slice a1 p.ns.length c1, .slice a2 p.gs.length c2]
  fn : Blk w T 77 [.func (.func 31) #[] #[.pointer (some ⟨P, 0, none⟩), .pointer (some ⟨T, 0, none⟩), .pointer (some ⟨C, 0, none⟩), .pointer (some ⟨M, 0, none⟩)]]
  code : Blk w C 44 [iv, lv]
  mp : Blk w M 69 [.map (some mb)]
  map : FM w mb p.gs p.gs.length
  ins : OwnInss lo w iv xs
  loc : OwnStrs lo w lv ls
  low : lo ≤ C
theorem Blk.neq {w : World} {A B : Nat} {cs ds : List Value} {t u : TypeId} (h : Blk w A t cs) (k : Blk w B u ds) (ht : t ≠ u) : A ≠ B := fun e => by
  subst e
  unfold Blk at h k
  rw [h] at k
  simp only [Option.some.injEq, Obj.cells.injEq] at k
  exact ht k.2.1
theorem Blk.noCells {w : World} {A : Nat} {cs : List Value} {t e : TypeId} (h : Blk w A t cs) (he : e ≠ t) : ∀ c, w.heap[A]? ≠ some (.cells c e (0, 0)) := fun c hc => by
  unfold Blk at h
  rw [h] at hc
  simp only [Option.some.injEq, Obj.cells.injEq] at hc
  exact he hc.2.1.symm
theorem KN.fm {lo B : Nat} {e : TypeId} {w w' : World} {b k : Nat} {gs : List Asg} {ds : List Value} {u : TypeId} (h : FM w b gs k) (kn : KN lo B e w w') (hB : Blk w B u ds) : FM w' b gs k := by
  have hl := h.lt
  have h' := h
  obtain ⟨n, D, _, ⟨es, clock, h1, _⟩, _⟩ := h'
  refine h.of_block (kn.block b hl (.inr ⟨fun e1 => ?_, fun c hc => ?_⟩))
  · subst e1
    unfold Blk at hB
    rw [hB] at h1
    cases h1
  · rw [hc] at h1
    cases h1
theorem TB.ext {p : Prg} {P T C M mb lo : Nat} {a1 a2 : Option Addr} {c1 c2 : Nat} {w w' : World} {xs : List Ins} {iv : Value} {ls : List ByteArray} {lv : Value} (h : TB p P T C M mb lo a1 a2 c1 c2 w xs iv ls lv) (x : Ext w w') : TB p P T C M mb lo a1 a2 c1 c2 w' xs iv ls lv :=
  ⟨h.prog.ext x, h.fn.ext x, h.code.ext x, h.mp.ext x, h.map.ext x, OwnG.ext h.ins x, h.loc.ext x, h.low⟩
/-- the code's instructions changed -/
theorem TB.kn {p : Prg} {P T C M mb lo : Nat} {a1 a2 : Option Addr} {c1 c2 : Nat} {w w' : World} {xs xs' : List Ins} {iv iv' : Value} {ls : List ByteArray} {lv : Value} (h : TB p P T C M mb lo a1 a2 c1 c2 w xs iv ls lv) (k : KN lo C 81 w w') (hc : Blk w' C 44 [iv', lv]) (hi : OwnInss lo w' iv' xs') : TB p P T C M mb lo a1 a2 c1 c2 w' xs' iv' ls lv :=
  ⟨KN.blk h.prog k (h.prog.neq h.code (by decide)) (by decide), KN.blk h.fn k (h.fn.neq h.code (by decide)) (by decide), hc, KN.blk h.mp k (h.mp.neq h.code (by decide)) (by decide), KN.fm h.map k h.code, hi, KN.strs h.loc k (h.code.noCells (by decide)) (by decide), h.low⟩
/-- the cells of three blocks -/
def C3b (b c d : Nat) : Addr → Prop := fun a => a.block = b ∨ a.block = c ∨ a.block = d
@[go_sem] theorem C3b_1 (b c d o : Nat) : C3b b c d ⟨b, o, none⟩ := .inl rfl
@[go_sem] theorem C3b_2 (b c d o : Nat) : C3b b c d ⟨c, o, none⟩ := .inr (.inl rfl)
@[go_sem] theorem C3b_3 (b c d o : Nat) : C3b b c d ⟨d, o, none⟩ := .inr (.inr rfl)
end Go.Proofs.YtaegmenjgjdimaaGreat
end

section
/- This text proves what the closure inside the program's Compile does: it appends the instructions of a node's expression. -/
namespace Go.Proofs.YtaegmenjgjdimaaGreat
open Go.RowKit Go.Maps Go.WideMaps

theorem flat_take {p : Prg} {ra : List Int} {j : Nat} (hj : j ≤ ra.length) : ((ra.take j).flatMap fun a => p.tr a.toNat).length ≤ (ra.flatMap fun a => p.tr a.toNat).length := by
  conv => rhs; rw [← List.take_append_drop j ra, List.flatMap_append, List.length_append]
  omega
set_option maxRecDepth 20000 in
set_option maxHeartbeats 12800000 in
theorem iTr_any (lo hi : Nat) (p : Prg) (hv : p.K) (hbd : p.bd) (hgl : p.gs.length ≤ 1048576) (W : World) (a1 a2 : Option Addr) (c1 c2 : Nat) (HN : NdsAt lo hi W a1 c1 p.ns) (hh : hi ≤ W.heap.size) (P T C M mb l2 : Nat) (hl2 : W.heap.size ≤ l2) (ls : List ByteArray) (lv : Value) : ∀ m,
    ∀ (node : Nat) (xs : List Ins) (iv : Value) (w : World), node < m → node < p.ns.length → xs.length + (p.tr node).length ≤ 900000 → TB p P T C M mb l2 a1 a2 c1 c2 w xs iv ls lv → Ext W w →
    Calls Tryz.prog 31 #[.int .i64 (node : Nat), .pointer (some ⟨P, 0, none⟩), .pointer (some ⟨T, 0, none⟩), .pointer (some ⟨C, 0, none⟩), .pointer (some ⟨M, 0, none⟩)] w fun e w' => e = .returned (.tuple #[]) ∧ (∃ iv', TB p P T C M mb l2 a1 a2 c1 c2 w' (xs ++ p.tr node) iv' ls lv) ∧ KN l2 C 81 w w' := by
  intro m
  have l1 := HN.le
  have l3 := HN.cap
  induction m with
  | zero => intro node xs iv w hm; omega
  | succ m ih =>
    intro node xs iv w hm hnl hlen hB hx
    have zx := hx.size
    have HB := hid hB
    have HX := hid hx
    obtain ⟨b, off, op, s, num, sa, sc, ra, rfl, hb1, hbw, hget, io, inn, hI, HI, y0, y1, y2, y3⟩ := HN.atW hnl hx hh
    have HG := hid hget
    have li1 := HI.le
    have li2 := HI.cap
    have qp := hB.prog.cell 0 rfl
    have pl := hB.prog.lt
    have hlo := hB.low
    have hcl := hB.code.lt
    have htr := hv.v.tr_step hget
    simp only at htr
    have hfl : (p.tr node).length = (ra.flatMap fun a => p.tr a.toNat).length + 1 := by rw [htr]; simp
    have HTR := hid htr
    have IH := hid ih
    have hss : s.size ≤ maxLen := hbd.1 _ (List.mem_of_getElem? hget)
    have nb := Blk.new w 79 [.int .i64 op, .string s, .int .i64 num, .slice sa ra.length sc]
    have xn : Ext w (w.alloc (.cells #[.int .i64 op, .string s, .int .i64 num, .slice sa ra.length sc] 79)) := (by repeat (with_reducible (first | assumption | exact Ext.refl _ | apply Ext.alloc | apply Ext.drew | apply Ext.drewN)))
    have NB := hid nb
    have XN := hid xn
    clear ih hget hB hx nb xn htr
    go_enter Tryz.func31, Tryz.ntmps31
    go_wp2
    go_loopw [17] (fun i wr => ∃ (j : Nat) (iv' : Value), j ≤ ra.length ∧ i = .int .i64 (j : Nat) ∧ TB p P T C M mb l2 (some ⟨b, off, none⟩) a2 c1 c2 wr (xs ++ (ra.take j).flatMap fun a => p.tr a.toNat) iv' ls lv ∧ Blk wr w.heap.size 79 [.int .i64 op, .string s, .int .i64 num, .slice sa ra.length sc] ∧ KN l2 C 81 w wr) (fun i _ => ra.length - (intOf i).toNat)
    case atStart => exact ⟨0, iv, by omega, rfl, by simpa using HB.out.ext XN.out, NB.out, (KN.refl _ _ _ _).ext XN.out⟩
    case round =>
      clear HB NB XN
      obtain ⟨j, iv', hj, rfl, hB, hN, hk⟩ := hrel
      have HB := hid hB
      have HNB := hid hN
      have HK := hid hk
      have HXr := hid (hk.up HX.out hl2)
      have hft := flat_take (p := p) hj
      clear hB hN hk
      by_cases hlj : j < ra.length
      · obtain ⟨b3, off3, y, rfl, hb3, hy, _, hc3⟩ := HI.atE hlj HXr.out hh
        have hyb := (hv.v.nd node _ HG.out).2 y (List.mem_of_getElem? hy)
        obtain ⟨z, rfl⟩ : ∃ z : Nat, y = z := ⟨y.toNat, by omega⟩
        have hf := HB.out.fn
        have qf := hf.cell 0 rfl
        have htk : ((ra.take (j + 1)).flatMap fun a => p.tr a.toNat) = ((ra.take j).flatMap fun a => p.tr a.toNat) ++ p.tr z := by
          rw [List.take_add_one, hy, List.flatMap_append]
          simp
        have hft2 := flat_take (p := p) (ra := ra) (j := j + 1) (by omega)
        rw [htk, List.length_append] at hft2
        have HTK := hid htk
        clear hy htk hf
        go_wp2_with fail
        refine (IH.out z _ iv' _ (by omega) (by omega) (by rw [List.length_append]; omega) HB.out HXr.out).mono ?_
        rintro e w1 ⟨rfl, ⟨iv2, hB2⟩, hk2⟩
        have HB2 := hid hB2
        have HNB2 := hid (KN.blk HNB.out hk2 (HNB.out.neq HB.out.code (by decide)) (by decide))
        have HK2 := hid (HK.out.trans hk2)
        clear hB2 hk2 HB HNB HK HXr qf
        go_wp2
        go_roundw
        case rel => exact ⟨j + 1, iv2, by omega, by go_num, by rw [HTK.out, ← List.append_assoc]; exact HB2.out, HNB2.out, HK2.out⟩
        case measure => simp [intOf]; omega
      · obtain rfl : j = ra.length := by omega
        rw [List.take_length] at HB hft
        obtain ⟨L, hL⟩ : ∃ L, xs ++ (ra.flatMap fun a => p.tr a.toNat) = L := ⟨_, rfl⟩
        have hLl : L.length ≤ 900000 := by rw [← hL, List.length_append]; omega
        rw [hL] at HB
        have HL := hid hL
        obtain ⟨ia, ic, rfl, -⟩ := OwnG.form HB.out.ins
        clear hL hft
        have hco := HB.out.code
        have cc0 := hco.cell 0 rfl
        have cf0 := hco.free 0
        have ccl := hco.lt
        have hmp := HB.out.mp
        have m0 := hmp.cell 0 rfl
        have ml := hmp.lt
        have n0 := HNB.out.cell 0 rfl
        have n1 := HNB.out.cell 1 rfl
        have n2 := HNB.out.cell 2 rfl
        have n3 := HNB.out.cell 3 rfl
        have zn := HNB.out.lt
        have zwr := HXr.out.size
        have hNC := HNB.out.neq HB.out.code (by decide)
        have hin : ∃ o t n, insOf p ⟨op, s, num, ra⟩ = ⟨o, t, n⟩ := ⟨_, _, _, rfl⟩
        obtain ⟨io, it, inu, hin⟩ := hin
        have HIN := hid hin
        clear hin hco hmp
        go_wp2_with fail
        refine wp_region_stagesS [([0, 1, 2, 3], 4), ([], 5), ([], 6), ([7], 8)] 8 (fun w' => ∃ d, w' = lowc (C3b C w.heap.size M) _ d) (by kernel_rfl) (by kernel_rfl) (SC.drew _ _) ?_
        refine wpStagesS_cons ?_
        simp only [List.filterMap_cons, List.filterMap_nil, List.getElem?_toArray, List.getElem?_cons_zero, List.getElem?_cons_succ]
        show wpQuiet _ _ _ _ [_, _, _, _] _
        repeat (go_big_quiet_step (fail))
        refine wpQuiet_nil ⟨_, rfl, fun K hK => ?_⟩
        go_wp2_with fail
        refine (iInsOf_any p hv node op num s ra HG.out sa ra.length sc mb _ (HB.out.map.ext (by repeat (with_reducible (first | assumption | exact Ext.refl _ | apply Ext.alloc | apply Ext.drew | apply Ext.drewN)))) hss hgl).mono ?_
        rintro e w6 ⟨rfl, x6⟩
        rw [insOf_val HIN.out]
        have y6 : Ext wr w6 := Ext.trans (Ext.drew (Ext.refl _)) x6
        go_wp2_with fail
        refine hK _ _ (.inr (SC.blocks fun a ha => ?_)) ?_
        · rcases ha with ha | ha | ha
          · exact y6.block (by rw [ha]; omega)
          · exact y6.block (by rw [ha]; omega)
          · exact y6.block (by rw [ha]; omega)
        clear hK K
        refine wpStagesS_cons ?_
        simp only [List.filterMap_nil]
        show wpQuiet _ _ _ _ [] _
        try simp only [Act.put, List.setIfInBounds_toArray, List.set_cons_succ, List.set_cons_zero]
        repeat (go_big_quiet_step (fail))
        refine wpQuiet_nil ⟨_, rfl, fun K hK => ?_⟩
        go_wp2_with fail
        have y7 : Ext w6 (w6.alloc (.cells #[.int .i64 io, .string it, .int .i64 inu] 81)) := (by repeat (with_reducible (first | assumption | exact Ext.refl _ | apply Ext.alloc | apply Ext.drew | apply Ext.drewN)))
        have b7 := Blk.new w6 81 [.int .i64 io, .string it, .int .i64 inu]
        have y67 := y6.trans y7
        refine hK _ _ (.inr (SC.blocks fun a ha => ?_)) ?_
        · rcases ha with ha | ha | ha
          · exact y67.block (by rw [ha]; omega)
          · exact y67.block (by rw [ha]; omega)
          · exact y67.block (by rw [ha]; omega)
        clear hK K
        have HB7 := hid (HB.out.ext y67)
        have HN7 := hid (HNB.out.ext y67)
        have z67 := y67.size
        have hlo2 := HXr.out.size
        refine wpStagesS_cons ?_
        simp only [List.filterMap_nil]
        show wpQuiet _ _ _ _ [] _
        try simp only [Act.put, List.setIfInBounds_toArray, List.set_cons_succ, List.set_cons_zero]
        repeat (go_big_quiet_step (fail))
        refine wpQuiet_nil ⟨_, rfl, fun K hK => ?_⟩
        refine wpList_append_insn _ rfl _ _ rfl l2 (.slice ia L.length ic) L rfl HB7.out.ins ⟨io, it, inu⟩ w6.heap.size rfl ⟨b7.cell 0 rfl, b7.cell 1 rfl, b7.cell 2 rfl⟩ (by omega) (by omega) ?_
        intro iv2 w8 hown hg
        have hrow := OwnG.rowC HB7.out.ins
        have hother : ∀ {B : Nat} {t : TypeId} {cs : List Value}, Blk (w6.alloc (.cells #[.int .i64 io, .string it, .int .i64 inu] 81)) B t cs → t ≠ 81 → w8.heap[B]? = (w6.alloc (.cells #[.int .i64 io, .string it, .int .i64 inu] 81)).heap[B]? := fun hb ht => hg.block _ hb.lt (fun e => by
          obtain ⟨_, c, hc⟩ := hrow _ e.symm
          exact hb.noCells (Ne.symm ht) c hc)
        have kC := hother HB7.out.code (by decide)
        have kN := hother HN7.out (by decide)
        have kM := hother HB7.out.mp (by decide)
        have K8 : KN l2 C 81 wr w8 := ((KN.refl l2 C 81 wr).ext y67).grown hg hrow
        have C8 := HB7.out.code.of kC
        have e0 := C8.cell 0 rfl
        have g0 := C8.free 0
        have HK9 := hid (HK.out.trans (K8.set HB.out.low 0 iv2))
        have HB9 := hid (HB.out.kn (K8.set HB.out.low 0 iv2) (C8.set 0 iv2) (OwnG.set hown C8 (by decide) 0 iv2))
        go_wp2_with fail
        refine hK _ _ (.inr (SC.blocks fun a ha => ?_)) ?_
        · rcases ha with ha | ha | ha
          · rw [ha]; exact kC.trans (y67.block (by omega))
          · rw [ha]; exact kN.trans (y67.block (by omega))
          · rw [ha]; exact kM.trans (y67.block (by omega))
        clear hK K
        obtain ⟨ia2, ic2, hv2, _⟩ := OwnG.form hown
        have hll : (L ++ [(⟨io, it, inu⟩ : Ins)]).length = L.length + 1 := by simp
        rw [hll] at hv2
        subst hv2
        clear hown hg hrow hother kC kN kM K8 C8 cc0 cf0 m0 n0 n1 n2 n3
        refine wpStagesS_cons ?_
        simp only [List.filterMap_cons, List.filterMap_nil, List.getElem?_toArray, List.getElem?_cons_zero, List.getElem?_cons_succ]
        show wpQuiet _ _ _ _ [_] _
        simp only [Act.put, List.setIfInBounds_toArray, List.set_cons_succ, List.set_cons_zero, List.getElem_toArray, List.getElem_cons_succ, List.getElem_cons_zero]
        repeat (go_big_quiet_step (fail))
        refine wpQuiet_nil ⟨_, rfl, fun K hK => ?_⟩
        go_wp2_with fail
        refine hK _ _ (.inl trivial) ?_
        clear hK K
        refine wpStagesS_nil ?_
        have hfin : L ++ [(⟨io, it, inu⟩ : Ins)] = xs ++ p.tr node := by rw [HTR.out, HIN.out, ← HL.out, List.append_assoc]
        go_wp2
        go_end0
        exact ⟨rfl, ⟨_, by rw [← hfin]; exact HB9.out⟩, HK9.out⟩
end Go.Proofs.YtaegmenjgjdimaaGreat
end

section
/- This text proves what the reference's lexer hands back, token by token. -/
namespace Go.Proofs.YtaegmenjgjdimaaGreat
open Go.RowKit

def digB (x : Int) : Bool := inB x 48 57
def letB (x : Int) : Bool := inB x 97 122
theorem wrap64_i64T (n : Int) : I64 (wrap64 n) := by unfold wrap64; exact ⟨by omega, by omega⟩
theorem l12Digit_val {x : Int} {b : Bool} (h : digB x = b) (w : World) : Calls Tryz.prog 131 #[.int .u8 x] w fun e w' => e = .returned (.bool b) ∧ w = w' := by
  cases b
  · have h2 : ¬(48 ≤ x ∧ x ≤ 57) := fun c => by rw [digB, inB_iff.2 c] at h; cases h
    clear h
    go_enter Tryz.func131, Tryz.ntmps131
    go_wp2
    all_goals first | (exfalso; omega) | (go_ret; exact ⟨by simp <;> omega, rfl⟩)
  · have h2 := inB_iff.1 h
    clear h
    go_enter Tryz.func131, Tryz.ntmps131
    go_wp2
    all_goals first | (exfalso; omega) | (go_ret; exact ⟨by simp <;> omega, rfl⟩)
theorem l12Letter_val {x : Int} {b : Bool} (h : letB x = b) (w : World) : Calls Tryz.prog 133 #[.int .u8 x] w fun e w' => e = .returned (.bool b) ∧ w = w' := by
  cases b
  · have h2 : ¬(97 ≤ x ∧ x ≤ 122) := fun c => by rw [letB, inB_iff.2 c] at h; cases h
    clear h
    go_enter Tryz.func133, Tryz.ntmps133
    go_wp2
    all_goals first | (exfalso; omega) | (go_ret; exact ⟨by simp <;> omega, rfl⟩)
  · have h2 := inB_iff.1 h
    clear h
    go_enter Tryz.func133, Tryz.ntmps133
    go_wp2
    all_goals first | (exfalso; omega) | (go_ret; exact ⟨by simp <;> omega, rfl⟩)
/-- the greatest number of so many digits -/
def wb : Nat → Int
  | 0 => 0
  | d + 1 => 10 * wb d + 9
/-- and one more than it -/
def ub : Nat → Int
  | 0 => 1
  | d + 1 => 10 * ub d
theorem wb_le {d : Nat} (h : d ≤ 6) : 0 ≤ wb d ∧ wb d ≤ 999999 := by
  rcases (show d = 0 ∨ d = 1 ∨ d = 2 ∨ d = 3 ∨ d = 4 ∨ d = 5 ∨ d = 6 by omega) with rfl | rfl | rfl | rfl | rfl | rfl | rfl <;> decide
theorem ub_le {d : Nat} (h : d ≤ 6) : 1 ≤ ub d ∧ ub d ≤ 1000000 := by
  rcases (show d = 0 ∨ d = 1 ∨ d = 2 ∨ d = 3 ∨ d = 4 ∨ d = 5 ∨ d = 6 by omega) with rfl | rfl | rfl | rfl | rfl | rfl | rfl <;> decide
set_option maxRecDepth 40000 in
set_option maxHeartbeats 6400000 in
theorem l12Number_any (s : ByteArray) (o : Nat) (w : World) (hs : s.size ≤ 2000) (ho : o < s.size) (hd : digB (s[o].toNat : Nat) = true) : Calls Tryz.prog 132 #[.string s, .int .i64 (o : Nat)] w fun e w' => ∃ (k : Nat) (n : Int) (b : Bool), e = .returned (.tuple #[.int .i64 (k : Nat), .int .i64 n, .bool b]) ∧ o < k ∧ k ≤ s.size ∧ I64 n ∧ Ext w w' := by
  have HD := hid hd
  clear hd
  go_enter Tryz.func132, Tryz.ntmps132
  go_wp2
  go_loopw [7, 8] (fun i q wr => ∃ (d : Nat) (z : Int), d ≤ 6 ∧ o + d ≤ s.size ∧ i = .int .i64 ((o + d : Nat) : Int) ∧ q = .int .i64 z ∧ 0 ≤ z ∧ z ≤ wb d ∧ wr = w) (fun i _ _ => s.size - (intOf i).toNat)
  case atStart => exact ⟨0, 0, by omega, by omega, by go_num, rfl, by omega, by decide, rfl⟩
  case round =>
    obtain ⟨d, z, hd6, hk, rfl, rfl, hz0, hz1, rfl⟩ := hrel
    have hw6 := wb_le hd6
    by_cases hgo : (∃ h : o + d < s.size, digB (s[o + d].toNat : Nat) = true) ∧ d ≤ 5
    · obtain ⟨⟨hlt, hdg⟩, hd5⟩ := hgo
      have hb := inB_iff.1 hdg
      have HB := hid hdg
      have hwb : wb (d + 1) = 10 * wb d + 9 := rfl
      have HWB := hid hwb
      clear hdg hwb
      go_wp2_with (go_at_call 131; refine (l12Digit_val HB.out _).mono ?_; rintro e w1 ⟨rfl, rfl⟩)
      go_roundw
      case rel => exact ⟨d + 1, z * 10 + ((s[o + d].toNat : Int) - 48), by omega, by omega, by go_num, rfl, by omega, by rw [HWB.out]; omega, by trivial⟩
      case measure => simp [intOf]; omega
    · have hd1 : 1 ≤ d := by
        by_cases h0 : d = 0
        · subst h0; exact absurd ⟨⟨ho, HD.out⟩, by omega⟩ hgo
        · omega
      have HG := hid hgo
      clear hgo
      obtain ⟨k, hke⟩ : ∃ k, o + d = k := ⟨_, rfl⟩
      rw [hke] at hk ⊢
      have HR : Hid ((k < s.size → ∀ h : k < s.size, digB (s[k].toNat : Nat) = true → d = 6) ∧ True) := hid ⟨fun hlt h hdg => by
        subst hke
        by_cases h5 : d ≤ 5
        · exact absurd ⟨⟨hlt, hdg⟩, h5⟩ HG.out
        · omega, trivial⟩
      clear HG
      by_cases hlt : k < s.size
      · cases hdg : digB (s[k].toNat : Nat)
        · have HB := hid hdg
          clear hdg
          go_wp2_with (go_at_call 131; refine (l12Digit_val HB.out _).mono ?_; rintro e w1 ⟨rfl, rfl⟩)
          · refine bodyPost_ret (v := .tuple #[.int .i64 (k : Nat), .int .i64 0, .bool false]) (by simp [results, Tryz.results132, go_sem]) rfl ?_
            exact ⟨k, 0, false, rfl, by omega, hk, ⟨by decide, by decide⟩, Ext.refl _⟩
          · refine bodyPost_ret (v := .tuple #[.int .i64 (k : Nat), .int .i64 (z * 256), .bool true]) (by simp [results, Tryz.results132, go_sem]) rfl ?_
            exact ⟨k, z * 256, true, rfl, by omega, hk, ⟨by omega, by omega⟩, Ext.refl _⟩
          · rename (_ = false ∧ _ = false) => q2
            rename ¬ (k : Int) = (s.size : Int) => q3
            clear q2 q3 HR HB
            go_loopw [7, 10, 11] (fun i q u wx => ∃ (c : Nat) (y : Int), c ≤ 6 ∧ k + 1 + c ≤ s.size ∧ i = .int .i64 ((k + 1 + c : Nat) : Int) ∧ q = .int .i64 y ∧ 0 ≤ y ∧ y ≤ wb c ∧ u = .int .i64 (ub c) ∧ wx = wr) (fun i _ _ _ => s.size - (intOf i).toNat)
            case atStart => exact ⟨0, 0, by omega, by omega, by go_num, rfl, by omega, by decide, rfl, rfl⟩
            case round =>
              obtain ⟨c, y, hc6, hkc, rfl, rfl, hy0, hy1, rfl, rfl⟩ := hrel
              have hcw := wb_le hc6
              have hcu := ub_le hc6
              obtain ⟨l, hle⟩ : ∃ l, k + 1 + c = l := ⟨_, rfl⟩
              obtain ⟨uc, huc⟩ : ∃ uc, ub c = uc := ⟨_, rfl⟩
              have hu1 : ub (c + 1) = 10 * uc := by rw [← huc]; rfl
              have HU1 := hid hu1
              have HW1 : Hid (wb (c + 1) = 10 * wb c + 9) := hid rfl
              rw [huc] at hcu ⊢
              rw [hle] at hkc ⊢
              have HL := hid hle
              clear huc hu1 hle
              by_cases hll : l < s.size
              · cases hdl : digB (s[l].toNat : Nat)
                · have HB := hid hdl
                  clear hdl
                  go_wp2_with (go_at_call 131; refine (l12Digit_val HB.out _).mono ?_; rintro e w1 ⟨rfl, rfl⟩)
                  · refine bodyPost_ret (v := .tuple #[.int .i64 ((k : Int) + 1), .int .i64 0, .bool false]) (by simp [results, Tryz.results132, go_sem]) rfl ?_
                    exact ⟨k + 1, 0, false, by go_num, by omega, by omega, ⟨by decide, by decide⟩, Ext.refl _⟩
                  · refine bodyPost_ret (v := .tuple #[.int .i64 (l : Nat), .int .i64 0, .bool false]) (by simp [results, Tryz.results132, go_sem]) rfl ?_
                    exact ⟨l, 0, false, rfl, by have := HL.out; omega, hkc, ⟨by decide, by decide⟩, Ext.refl _⟩
                  · go_quiet (fail)
                    go_wp2
                    refine bodyPost_ret (v := .tuple #[.int .i64 (l : Nat), .int .i64 (wrap64 (z * 256 + y * 256 / uc)), .bool true]) (by simp [results, Tryz.results132, go_sem]) rfl ?_
                    exact ⟨l, _, true, rfl, by have := HL.out; omega, hkc, wrap64_i64T _, (by repeat (with_reducible (first | assumption | exact Ext.refl _ | apply Ext.alloc | apply Ext.drew | apply Ext.drewN)))⟩
                · have HB := hid hdl
                  have hb := inB_iff.1 hdl
                  clear hdl
                  by_cases hc5 : c ≤ 5
                  · have hl5 : (l : Int) - ((k : Int) + 1) ≤ 5 := by have := HL.out; omega
                    go_wp2_with (go_at_call 131; refine (l12Digit_val HB.out _).mono ?_; rintro e w1 ⟨rfl, rfl⟩)
                    go_roundw
                    case rel => exact ⟨c + 1, y * 10 + ((s[l].toNat : Int) - 48), by omega, by have := HL.out; omega, by have := HL.out; go_num, rfl, by omega, by rw [HW1.out]; omega, by rw [HU1.out, Int.mul_comm], by trivial⟩
                    case measure => simp [intOf]; omega
                  · have hl5 : ¬ (l : Int) - ((k : Int) + 1) ≤ 5 := by have := HL.out; omega
                    go_wp2_with (go_at_call 131; refine (l12Digit_val HB.out _).mono ?_; rintro e w1 ⟨rfl, rfl⟩)
                    refine bodyPost_ret (v := .tuple #[.int .i64 (l : Nat), .int .i64 0, .bool false]) (by simp [results, Tryz.results132, go_sem]) rfl ?_
                    exact ⟨l, 0, false, rfl, by have := HL.out; omega, hkc, ⟨by decide, by decide⟩, Ext.refl _⟩
              · go_wp2
                · refine bodyPost_ret (v := .tuple #[.int .i64 ((k : Int) + 1), .int .i64 0, .bool false]) (by simp [results, Tryz.results132, go_sem]) rfl ?_
                  exact ⟨k + 1, 0, false, by go_num, by omega, by omega, ⟨by decide, by decide⟩, Ext.refl _⟩
                · refine bodyPost_ret (v := .tuple #[.int .i64 (l : Nat), .int .i64 0, .bool false]) (by simp [results, Tryz.results132, go_sem]) rfl ?_
                  exact ⟨l, 0, false, rfl, by have := HL.out; omega, hkc, ⟨by decide, by decide⟩, Ext.refl _⟩
                · go_quiet (fail)
                  go_wp2
                  refine bodyPost_ret (v := .tuple #[.int .i64 (l : Nat), .int .i64 (wrap64 (z * 256 + y * 256 / uc)), .bool true]) (by simp [results, Tryz.results132, go_sem]) rfl ?_
                  exact ⟨l, _, true, rfl, by have := HL.out; omega, hkc, wrap64_i64T _, (by repeat (with_reducible (first | assumption | exact Ext.refl _ | apply Ext.alloc | apply Ext.drew | apply Ext.drewN)))⟩
        · have HB := hid hdg
          obtain rfl := HR.out.1 hlt hlt hdg
          clear hdg
          go_wp2_with (go_at_call 131; refine (l12Digit_val HB.out _).mono ?_; rintro e w1 ⟨rfl, rfl⟩)
          refine bodyPost_ret (v := .tuple #[.int .i64 (k : Nat), .int .i64 0, .bool false]) (by simp [results, Tryz.results132, go_sem]) rfl ?_
          exact ⟨k, 0, false, rfl, by omega, hk, ⟨by decide, by decide⟩, Ext.refl _⟩
      · go_wp2
        · refine bodyPost_ret (v := .tuple #[.int .i64 (k : Nat), .int .i64 0, .bool false]) (by simp [results, Tryz.results132, go_sem]) rfl ?_
          exact ⟨k, 0, false, rfl, by omega, hk, ⟨by decide, by decide⟩, Ext.refl _⟩
        · refine bodyPost_ret (v := .tuple #[.int .i64 (s.size : Nat), .int .i64 (z * 256), .bool true]) (by simp [results, Tryz.results132, go_sem]) rfl ?_
          exact ⟨s.size, z * 256, true, rfl, ho, Nat.le_refl _, ⟨by omega, by omega⟩, Ext.refl _⟩
end Go.Proofs.YtaegmenjgjdimaaGreat
end
