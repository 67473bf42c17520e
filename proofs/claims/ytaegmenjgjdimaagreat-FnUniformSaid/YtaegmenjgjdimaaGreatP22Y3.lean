/- Texts of this claim, one behind another: Ev6, Uf1, Blk0, Draw, PlanB, Un1, Un2, Un3, DrawT, Dr1, Tk1, Tk2, Tk3, Tk4, Tk5, Ps1, Ps2, PlanE, Ps3, Ps4. -/
import Derived.Test.YtaegmenjgjdimaaGreatP22Y2
import Derived.Test.YtaegmenjgjdimaaGreatL01
import Derived.Test.YtaegmenjgjdimaaGreatEx1
import Derived.Test.YtaegmenjgjdimaaGreatEx2
import Derived.Test.YtaegmenjgjdimaaGreatFlat
import Derived.Test.YtaegmenjgjdimaaGreatL15e
import Derived.Deep.LoopGhost
import Derived.Test.YtaegmenjgjdimaaGreatStrB
import Derived.Test.YtaegmenjgjdimaaGreatP22Y1
import Derived.Lib.SlBytesConst
import Derived.Test.YtaegmenjgjdimaaGreatPlan
section
/- This text proves the program's ShadePoint. -/
namespace Go.Proofs.YtaegmenjgjdimaaGreat
open Go.RowKit Go.Maps Go.WideMaps

/-- the value at point q of the name l, 256 where it is not assigned -/
noncomputable def named (p : Prg) (g : Grd) (q : Nat) (l : List UInt8) : Int := match frst p.gs p.gs.length l with | some k => (evV p g (((p.gs[k]?).map fun a => a.root.toNat).getD 0)).getD q 0 | none => 256
noncomputable def shC (p : Prg) (g : Grd) (i j : Int) : Int := if evOk p g i j = true then clampI (named p g (j * g.n + i).toNat [99, 111, 108, 111, 114]) 0 256 else 0
noncomputable def shA (p : Prg) (g : Grd) (i j : Int) : Int := if evOk p g i j = true then clampI (named p g (j * g.n + i).toNat [97, 108, 112, 104, 97]) 0 256 else 0
theorem alphaS : (⟨#[97, 108, 112, 104, 97]⟩ : ByteArray).toList = [97, 108, 112, 104, 97] := by rw [Lib.toList_data]
theorem named_some {p : Prg} {g : Grd} {q : Nat} {l : List UInt8} {k r : Nat} {s : ByteArray} (h : frst p.gs p.gs.length l = some k) (hk : p.gs[k]? = some ⟨s, r⟩) : named p g q l = (evV p g r).getD q 0 := by
  unfold named
  rw [h]
  simp [hk]
theorem named_none {p : Prg} {g : Grd} {q : Nat} {l : List UInt8} (h : frst p.gs p.gs.length l = none) : named p g q l = 256 := by unfold named; rw [h]
/-- the assignment to a name that is known, its root -/
theorem Prg.K.asg {p : Prg} (h : p.K) {l : List UInt8} {k : Nat} (hf : frst p.gs p.gs.length l = some k) : ∃ (s : ByteArray) (r : Nat), p.gs[k]? = some ⟨s, (r : Nat)⟩ ∧ r < p.ns.length ∧ k < p.gs.length ∧ s.toList = l := by
  obtain ⟨h1, ⟨a, h2, h3⟩, _⟩ := frst_some hf
  have hr := (h.v.ag k a h2).2
  refine ⟨a.name, a.root.toNat, ?_, by omega, h1, h3⟩
  rw [h2]
  cases a
  simp only [Option.some.injEq, Asg.mk.injEq, true_and] at *
  omega
/-- entry q of a row that the evaluator handed back -/
theorem row_at {m q g c : Nat} {w : World} {xs : List Int} (h : OwnInts 0 w (.slice (some ⟨g, 0, none⟩) m c) xs) (hx : xs.length = m) (hq : q < m) :
    m ≤ c ∧ c ≤ 9223372036854775807 ∧ g < w.heap.size ∧ w.cell? ⟨g, q, none⟩ = some (.int .i64 (xs.getD q 0)) := by
  obtain ⟨ra, rc, e, HR⟩ := h.ints.open
  rw [hx] at e
  simp only [Value.slice.injEq, true_and] at e
  obtain ⟨rfl, rfl⟩ := e
  obtain ⟨rb, ro, re, h1, h2, h3⟩ := HR.at (k := q) (by omega)
  simp only [Option.some.injEq, Addr.mk.injEq, and_true] at re
  obtain ⟨rfl, rfl⟩ := re
  rw [Nat.zero_add] at h3
  have h4 := HR.le
  rw [hx] at h4
  refine ⟨h4, HR.cap, h2, ?_⟩
  rw [h3, List.getD_eq_getElem?_getD, List.getElem?_eq_getElem (by omega)]
  rfl
set_option maxRecDepth 20000 in
set_option maxHeartbeats 12800000 in
theorem iShadePoint_any (lo hi lo' hi' : Nat) (v u : Value) (p : Prg) (g : Grd) (i j : Int) (w : World) (hv : p.R lo hi w v) (hh : hi ≤ w.heap.size) (hu : g.R lo' hi' w u) (hh' : hi' ≤ w.heap.size) (hb : p.bd) (hgl : p.gs.length ≤ 1048576) :
    Calls Tryz.prog 11 #[v, u, .int .i64 i, .int .i64 j] w fun e w' => e = .returned (.tuple #[.int .i64 (shC p g i j), .int .i64 (shA p g i j), .bool (evOk p g i j)]) ∧ Ext w w' := by
  have HV := hid hv
  have HU := hid hu
  obtain ⟨a1, c1, a2, c2, rfl, -, HAS⟩ := hv.form
  have l3 := HAS.le
  have l4 := HAS.cap
  obtain ⟨pu, tu, rfl, n64, t64, l64, hp, ht⟩ := hu
  clear hv hp ht t64 l64 HAS
  have x0 : Ext w ((w.alloc (.cells #[.slice a1 p.ns.length c1, .slice a2 p.gs.length c2] 26)).alloc (.cells #[.int .i64 g.n, pu, .int .i64 g.tm, .int .i64 g.t.log, tu] 33)) := (by repeat (with_reducible (first | assumption | exact Ext.refl _ | apply Ext.alloc | apply Ext.drew | apply Ext.drewN)))
  cases hok : evOk p g i j
  · have HOK := hid hok
    have HE : Hid (shC p g i j = 0 ∧ shA p g i j = 0) := hid (by unfold shC shA; rw [hok]; exact ⟨rfl, rfl⟩)
    clear hok n64
    go_enter Tryz.func11, Tryz.ntmps11
    go_wp2_with fail
    refine (iEvalOf_no lo hi lo' hi' _ _ p g i j _ (HV.out.ext hh x0) (Nat.le_trans hh x0.size) (HU.out.ext2 hh' x0) (Nat.le_trans hh' x0.size) hb hgl HOK.out).mono ?_
    rintro e w1 ⟨rfl, x1⟩
    have X1 := x0.trans x1
    go_wp2
    refine bodyPost_ret (v := .tuple #[.int .i64 0, .int .i64 0, .bool false]) (by simp [results, Tryz.results11, go_sem]) rfl ⟨by rw [HE.out.1, HE.out.2], X1⟩
  obtain ⟨n, i', j', hn, rfl, rfl, hi2, hj2, hn8, hnm⟩ := evOk_parts hok
  have bP := (Bx.made w #[.slice a1 p.ns.length c1, .slice a2 p.gs.length c2] 26).ext (show Ext _ ((w.alloc (.cells #[.slice a1 p.ns.length c1, .slice a2 p.gs.length c2] 26)).alloc (.cells #[.int .i64 g.n, pu, .int .i64 g.tm, .int .i64 g.t.log, tu] 33)) from (by repeat (with_reducible (first | assumption | exact Ext.refl _ | apply Ext.alloc | apply Ext.drew | apply Ext.drewN))))
  have bG := Bx.madeAt (B := w.heap.size + 1) (w.alloc (.cells #[.slice a1 p.ns.length c1, .slice a2 p.gs.length c2] 26)) #[.int .i64 g.n, pu, .int .i64 g.tm, .int .i64 g.t.log, tu] 33 (by simp)
  have hq := at_lt hnm hi2 hj2
  obtain ⟨q, hqe⟩ : ∃ q, j' * n + i' = q := ⟨_, rfl⟩
  rw [hqe] at hq
  have hqi : (j' : Int) * n + i' = q := by rw [← hqe]; simp
  have hEV : evV p g = p.ev n g.m g.f g.tm g.t := by unfold evV; rw [hn]; rfl
  have HEV := hid hEV
  have HC1 : Hid (shC p g i' j' = clampI (named p g q [99, 111, 108, 111, 114]) 0 256) := hid (by
    unfold shC
    rw [hok, if_pos rfl, hn, hqi]
    simp)
  have HA1 : Hid (shA p g i' j' = clampI (named p g q [97, 108, 112, 104, 97]) 0 256) := hid (by
    unfold shA
    rw [hok, if_pos rfl, hn, hqi]
    simp)
  have HOK := hid hok
  have HNN := hid hn
  rw [hn] at bG bP HU x0 ⊢
  have hm64 : g.m ≤ 64 := by rw [← hnm]; have := Nat.mul_le_mul hn8 hn8; omega
  have hjn : (j' : Int) * n ≤ 64 := by have : ((j' * n : Nat) : Int) ≤ 64 := by omega
                                       simpa using this
  have hjn0 : 0 ≤ (j' : Int) * n := by have : (0 : Int) ≤ ((j' * n : Nat) : Int) := by omega
                                       simpa using this
  obtain ⟨jn, hjne⟩ : ∃ jn, (j' : Int) * n = jn := ⟨_, rfl⟩
  rw [hjne] at hqi hjn hjn0
  have HQ := hid hqe
  have HNM := hid hnm
  clear hok hn n64 hEV hqe hnm
  go_enter Tryz.func11, Tryz.ntmps11
  go_wp2_with fail
  refine (iEvalOf_yes lo hi lo' hi' a1 a2 c1 c2 pu tu p g n i' j' _ (HV.out.ext hh x0) (Nat.le_trans hh x0.size) (HU.out.ext2 hh' x0) (Nat.le_trans hh' x0.size) hb hgl HNN.out HOK.out).mono ?_
  rintro e w1 ⟨⟨E, D, mb, rfl, hC, hI⟩, x1⟩
  have X1 := x0.trans x1
  have bP1 := bP.ext x1
  have bG1 := bG.ext x1
  have HC := hid hC
  have HI := hid hI
  have HBE := hid (hC.boxE hI)
  have HBP := hid bP1
  have hdB := hC.dB
  simp only [World.size_alloc] at hdB
  have hdl := hC.dl
  have heD := hC.eD
  have hmD := hC.mD
  have hbD : w.heap.size ≠ D := by omega
  have hbD2 : w.heap.size + 1 ≠ D := by omega
  have hbe := HBE.out
  have b := bP1.lt
  have b0 := bP1.cell 0
  simp only [List.getElem?_toArray, List.getElem?_cons_zero, List.getElem?_cons_succ] at b0
  have b1 := bP1.cell 1
  simp only [List.getElem?_toArray, List.getElem?_cons_zero, List.getElem?_cons_succ] at b1
  have d := bG1.lt
  have d0 := bG1.cell 0
  simp only [List.getElem?_toArray, List.getElem?_cons_zero, List.getElem?_cons_succ] at d0
  have d1 := bG1.cell 1
  simp only [List.getElem?_toArray, List.getElem?_cons_zero, List.getElem?_cons_succ] at d1
  have d2 := bG1.cell 2
  simp only [List.getElem?_toArray, List.getElem?_cons_zero, List.getElem?_cons_succ] at d2
  have d3 := bG1.cell 3
  simp only [List.getElem?_toArray, List.getElem?_cons_zero, List.getElem?_cons_succ] at d3
  have d4 := bG1.cell 4
  simp only [List.getElem?_toArray, List.getElem?_cons_zero, List.getElem?_cons_succ] at d4
  have e := hbe.lt
  have e0 := hbe.cell 0
  simp only [List.getElem?_toArray, List.getElem?_cons_zero, List.getElem?_cons_succ] at e0
  have e1 := hbe.cell 1
  simp only [List.getElem?_toArray, List.getElem?_cons_zero, List.getElem?_cons_succ] at e1
  have e2 := hbe.cell 2
  simp only [List.getElem?_toArray, List.getElem?_cons_zero, List.getElem?_cons_succ] at e2
  have e3 := hbe.cell 3
  simp only [List.getElem?_toArray, List.getElem?_cons_zero, List.getElem?_cons_succ] at e3
  have e4 := hbe.cell 4
  simp only [List.getElem?_toArray, List.getElem?_cons_zero, List.getElem?_cons_succ] at e4
  have e5 := hbe.cell 5
  simp only [List.getElem?_toArray, List.getElem?_cons_zero, List.getElem?_cons_succ] at e5
  have e6 := hbe.cell 6
  simp only [List.getElem?_toArray, List.getElem?_cons_zero, List.getElem?_cons_succ] at e6
  have e7 := hbe.cell 7
  simp only [List.getElem?_toArray, List.getElem?_cons_zero, List.getElem?_cons_succ] at e7
  have e8 := hbe.cell 8
  simp only [List.getElem?_toArray, List.getElem?_cons_zero, List.getElem?_cons_succ] at e8
  have HM := hid (hC.mapE hI)
  clear hC hI x0 x1 bP bG bP1 bG1 hbe
  obtain ⟨kc, hkc⟩ := HC.out.k.col
  obtain ⟨sc, rc, hgc, hrc, hkcl, _⟩ := HC.out.k.asg hkc
  have HNC : Hid (named p g q [99, 111, 108, 111, 114] = (p.ev n g.m g.f g.tm g.t rc).getD q 0) := hid (by rw [named_some hkc hgc, HEV.out])
  have HKC := hid hkc
  have HGC := hid hgc
  clear hkc hgc
  cases hka : frst p.gs p.gs.length [97, 108, 112, 104, 97] with
  | none =>
    have HKA := hid hka
    have HA2 : Hid (clampI 256 0 256 = shA p g i' j') := hid (by rw [HA1.out, named_none hka])
    have HI2 := HI
    have HBP2 := HBP
    have HX2 := hid X1
    clear hka
    go_wp2_with (at_lookup; refine wpList_first_ok _ rfl _ _ rfl _ _ _ rfl HM.out (⟨#[97, 108, 112, 104, 97]⟩ : ByteArray) (by decide) rfl none (by rw [alphaS]; exact HKA.out) ?_)
    clear b b0 b1 d d0 d1 d2 d3 d4 e e0 e1 e2 e3 e4 e5 e6 e7 e8
    have hbp2 := HBP2.out
    have hbe2 := HC.out.boxE HI2.out
    have b := hbp2.lt
    have b0 := hbp2.cell 0
    simp only [List.getElem?_toArray, List.getElem?_cons_zero, List.getElem?_cons_succ] at b0
    have b1 := hbp2.cell 1
    simp only [List.getElem?_toArray, List.getElem?_cons_zero, List.getElem?_cons_succ] at b1
    have e := hbe2.lt
    have e0 := hbe2.cell 0
    simp only [List.getElem?_toArray, List.getElem?_cons_zero, List.getElem?_cons_succ] at e0
    have e1 := hbe2.cell 1
    simp only [List.getElem?_toArray, List.getElem?_cons_zero, List.getElem?_cons_succ] at e1
    have e2 := hbe2.cell 2
    simp only [List.getElem?_toArray, List.getElem?_cons_zero, List.getElem?_cons_succ] at e2
    have e3 := hbe2.cell 3
    simp only [List.getElem?_toArray, List.getElem?_cons_zero, List.getElem?_cons_succ] at e3
    have e4 := hbe2.cell 4
    simp only [List.getElem?_toArray, List.getElem?_cons_zero, List.getElem?_cons_succ] at e4
    have e5 := hbe2.cell 5
    simp only [List.getElem?_toArray, List.getElem?_cons_zero, List.getElem?_cons_succ] at e5
    have e6 := hbe2.cell 6
    simp only [List.getElem?_toArray, List.getElem?_cons_zero, List.getElem?_cons_succ] at e6
    have e7 := hbe2.cell 7
    simp only [List.getElem?_toArray, List.getElem?_cons_zero, List.getElem?_cons_succ] at e7
    have e8 := hbe2.cell 8
    simp only [List.getElem?_toArray, List.getElem?_cons_zero, List.getElem?_cons_succ] at e8
    obtain ⟨_, zb, zo, ze, _, zl, z0, z1⟩ := (HC.out.asgs.same (HC.out.same HI2.out)).cell kc _ HGC.out
    simp only at z0 z1
    subst ze
    have hM2 := HC.out.mapE HI2.out
    have hcl : (⟨#[99, 111, 108, 111, 114]⟩ : ByteArray).size ≤ maxLen := by decide
    have hlook : ∀ dd, (Instr.lookup 69 (.map (some mb)) (.string ⟨#[99, 111, 108, 111, 114]⟩) false).run Tryz.prog (lowx w1.heap.size D w1.drew dd) = .ok (.int .i64 (kc : Int)) (lowx w1.heap.size D w1.drew dd) := fun dd => ((hM2.ext ((Ext.refl _).drew)).of_block (w' := lowx w1.heap.size D w1.drew dd) (lowx_same _ _ _ _ _ hM2.lt hmD)).look hcl (by rw [colS]; exact HKC.out)
    have hlook2 : ∀ dd, (Instr.lookup 69 (.map (some mb)) (.string ⟨#[99, 111, 108, 111, 114]⟩) false).run Tryz.prog (lowx w1.heap.size D w1 dd) = .ok (.int .i64 (kc : Int)) (lowx w1.heap.size D w1 dd) := fun dd => (hM2.of_block (w' := lowx w1.heap.size D w1 dd) (lowx_same _ _ _ _ _ hM2.lt hmD)).look hcl (by rw [colS]; exact HKC.out)
    have hzw := HX2.out.size
    have hzb : zb < w1.heap.size := by simp only [World.size_alloc] at zl; have := HI2.out.size; omega
    have hzD : zb ≠ D := by simp only [World.size_alloc] at zl; omega
    clear hbp2 hbe2 hM2
    go_wp2_with fail
    refine wp_region_stagesS [([0, 1, 2, 3, 4, 5, 6, 7, 8, 9, 10, 12], 11), ([], 13), ([], 14), ([], 15)] 99 (fun w' => ∃ d, w' = lowx (w1.heap.size) (D) _ d) (by kernel_rfl) (by kernel_rfl) ⟨_, lowx_of (fun _ _ _ => rfl)⟩ ?_
    refine wpStagesS_cons ?_
    simp only [List.filterMap_cons, List.filterMap_nil, List.getElem?_toArray, List.getElem?_cons_zero, List.getElem?_cons_succ]
    show wpQuiet _ _ _ _ [_, _, _, _, _, _, _, _, _, _, _, _] _
    repeat (go_big_quiet_step (fail))
    refine wpQuiet_nil ⟨_, rfl, fun K hK => ?_⟩
    go_wp2_with fail
    refine (iValues_any HC.out (p.rank rc + 1) rc _ (Nat.lt_succ_self _) hrc (HI2.out.ext ((Ext.refl _).drew))).mono ?_
    rintro e w5 ⟨⟨tg, tc, rfl, hO⟩, hI5, hg5⟩
    obtain ⟨t1, t2, t3, t4⟩ := row_at hO (HC.out.good rc hrc).1 hq
    rw [← HNC.out] at t4
    have HG5 := hid hg5
    have HX5 := hid (HX2.out.grown (grownBy.trans (grown_ext ((Ext.refl w1).drew) _) hg5 : w1.grownBy w5 (some D)) (fun k hk => by injection hk with hk; omega))
    clear hO hI5 hg5 hlook hlook2 z0 z1
    go_wp2_with fail
    refine hK _ _ (.inr ⟨_, lowx_of (SameX.gr HG5.out (Nat.le_refl _))⟩) ?_
    clear hK K
    refine wpStagesS_cons ?_
    simp only [List.filterMap_nil]
    show wpQuiet _ _ _ _ [] _
    try simp only [Act.put, List.setIfInBounds_toArray, List.set_cons_succ, List.set_cons_zero]
    repeat (go_big_quiet_step (fail))
    refine wpQuiet_nil ⟨_, rfl, fun K hK => ?_⟩
    go_wp2_with fail
    go_wp2_with fail
    refine hK _ _ (.inr ⟨_, lowx_of (SameX.gr HG5.out (Nat.le_refl _))⟩) ?_
    clear hK K
    refine wpStagesS_cons ?_
    simp only [List.filterMap_nil]
    show wpQuiet _ _ _ _ [] _
    try simp only [Act.put, List.setIfInBounds_toArray, List.set_cons_succ, List.set_cons_zero]
    repeat (go_big_quiet_step (fail))
    refine wpQuiet_nil ⟨_, rfl, fun K hK => ?_⟩
    go_wp2_with fail
    go_wp2_with fail
    refine hK _ _ (.inr ⟨_, lowx_of (SameX.gr HG5.out (Nat.le_refl _))⟩) ?_
    clear hK K
    refine wpStagesS_cons ?_
    simp only [List.filterMap_nil]
    show wpQuiet _ _ _ _ [] _
    try simp only [Act.put, List.setIfInBounds_toArray, List.set_cons_succ, List.set_cons_zero]
    repeat (go_big_quiet_step (fail))
    refine wpQuiet_nil ⟨_, rfl, fun K hK => ?_⟩
    go_wp2_with fail
    go_wp2_with fail
    refine hK _ _ (.inr ⟨_, lowx_of (SameX.gr HG5.out (Nat.le_refl _))⟩) ?_
    clear hK K
    refine wpStagesS_nil ?_
    go_wp2_with fail
    refine (iClamp_val HC1.out.symm _).mono ?_
    rintro e w6 ⟨rfl, rfl⟩
    go_wp2_with fail
    refine (iClamp_val HA2.out _).mono ?_
    rintro e w7 ⟨rfl, rfl⟩
    go_wp2
    refine bodyPost_ret (v := .tuple #[.int .i64 (shC p g i' j'), .int .i64 (shA p g i' j'), .bool true]) (by simp [results, Tryz.results11, go_sem]) rfl ⟨rfl, HX5.out⟩
  | some ka =>
    obtain ⟨sa, ra, hga, hra, hkal, _⟩ := HC.out.k.asg hka
    have HKA := hid hka
    have HNA : Hid (named p g q [97, 108, 112, 104, 97] = (p.ev n g.m g.f g.tm g.t ra).getD q 0) := hid (by rw [named_some hka hga, HEV.out])
    have HA2 : Hid (clampI (named p g q [97, 108, 112, 104, 97]) 0 256 = shA p g i' j') := hid HA1.out.symm
    obtain ⟨_, yb, yo, ye, _, yl, y0, y1⟩ := (HC.out.asgs.same (HC.out.same HI.out)).cell ka _ hga
    simp only at y0 y1
    subst ye
    have hyw : yb < w1.heap.size := by simp only [World.size_alloc] at yl; have := X1.size; omega
    have hka2 : ka ≤ 1048576 := by omega
    clear hka hga
    go_wp2_with (at_lookup; refine wpList_first_ok _ rfl _ _ rfl _ _ _ rfl HM.out (⟨#[97, 108, 112, 104, 97]⟩ : ByteArray) (by decide) rfl (some ka) (by rw [alphaS]; exact HKA.out) ?_)
    refine (iValues_any HC.out (p.rank ra + 1) ra _ (Nat.lt_succ_self _) hra HI.out).mono ?_
    rintro e w3 ⟨⟨tg, tc, rfl, hO⟩, hI3, hg3⟩
    obtain ⟨t1, t2, t3, t4⟩ := row_at hO (HC.out.good ra hra).1 hq
    rw [← HNA.out] at t4
    have HI2 := hid hI3
    have HBP2 : Hid (Bx w3 w.heap.size #[.slice a1 p.ns.length c1, .slice (some ⟨yb, yo, none⟩) p.gs.length c2] 26) := hid ((hg3.block w.heap.size HBP.out.lt (by simp; omega)).trans HBP.out)
    have HX2 := hid (X1.grown hg3 (fun k hk => by injection hk with hk; omega))
    clear hO hI3 hg3 b b0 b1 d d0 d1 d2 d3 d4 e e0 e1 e2 e3 e4 e5 e6 e7 e8 y0 y1
    go_wp2_with fail
    have hbp2 := HBP2.out
    have hbe2 := HC.out.boxE HI2.out
    have b := hbp2.lt
    have b0 := hbp2.cell 0
    simp only [List.getElem?_toArray, List.getElem?_cons_zero, List.getElem?_cons_succ] at b0
    have b1 := hbp2.cell 1
    simp only [List.getElem?_toArray, List.getElem?_cons_zero, List.getElem?_cons_succ] at b1
    have e := hbe2.lt
    have e0 := hbe2.cell 0
    simp only [List.getElem?_toArray, List.getElem?_cons_zero, List.getElem?_cons_succ] at e0
    have e1 := hbe2.cell 1
    simp only [List.getElem?_toArray, List.getElem?_cons_zero, List.getElem?_cons_succ] at e1
    have e2 := hbe2.cell 2
    simp only [List.getElem?_toArray, List.getElem?_cons_zero, List.getElem?_cons_succ] at e2
    have e3 := hbe2.cell 3
    simp only [List.getElem?_toArray, List.getElem?_cons_zero, List.getElem?_cons_succ] at e3
    have e4 := hbe2.cell 4
    simp only [List.getElem?_toArray, List.getElem?_cons_zero, List.getElem?_cons_succ] at e4
    have e5 := hbe2.cell 5
    simp only [List.getElem?_toArray, List.getElem?_cons_zero, List.getElem?_cons_succ] at e5
    have e6 := hbe2.cell 6
    simp only [List.getElem?_toArray, List.getElem?_cons_zero, List.getElem?_cons_succ] at e6
    have e7 := hbe2.cell 7
    simp only [List.getElem?_toArray, List.getElem?_cons_zero, List.getElem?_cons_succ] at e7
    have e8 := hbe2.cell 8
    simp only [List.getElem?_toArray, List.getElem?_cons_zero, List.getElem?_cons_succ] at e8
    obtain ⟨_, zb, zo, ze, _, zl, z0, z1⟩ := (HC.out.asgs.same (HC.out.same HI2.out)).cell kc _ HGC.out
    simp only at z0 z1
    simp only [Option.some.injEq, Addr.mk.injEq, and_true] at ze
    obtain ⟨rfl, rfl⟩ := ze
    have hM2 := HC.out.mapE HI2.out
    have hcl : (⟨#[99, 111, 108, 111, 114]⟩ : ByteArray).size ≤ maxLen := by decide
    have hlook : ∀ dd, (Instr.lookup 69 (.map (some mb)) (.string ⟨#[99, 111, 108, 111, 114]⟩) false).run Tryz.prog (lowx w3.heap.size D w3.drew dd) = .ok (.int .i64 (kc : Int)) (lowx w3.heap.size D w3.drew dd) := fun dd => ((hM2.ext ((Ext.refl _).drew)).of_block (w' := lowx w3.heap.size D w3.drew dd) (lowx_same _ _ _ _ _ hM2.lt hmD)).look hcl (by rw [colS]; exact HKC.out)
    have hlook2 : ∀ dd, (Instr.lookup 69 (.map (some mb)) (.string ⟨#[99, 111, 108, 111, 114]⟩) false).run Tryz.prog (lowx w3.heap.size D w3 dd) = .ok (.int .i64 (kc : Int)) (lowx w3.heap.size D w3 dd) := fun dd => (hM2.of_block (w' := lowx w3.heap.size D w3 dd) (lowx_same _ _ _ _ _ hM2.lt hmD)).look hcl (by rw [colS]; exact HKC.out)
    have hzw := HX2.out.size
    have hzb : yb < w3.heap.size := by simp only [World.size_alloc] at zl; have := HI2.out.size; omega
    have hzD : yb ≠ D := by simp only [World.size_alloc] at zl; omega
    clear hbp2 hbe2 hM2
    go_wp2_with fail
    refine wp_region_stagesS [([0, 1, 2, 3, 4, 5, 6, 7, 8, 9, 10, 12], 11), ([], 13), ([], 14), ([], 15)] 99 (fun w' => ∃ d, w' = lowx (w3.heap.size) (D) _ d) (by kernel_rfl) (by kernel_rfl) ⟨_, lowx_of (fun _ _ _ => rfl)⟩ ?_
    refine wpStagesS_cons ?_
    simp only [List.filterMap_cons, List.filterMap_nil, List.getElem?_toArray, List.getElem?_cons_zero, List.getElem?_cons_succ]
    show wpQuiet _ _ _ _ [_, _, _, _, _, _, _, _, _, _, _, _] _
    repeat (go_big_quiet_step (fail))
    refine wpQuiet_nil ⟨_, rfl, fun K hK => ?_⟩
    go_wp2_with fail
    refine (iValues_any HC.out (p.rank rc + 1) rc _ (Nat.lt_succ_self _) hrc (HI2.out.ext ((Ext.refl _).drew))).mono ?_
    rintro e w5 ⟨⟨tg, tc, rfl, hO⟩, hI5, hg5⟩
    obtain ⟨t1, t2, t3, t4⟩ := row_at hO (HC.out.good rc hrc).1 hq
    rw [← HNC.out] at t4
    have HG5 := hid hg5
    have HX5 := hid (HX2.out.grown (grownBy.trans (grown_ext ((Ext.refl w3).drew) _) hg5 : w3.grownBy w5 (some D)) (fun k hk => by injection hk with hk; omega))
    clear hO hI5 hg5 hlook hlook2 z0 z1
    go_wp2_with fail
    refine hK _ _ (.inr ⟨_, lowx_of (SameX.gr HG5.out (Nat.le_refl _))⟩) ?_
    clear hK K
    refine wpStagesS_cons ?_
    simp only [List.filterMap_nil]
    show wpQuiet _ _ _ _ [] _
    try simp only [Act.put, List.setIfInBounds_toArray, List.set_cons_succ, List.set_cons_zero]
    repeat (go_big_quiet_step (fail))
    refine wpQuiet_nil ⟨_, rfl, fun K hK => ?_⟩
    go_wp2_with fail
    go_wp2_with fail
    refine hK _ _ (.inr ⟨_, lowx_of (SameX.gr HG5.out (Nat.le_refl _))⟩) ?_
    clear hK K
    refine wpStagesS_cons ?_
    simp only [List.filterMap_nil]
    show wpQuiet _ _ _ _ [] _
    try simp only [Act.put, List.setIfInBounds_toArray, List.set_cons_succ, List.set_cons_zero]
    repeat (go_big_quiet_step (fail))
    refine wpQuiet_nil ⟨_, rfl, fun K hK => ?_⟩
    go_wp2_with fail
    go_wp2_with fail
    refine hK _ _ (.inr ⟨_, lowx_of (SameX.gr HG5.out (Nat.le_refl _))⟩) ?_
    clear hK K
    refine wpStagesS_cons ?_
    simp only [List.filterMap_nil]
    show wpQuiet _ _ _ _ [] _
    try simp only [Act.put, List.setIfInBounds_toArray, List.set_cons_succ, List.set_cons_zero]
    repeat (go_big_quiet_step (fail))
    refine wpQuiet_nil ⟨_, rfl, fun K hK => ?_⟩
    go_wp2_with fail
    go_wp2_with fail
    refine hK _ _ (.inr ⟨_, lowx_of (SameX.gr HG5.out (Nat.le_refl _))⟩) ?_
    clear hK K
    refine wpStagesS_nil ?_
    go_wp2_with fail
    refine (iClamp_val HC1.out.symm _).mono ?_
    rintro e w6 ⟨rfl, rfl⟩
    go_wp2_with fail
    refine (iClamp_val HA2.out _).mono ?_
    rintro e w7 ⟨rfl, rfl⟩
    go_wp2
    refine bodyPost_ret (v := .tuple #[.int .i64 (shC p g i' j'), .int .i64 (shA p g i' j'), .bool true]) (by simp [results, Tryz.results11, go_sem]) rfl ⟨rfl, HX5.out⟩
end Go.Proofs.YtaegmenjgjdimaaGreat
end

section
/- This text says in plain numbers which nodes of a program are uniform, and proves that these evaluate to one value all over a grid; it walks no function. -/
namespace Go.Proofs.YtaegmenjgjdimaaGreat
open Go.RowKit

/-- whether a node is uniform, given which other nodes are -/
def unB (p : Prg) (rec : Nat → Bool) (x : Nd) : Bool :=
  if x.op = 2 then (if isVar x.name then x.name.toList == [116] else rec (p.rootOf x.name)) else if x.op = 8 ∧ x.name.toList = [116, 101, 120] then false else x.args.all fun a => rec a.toNat
def unF (p : Prg) : Nat → Nat → Bool
  | 0, _ => false
  | F + 1, j => match p.ns[j]? with | some x => unB p (unF p F) x | none => false
noncomputable def Prg.un (p : Prg) (j : Nat) : Bool := unF p (p.rank j + 1) j
theorem all_congr {α : Type} {L : List α} {f g : α → Bool} (h : ∀ a ∈ L, f a = g a) : L.all f = L.all g := by
  induction L with
  | nil => rfl
  | cons a r ih => rw [List.all_cons, List.all_cons, h a (by simp), ih fun b hb => h b (by simp [hb])]
theorem unB_congr {p : Prg} {rec rec' : Nat → Bool} {x : Nd} (h1 : ∀ a ∈ x.args, rec a.toNat = rec' a.toNat) (h2 : x.op = 2 → isVar x.name = false → rec (p.rootOf x.name) = rec' (p.rootOf x.name)) : unB p rec x = unB p rec' x := by
  unfold unB
  rw [all_congr h1]
  by_cases o2 : x.op = 2
  · cases hv : isVar x.name
    · rw [h2 o2 hv]
    · rfl
  · simp only [if_neg o2]
theorem unF_eq {p : Prg} (h : p.K) : ∀ (F F' j : Nat), p.rank j < F → p.rank j < F' → unF p F j = unF p F' j := by
  intro F
  induction F with
  | zero => intro F' j hj; omega
  | succ F ih =>
    intro F' j hj hj'
    obtain ⟨G, rfl⟩ : ∃ G, F' = G + 1 := ⟨F' - 1, by omega⟩
    unfold unF
    cases hx : p.ns[j]? with
    | none => rfl
    | some x =>
      refine unB_congr (fun a ha => ?_) (fun o2 hv => ?_)
      · have := (h.rank_arg hx ha).1
        exact ih G _ (by omega) (by omega)
      · have := h.rank_name hx o2 hv
        exact ih G _ (by omega) (by omega)
theorem Prg.K.un_step {p : Prg} (h : p.K) {j : Nat} {x : Nd} (hx : p.ns[j]? = some x) : p.un j = unB p p.un x := by
  have e : p.un j = unB p (unF p (p.rank j)) x := by
    unfold Prg.un unF
    rw [hx]
  rw [e]
  refine unB_congr (fun a ha => ?_) (fun o2 hv => ?_)
  · exact unF_eq h _ _ _ (h.rank_arg hx ha).1 (by omega)
  · exact unF_eq h _ _ _ (h.rank_name hx o2 hv) (by omega)
/-- the first m entries of xs are one value -/
def CR (m : Nat) (xs : List Int) : Prop := ∃ c, ∀ q, q < m → xs.getD q 0 = c
theorem getD_map_range (m : Nat) (g : Nat → Int) {q : Nat} (hq : q < m) : ((List.range m).map g).getD q 0 = g q := by
  rw [List.getD_eq_getElem?_getD, List.getElem?_map, List.getElem?_range hq]
  rfl
theorem CR.of {m : Nat} {g : Nat → Int} {c : Int} (h : ∀ q, q < m → g q = c) : CR m ((List.range m).map g) := ⟨c, fun q hq => by rw [getD_map_range m g hq, h q hq]⟩
theorem CR.repl (m : Nat) (c : Int) : CR m (List.replicate m c) := ⟨c, fun q hq => by rw [List.getD_eq_getElem?_getD, List.getElem?_replicate, if_pos hq]; rfl⟩
theorem CR.zip {m : Nat} {g : Int → Int → Int} {xs ys : List Int} (h1 : CR m xs) (h2 : CR m ys) (l1 : xs.length = m) (l2 : ys.length = m) : CR m (List.zipWith g xs ys) := by
  obtain ⟨c, hc⟩ := h1
  obtain ⟨d, hd⟩ := h2
  refine ⟨g c d, fun q hq => ?_⟩
  have e1 := hc q hq
  have e2 := hd q hq
  rw [List.getD_eq_getElem?_getD, List.getElem?_eq_getElem (by omega)] at e1 e2
  rw [List.getD_eq_getElem?_getD, List.getElem?_zipWith, List.getElem?_eq_getElem (by omega), List.getElem?_eq_getElem (by omega)]
  simp only [Option.getD_some] at e1 e2
  simp [e1, e2]
theorem CR.diffs {n m : Nat} {xs : List Int} (h : CR m xs) (hm : n * n = m) (h1 : 1 ≤ n) (h8 : n ≤ 8) (rows : Bool) : CR m (diffs xs n rows) := by
  obtain ⟨c, hc⟩ := h
  have s0 : satI 0 = 0 := by decide
  unfold Go.Proofs.YtaegmenjgjdimaaGreat.diffs
  rw [hm]
  refine CR.of (c := 0) fun q hq => ?_
  unfold dVal
  by_cases hn : n = 1
  · rw [if_pos hn]
  · rw [if_neg hn]
    have hd := d_bd h1 h8 (k := q) (by omega) rows hn
    by_cases hs : dAt n q rows < n - 1
    · rw [if_pos hs, hc _ (by have := hd.1 hs; omega), hc q hq, Int.sub_self, s0]
    · rw [if_neg hs, hc q hq, hc _ (by omega), Int.sub_self, s0]
theorem CR.call {n m : Nat} {t : Tex} {l : List UInt8} {S : List (List Int)} (h : ∀ r ∈ S, CR m r) (hm : n * n = m) (h1 : 1 ≤ n) (h8 : n ≤ 8) : CR m (callRow n m t l S) := by
  have h0 : CR m (S.getD 0 []) := by
    cases S with
    | nil => exact ⟨0, fun q _ => by simp⟩
    | cons r S => exact h r (by simp)
  have hm0 : 0 < m := by rw [← hm]; exact Nat.mul_pos h1 h1
  unfold callRow
  by_cases e1 : (l == [100, 117]) = true
  · rw [if_pos e1]; exact h0.diffs hm h1 h8 _
  · rw [if_neg e1]
    by_cases e2 : (l == [100, 118]) = true
    · rw [if_pos e2]; exact h0.diffs hm h1 h8 _
    · rw [if_neg e2]
      refine CR.of (c := satI (fnV t l (colOf S 0))) fun q hq => ?_
      have : colOf S q = colOf S 0 := by
        unfold colOf
        refine List.map_congr_left fun r hr => ?_
        obtain ⟨c, hc⟩ := h r hr
        rw [hc q hq, hc 0 hm0]
      rw [this]
/-- a uniform node evaluates to one value all over a grid -/
theorem Prg.K.un_const {p : Prg} (h : p.K) {n m : Nat} {f : Nat → Int} {tm : Int} {t : Tex} (hm : n * n = m) (h1 : 1 ≤ n) (h8 : n ≤ 8) (hf : ∀ i, i < m * 5 → S9 (f i)) (ht : S9 tm) : ∀ (F j : Nat), p.rank j < F → j < p.ns.length → p.un j = true → CR m (p.ev n m f tm t j) := by
  intro F
  induction F with
  | zero => intro j hj; omega
  | succ F ih =>
    intro j hj hjl hu
    have hx : p.ns[j]? = some p.ns[j] := by simp [hjl]
    obtain ⟨x, hxe⟩ : ∃ x, p.ns[j] = x := ⟨_, rfl⟩
    rw [hxe] at hx
    rw [h.un_step hx] at hu
    rw [h.ev_step hx]
    have hG : ∀ a ∈ x.args, good m (p.ev n m f tm t a.toNat) := fun a ha => by
      have := h.rank_arg hx ha
      exact h.ev_good hm hf ht (p.rank a.toNat + 1) _ (by omega) this.2.1
    unfold unB at hu
    unfold evB
    by_cases o2 : x.op = 2
    · rw [if_pos o2] at hu
      rw [if_neg (by omega), if_pos o2]
      cases hv : isVar x.name
      · rw [hv] at hu
        obtain ⟨i, hi, _⟩ := h.name j x hx o2 hv
        obtain ⟨s', _, _, h4, h5⟩ := h.root hi
        have := h.rank_name hx o2 hv
        exact ih _ (by omega) h5 hu
      · rw [hv, if_pos rfl] at hu
        have e : x.name.toList = [116] := by simpa using hu
        rw [if_pos rfl, e]
        exact CR.of (c := tm) fun q _ => rfl
    · rw [if_neg o2] at hu
      by_cases o8 : x.op = 8 ∧ x.name.toList = [116, 101, 120]
      · rw [if_pos o8] at hu; cases hu
      rw [if_neg o8, List.all_eq_true] at hu
      have hA : ∀ a ∈ x.args, CR m (p.ev n m f tm t a.toNat) := fun a ha => by
        have := h.rank_arg hx ha
        exact ih _ (by omega) this.2.1 (hu a ha)
      rcases nodeF_op (h.v.nd j x hx).1 with ⟨o, h2, h3⟩ | ⟨o, h3⟩ | ⟨o, h3⟩ | ⟨o, o', h3⟩ | ⟨o, h3⟩
      · rw [if_pos o]; exact CR.repl m x.num
      · exact absurd o o2
      · rw [if_neg (by omega), if_neg (by omega), if_neg (by omega), if_pos o, getD_map _ _ (by omega)]
        exact (hA _ (List.getElem_mem _)).zip (hA _ (List.getElem_mem _)) (hG _ (List.getElem_mem _)).1 (hG _ (List.getElem_mem _)).1
      · rw [if_neg (by omega), if_neg (by omega), if_neg (by omega), if_neg (by omega), getD_map _ _ (by omega), getD_map _ _ (by omega)]
        exact (hA _ (List.getElem_mem _)).zip (hA _ (List.getElem_mem _)) (hG _ (List.getElem_mem _)).1 (hG _ (List.getElem_mem _)).1
      · rw [if_neg (by omega), if_neg (by omega), if_pos o]
        refine CR.call (fun r hr => ?_) hm h1 h8
        obtain ⟨a, ha, rfl⟩ := List.mem_map.1 hr
        exact hA a ha
/-- the values of a uniform node at two points -/
theorem evN_un {p : Prg} {g : Grd} {k : Nat} {i j : Int} (h : p.K) (hg : g.okB = true) (hu : p.un k = true) (hk : k < p.ns.length) (hp : p.chkB = true) (hi : 0 ≤ i ∧ i < g.n) (hj : 0 ≤ j ∧ j < g.n) : evN p g k i j = evN p g k 0 0 := by
  obtain ⟨n, hn, hnm, n1, n8, _, ht, hf⟩ := Grd.partsE hg
  obtain ⟨c, hc⟩ := h.un_const (n := n) (m := g.m) (f := g.f) (tm := g.tm) (t := g.t) hnm n1 n8 hf ht (p.rank k + 1) k (by omega) hk hu
  have hV : evV p g = p.ev n g.m g.f g.tm g.t := by unfold evV; rw [hn]; rfl
  obtain ⟨i', rfl⟩ : ∃ i' : Nat, i = i' := ⟨i.toNat, by omega⟩
  obtain ⟨j', rfl⟩ : ∃ j' : Nat, j = j' := ⟨j.toNat, by omega⟩
  rw [hn] at hi hj
  have q1 := at_lt hnm (i := i') (j := j') (by omega) (by omega)
  have q0 := at_lt hnm (i := 0) (j := 0) (by omega) (by omega)
  have ok1 : evOk p g i' j' = true := by
    unfold evOk
    rw [hp, hg, hn]
    simp only [Bool.true_and, Bool.and_eq_true]
    exact ⟨inB_iff.2 (by omega), inB_iff.2 (by omega)⟩
  have ok0 : evOk p g 0 0 = true := by
    unfold evOk
    rw [hp, hg, hn]
    simp only [Bool.true_and, Bool.and_eq_true]
    exact ⟨inB_iff.2 (by omega), inB_iff.2 (by omega)⟩
  unfold evN
  rw [ok1, ok0, hV, hn]
  simp only [Bool.true_and]
  by_cases hb : inB (k : Int) 0 ((p.ns.length : Int) - 1) = true
  · rw [if_pos hb, if_pos hb]
    have e1 : ((j' : Int) * n + i').toNat = j' * n + i' := by
      rw [show ((j' : Int) * n + i') = ((j' * n + i' : Nat) : Int) by simp]
      rfl
    have e0 : ((0 : Int) * n + 0).toNat = 0 * n + 0 := by simp
    rw [e1, e0]
    simp only [Int.toNat_natCast]
    rw [hc _ q1, hc _ q0]
  · rw [if_neg hb, if_neg hb]
end Go.Proofs.YtaegmenjgjdimaaGreat
end

section
/- This text holds whole blocks as the walks know them: what a block of cells holds, and what becomes of it. -/
namespace Go.Proofs.YtaegmenjgjdimaaGreat
open Go.RowKit

/-- block g of w holds the cells cs of element type t, and may be written -/
def Blk (w : World) (g : Nat) (t : TypeId) (cs : List Value) : Prop := w.heap[g]? = some (.cells cs.toArray t (0, 0))
theorem Blk.lt {w : World} {g : Nat} {t : TypeId} {cs : List Value} (h : Blk w g t cs) : g < w.heap.size := (Array.getElem?_eq_some_iff.1 h).1
theorem Blk.cell {w : World} {g : Nat} {t : TypeId} {cs : List Value} (h : Blk w g t cs) (i : Nat) {v : Value} (hi : cs[i]? = some v) : w.cell? ⟨g, i, none⟩ = some v := by
  unfold Blk at h
  simp [World.cell?, h, hi]
theorem Blk.free {w : World} {g : Nat} {t : TypeId} {cs : List Value} (h : Blk w g t cs) (i : Nat) : w.frozen? ⟨g, i, none⟩ = false := by
  unfold Blk at h
  simp [World.frozen?, h]
theorem Blk.new (w : World) (t : TypeId) (cs : List Value) : Blk (w.alloc (.cells cs.toArray t)) w.heap.size t cs := by
  show (w.heap.push _)[w.heap.size]? = _
  simp
theorem Blk.of {w w' : World} {g : Nat} {t : TypeId} {cs : List Value} (h : Blk w g t cs) (e : w'.heap[g]? = w.heap[g]?) : Blk w' g t cs := e.trans h
theorem Blk.ext {w w' : World} {g : Nat} {t : TypeId} {cs : List Value} (h : Blk w g t cs) (e : Ext w w') : Blk w' g t cs := h.of (e.block h.lt)
theorem Blk.set {w : World} {g : Nat} {t : TypeId} {cs : List Value} (h : Blk w g t cs) (i : Nat) (v : Value) : Blk (w.setCell ⟨g, i, none⟩ v) g t (cs.set i v) := by
  have hlt := h.lt
  have h' : w.heap[g] = .cells cs.toArray t (0, 0) := by unfold Blk at h; simpa [Array.getElem?_eq_getElem hlt] using h
  show (w.heap.modify g _)[g]? = _
  rw [Array.getElem?_eq_getElem (by simpa using hlt), Array.getElem_modify_self, h']
  simp
theorem Blk.other {w : World} {g : Nat} {t : TypeId} {cs : List Value} (h : Blk w g t cs) {a : Addr} (ne : g ≠ a.block) (v : Value) : Blk (w.setCell a v) g t cs := h.of (Below.heap_setCell _ _ _ _ ne)
theorem Blk.grown {w w' : World} {g : Nat} {t : TypeId} {cs : List Value} {row : Option Nat} (h : Blk w g t cs) (hg : w.grownBy w' row) (ne : some g ≠ row) : Blk w' g t cs := h.of (hg.block g h.lt ne)

theorem OwnInts.grown {lo : Nat} {w w' : World} {v : Value} {xs : List Int} {row : Option Nat} (h : OwnInts lo w v xs) (hg : w.grownBy w' row) (ne : ∀ k, v.ownBlock = some k → some k ≠ row) : OwnInts lo w' v xs := by
  obtain ⟨⟨h1, h2⟩, h3⟩ := h
  refine ⟨⟨h1, ?_⟩, h3⟩
  rcases h2 with hn | ⟨g, cap, cur, rfl, hb, hh, r⟩
  · exact .inl hn
  · exact .inr ⟨g, cap, cur, rfl, hb, by rw [hg.block g ((Array.getElem?_eq_some_iff.1 hh).1) (ne g rfl)]; exact hh, r⟩
theorem OwnInts.setOther {lo : Nat} {w : World} {v : Value} {xs : List Int} (h : OwnInts lo w v xs) {a : Addr} (ne : v.ownBlock ≠ some a.block) (u : Value) : OwnInts lo (w.setCell a u) v xs := ⟨ownsRow_setCell_other h.1 ne u, h.2⟩
theorem OwnInts.fresh0 {lo g : Nat} {w : World} (hl : lo ≤ g) (h : Blk w g 3 []) : OwnInts lo w (.slice (some ⟨g, 0, none⟩) 0 0) [] :=
  ⟨⟨rfl, .inr ⟨g, 0, #[], rfl, hl, h, Nat.le_refl _, Nat.zero_le _, rfl, rfl⟩⟩, fun _ h => by cases h⟩
theorem OwnInts.block {lo : Nat} {w : World} {v : Value} {xs : List Int} (h : OwnInts lo w v xs) {k : Nat} (hk : v.ownBlock = some k) : ∃ cur, w.heap[k]? = some (.cells cur 3 (0, 0)) := by
  obtain ⟨⟨h1, h2⟩, h3⟩ := h
  rcases h2 with ⟨rfl, _⟩ | ⟨g, cap, cur, rfl, hb, hh, r⟩
  · cases hk
  · simp only [Value.ownBlock, Option.some.injEq] at hk
    subst hk
    exact ⟨cur, hh⟩
theorem Ext.gr {w w' : World} (h : Ext w w') (row : Option Nat) : w.grownBy w' row := ⟨h.os, h.tape, h.output, h.size, fun i hi _ => h.block hi⟩
theorem Ext.setNew {w w1 : World} (h : Ext w w1) {b : Nat} (hb : w.heap.size ≤ b) (i : Nat) (u : Value) : Ext w (w1.setCell ⟨b, i, none⟩ u) := h.setCell hb u
end Go.Proofs.YtaegmenjgjdimaaGreat
end

section
/- This text proves what the reference's draws hand back: a cursor over bytes, numbers within bounds. -/
namespace Go.Proofs.YtaegmenjgjdimaaGreat
open Go.RowKit

/-- v reads in w as n bytes; its cells lie in blocks below hi -/
def Byts (hi : Nat) (w : World) (v : Value) (n : Nat) : Prop :=
  ∃ a cap, v = .slice a n cap ∧ n ≤ cap ∧ cap ≤ maxLen ∧ ∀ i, i < n → ∃ b off x, a = some ⟨b, off, none⟩ ∧ b < hi ∧ 0 ≤ x ∧ x ≤ 255 ∧ w.cell? ⟨b, off + i, none⟩ = some (.int .u8 x)
theorem Byts.same {hi : Nat} {w w' : World} {v : Value} {n : Nat} (h : Byts hi w v n) (s : Same 0 hi w w') : Byts hi w' v n := by
  obtain ⟨a, cap, h1, h2, h3, h4⟩ := h
  refine ⟨a, cap, h1, h2, h3, fun i hx => ?_⟩
  obtain ⟨b, off, x, h6, h7, h8, h9, h10⟩ := h4 i hx
  exact ⟨b, off, x, h6, h7, h8, h9, by rw [s.cell (Nat.zero_le _) h7]; exact h10⟩
theorem Byts.ext {hi : Nat} {w w' : World} {v : Value} {n : Nat} (h : Byts hi w v n) (hh : hi ≤ w.heap.size) (e : Ext w w') : Byts hi w' v n := h.same (e.same hh)
theorem Byts.open {hi : Nat} {w : World} {v : Value} {n : Nat} (h : Byts hi w v n) : ∃ a cap, v = .slice a n cap ∧ n ≤ cap ∧ cap ≤ 9223372036854775807 := by
  obtain ⟨a, cap, h1, h2, h3, _⟩ := h
  exact ⟨a, cap, h1, h2, by unfold maxLen at h3; omega⟩
theorem Byts.at {hi : Nat} {w : World} {a : Option Addr} {cap n : Nat} (h : Byts hi w (.slice a n cap) n) {i : Nat} (hi' : i < n) : ∃ b off x, a = some ⟨b, off, none⟩ ∧ b < hi ∧ 0 ≤ x ∧ x ≤ 255 ∧ w.cell? ⟨b, off + i, none⟩ = some (.int .u8 x) := by
  obtain ⟨a', cap', h1, h2, h3, h4⟩ := h
  simp only [Value.slice.injEq, true_and] at h1
  obtain ⟨rfl, rfl⟩ := h1
  exact h4 i hi'

/-- block B is a cursor over n bytes -/
def Cur (hi : Nat) (w : World) (B : Nat) : Prop :=
  hi ≤ B ∧ ∃ v n i h, Blk w B 102 [v, .int .i64 (i : Nat), .int .i64 h] ∧ Byts hi w v n ∧ i ≤ n ∧ n ≤ 1048576 ∧ I64 h
theorem Cur.lt {hi : Nat} {w : World} {B : Nat} (h : Cur hi w B) : B < w.heap.size := by
  obtain ⟨_, v, n, i, q, h1, _⟩ := h
  exact h1.lt
theorem Cur.ext {hi : Nat} {w w' : World} {B : Nat} (h : Cur hi w B) (e : Ext w w') : Cur hi w' B := by
  have hl := h.lt
  obtain ⟨h0, v, n, i, q, h1, h2, h3⟩ := h
  exact ⟨h0, v, n, i, q, h1.ext e, h2.ext (by omega) e, h3⟩
/-- w' is w with new blocks, and block B written -/
def Gr (B : Nat) (w w' : World) : Prop := w.grownBy w' (some B)
theorem Gr.refl (B : Nat) (w : World) : Gr B w w := World.grownBy.refl w _
theorem Gr.trans {B : Nat} {w w1 w2 : World} (h : Gr B w w1) (k : Gr B w1 w2) : Gr B w w2 := grownBy.trans h k
theorem Gr.ext {B : Nat} {w w1 w2 : World} (h : Gr B w w1) (k : Ext w1 w2) : Gr B w w2 := h.trans (k.gr _)
theorem Gr.size {B : Nat} {w w1 : World} (h : Gr B w w1) : w.heap.size ≤ w1.heap.size := World.grownBy.size h
theorem Gr.set {B : Nat} {w w1 : World} (h : Gr B w w1) (i : Nat) (u : Value) : Gr B w (w1.setCell ⟨B, i, none⟩ u) :=
  ⟨h.os, h.tape, h.output, by rw [World.size_setCell]; exact h.size, fun k hk hne => (Below.heap_setCell _ _ _ _ (fun e => hne (by simp only at e; rw [e]))).trans (h.block k hk hne)⟩
theorem Gr.up {B : Nat} {w0 w w1 : World} (h : Gr B w w1) (e : Ext w0 w) (hB : w0.heap.size ≤ B) : Ext w0 w1 := Ext.grown e h (fun k hk => by simp only [Option.some.injEq] at hk; omega)
theorem Gr.blk {B : Nat} {w w1 : World} (h : Gr B w w1) {g : Nat} {t : TypeId} {cs : List Value} (k : Blk w g t cs) (ne : g ≠ B) : Blk w1 g t cs := k.grown h (fun e => ne (by simpa using e))

theorem Gr.step {B : Nat} {wa w w' : World} {row : Option Nat} (h : Gr B wa w) (hg : w.grownBy w' row) (hr : ∀ k, row = some k → wa.heap.size ≤ k) : Gr B wa w' :=
  ⟨hg.os.trans h.os, hg.tape.trans h.tape, hg.output.trans h.output, Nat.le_trans h.size hg.size, fun k hk hne => (hg.block k (Nat.lt_of_lt_of_le hk h.size) (fun e => by have := hr k e.symm; omega)).trans (h.block k hk hne)⟩
theorem Gr.setNew {B : Nat} {wa w : World} (h : Gr B wa w) {b : Nat} (hb : wa.heap.size ≤ b) (i : Nat) (u : Value) : Gr B wa (w.setCell ⟨b, i, none⟩ u) :=
  ⟨h.os, h.tape, h.output, by rw [World.size_setCell]; exact h.size, fun k hk hne => (Below.heap_setCell _ _ _ _ (by simp only; omega)).trans (h.block k hk hne)⟩
theorem Cur.keep {hi : Nat} {w w' : World} {B : Nat} (h : Cur hi w B) (e : ∀ b, b ≤ B → w'.heap[b]? = w.heap[b]?) : Cur hi w' B := by
  obtain ⟨h0, v, n, i, q, h1, h2, h3⟩ := h
  exact ⟨h0, v, n, i, q, h1.of (e _ (Nat.le_refl _)), h2.same (fun b _ hb => e b (by omega)), h3⟩
theorem Cur.setNew {hi : Nat} {w : World} {B b : Nat} (h : Cur hi w B) (hb : B < b) (i : Nat) (u : Value) : Cur hi (w.setCell ⟨b, i, none⟩ u) B := h.keep fun k hk => Below.heap_setCell _ _ _ _ (by simp only; omega)
theorem and_mask (z : Int) (m : Nat) (hm : m < 4611686018427387904) : 0 ≤ bits .and .i64 z (m : Int) ∧ bits .and .i64 z (m : Int) ≤ m := by
  have h2 : (BitVec.ofInt 64 (m : Int)).toNat = m := by
    rw [BitVec.ofInt_natCast, BitVec.toNat_ofNat]; exact Nat.mod_eq_of_lt (by omega)
  have h3 : (BitVec.ofInt 64 z &&& BitVec.ofInt 64 (m : Int)).toNat ≤ m := by
    rw [BitVec.toNat_and, h2]
    exact Nat.and_le_right
  show 0 ≤ IntKind.i64.wrap ((BitVec.ofInt 64 z &&& BitVec.ofInt 64 (m : Int)).toNat : Int) ∧ IntKind.i64.wrap ((BitVec.ofInt 64 z &&& BitVec.ofInt 64 (m : Int)).toNat : Int) ≤ m
  rw [IntWalk.i64_in _ ⟨by omega, by omega⟩]
  omega
theorem wrap64_i64 (n : Int) : I64 (wrap64 n) := by unfold wrap64; exact ⟨by omega, by omega⟩
theorem mask255 (z : Int) : 0 ≤ bits .and .i64 z 255 ∧ bits .and .i64 z 255 ≤ 255 := and_mask z 255 (by decide)

set_option maxHeartbeats 800000 in
theorem l01Byte_any (hi B : Nat) (w : World) (hc : Cur hi w B) :
    Calls Tryz.prog 23 #[.pointer (some ⟨B, 0, none⟩)] w fun e w' => ∃ x : Int, e = .returned (.int .i64 x) ∧ (0 ≤ x ∧ x ≤ 255) ∧ Cur hi w' B ∧ Gr B w w' := by
  obtain ⟨h0, v, n, i, q, h1, h2, h3, h4, h5⟩ := hc
  obtain ⟨a, cap, rfl, k1, k2⟩ := h2.open
  have c0 := h1.cell 0 rfl
  have c1 := h1.cell 1 rfl
  have c2 := h1.cell 2 rfl
  have f0 := h1.free 0
  have f1 := h1.free 1
  have f2 := h1.free 2
  have z := h1.lt
  have H1 := hid h1
  have H2 := hid h2
  clear h1 h2
  go_enter Tryz.func23, Tryz.ntmps23
  go_wp2
  go_quiet (fail)
  go_wp2
  obtain ⟨q1, hq1⟩ : ∃ r, wrap64 (wrap64 (q * 6364136223846793005) + 1442695040888963407) = r := ⟨_, rfl⟩
  have i1 : I64 q1 := hq1 ▸ wrap64_i64 _
  rw [hq1]
  clear hq1
  obtain ⟨x1, hx1⟩ : ∃ x, bits .and .i64 (bits .xor .i64 (q1 / 8589934592) (q1 / 35184372088832)) 255 = x := ⟨_, rfl⟩
  have b1 : 0 ≤ x1 ∧ x1 ≤ 255 := hx1 ▸ mask255 _
  rw [hx1]
  clear hx1
  have B1 := H1.out.set 2 (.int .i64 q1)
  have G1 := (Gr.refl B w).set 2 (.int .i64 q1)
  clear c0 c1 c2 f0 f1 f2 z
  have G2 : Gr B w ((w.setCell ⟨B, 2, none⟩ (.int .i64 q1)).drewN nq) := G1.ext (by repeat (with_reducible (first | assumption | exact Ext.refl _ | apply Ext.alloc | apply Ext.drew | apply Ext.drewN)))
  have B2 : Blk ((w.setCell ⟨B, 2, none⟩ (.int .i64 q1)).drewN nq) B 102 [.slice a n cap, .int .i64 (i : Nat), .int .i64 q1] := B1
  have H3 : Byts hi ((w.setCell ⟨B, 2, none⟩ (.int .i64 q1)).drewN nq) (.slice a n cap) n := H2.out.same (fun b _ hb => G2.block b (by have := H1.out.lt; omega) (fun e => by simp only [Option.some.injEq] at e; omega))
  have hz : w.heap.size ≤ ((w.setCell ⟨B, 2, none⟩ (.int .i64 q1)).drewN nq).heap.size := G2.size
  obtain ⟨w1, hw1⟩ : ∃ w1, (w.setCell ⟨B, 2, none⟩ (.int .i64 q1)).drewN nq = w1 := ⟨_, rfl⟩
  rw [hw1] at G2 B2 H3 hz ⊢
  have c0 := B2.cell 0 rfl
  have c1 := B2.cell 1 rfl
  have z := B2.lt
  clear hw1 B1 G1
  by_cases hlt : i < n
  · obtain ⟨b, off, y, rfl, hb, y0, y1, hcy⟩ := H3.at hlt
    have f1 := B2.free 1
    have hb2 : b < w1.heap.size := by omega
    replace H3 := hid H3
    go_quiet (fail)
    go_wp2
    go_quiet (fail)
    go_wp2
    go_ret
    refine ⟨_, rfl, mask255 _, ⟨h0, _, n, i + 1, q1, ?_, H3.out.same (fun b _ hb => Below.heap_setCell _ _ _ _ (by simp; omega)), by omega, h4, i1⟩, ?_⟩
    · have B3 := B2.set 1 (.int .i64 ((i : Int) + 1))
      have e : ((i : Int) + 1) = ((i + 1 : Nat) : Int) := by omega
      rw [← e]
      exact B3
    · exact (G2.ext (show Ext w1 (w1.drewN _) from (by repeat (with_reducible (first | assumption | exact Ext.refl _ | apply Ext.alloc | apply Ext.drew | apply Ext.drewN))))).set 1 _
  · go_quiet (fail)
    go_wp2
    go_ret
    exact ⟨x1, rfl, b1, ⟨h0, _, n, i, q1, B2, H3, h3, h4, i1⟩, G2.ext (by repeat (with_reducible (first | assumption | exact Ext.refl _ | apply Ext.alloc | apply Ext.drew | apply Ext.drewN)))⟩

set_option maxHeartbeats 800000 in
theorem l01Below_any (hi B : Nat) (n : Int) (w : World) (hc : Cur hi w B) (h0 : 0 < n) (hn : I64 n) :
    Calls Tryz.prog 50 #[.pointer (some ⟨B, 0, none⟩), .int .i64 n] w fun e w' => ∃ x : Int, e = .returned (.int .i64 x) ∧ (0 ≤ x ∧ x < n) ∧ Cur hi w' B ∧ Gr B w w' := by
  have HC := hid hc
  have HN := hid hn
  clear hc hn
  have hn0 : ¬ n ≤ 0 := by omega
  by_cases h1 : n ≤ 256
  · go_enter Tryz.func50, Tryz.ntmps50
    go_wp2_with fail
    refine (l01Byte_any hi B _ HC.out).mono ?_
    rintro e w1 ⟨x, rfl, ⟨x0, x1⟩, C1, G1⟩
    go_wp2
    go_ret
    exact ⟨x % n, rfl, ⟨Int.emod_nonneg _ (by omega), Int.emod_lt_of_pos _ h0⟩, C1, G1⟩
  · go_enter Tryz.func50, Tryz.ntmps50
    go_wp2_with fail
    refine (l01Byte_any hi B _ HC.out).mono ?_
    rintro e w1 ⟨x, rfl, ⟨x0, x1⟩, C1, G1⟩
    go_wp2_with fail
    refine (l01Byte_any hi B _ C1).mono ?_
    rintro e w2 ⟨y, rfl, ⟨y0, y1⟩, C2, G2⟩
    go_wp2_with fail
    refine (l01Byte_any hi B _ C2).mono ?_
    rintro e w3 ⟨z, rfl, ⟨z0, z1⟩, C3, G3⟩
    go_wp2_with fail
    refine (l01Byte_any hi B _ C3).mono ?_
    rintro e w4 ⟨v, rfl, ⟨v0, v1⟩, C4, G4⟩
    go_wp2
    go_ret
    exact ⟨_, rfl, ⟨Int.emod_nonneg _ (by omega), Int.emod_lt_of_pos _ h0⟩, C4, ((G1.trans G2).trans G3).trans G4⟩

theorem mask30 (z : Int) : 0 ≤ bits .and .i64 z 1073741823 ∧ bits .and .i64 z 1073741823 ≤ 1073741823 := and_mask z 1073741823 (by decide)
set_option maxHeartbeats 800000 in
theorem l01New_any (hi : Nat) (v : Value) (n : Nat) (w : World) (hv : Byts hi w v n) (hh : hi ≤ w.heap.size) (hn : n ≤ 1048576) :
    Calls Tryz.prog 20 #[v] w fun e w' => ∃ B, e = .returned (.pointer (some ⟨B, 0, none⟩)) ∧ w.heap.size ≤ B ∧ Cur hi w' B ∧ Ext w w' := by
  have HV := hid hv
  obtain ⟨a, cap, rfl, k1, k2⟩ := hv.open
  clear hv
  go_enter Tryz.func20, Tryz.ntmps20
  go_wp2
  go_loop [3, 4] (fun h i => ∃ (x : Int) (k : Nat), h = .int .i64 x ∧ i = .int .i64 k ∧ (0 ≤ x ∧ x ≤ 1100000000) ∧ k ≤ n) (fun _ i => n - (intOf i).toNat)
  case atStart => exact ⟨1953 + (n : Int), 0, rfl, rfl, ⟨by omega, by omega⟩, by omega⟩
  case round =>
    obtain ⟨x, k, rfl, rfl, ⟨x0, x1⟩, hk⟩ := hrel
    by_cases hlt : k < n
    · obtain ⟨b, off, y, rfl, hb, y0, y1, hcy⟩ := HV.out.at hlt
      have hb2 : b < w.heap.size := by omega
      by_cases h4 : k < 4000
      · have e4 : decide ((k : Int) < 4000) = true := decide_eq_true (by omega)
        go_wp2
        go_round
        case rel => exact ⟨_, k + 1, rfl, by go_num, ⟨(mask30 _).1, Int.le_trans (mask30 _).2 (by decide)⟩, by omega⟩
        case measure => simp [intOf]; omega
      · have e4 : decide ((k : Int) < 4000) = false := decide_eq_false (by omega)
        go_wp2
        go_ret
        exact ⟨w.heap.size, rfl, Nat.le_refl _, ⟨hh, _, n, 0, x, Blk.new _ _ _, HV.out.ext hh (by repeat (with_reducible (first | assumption | exact Ext.refl _ | apply Ext.alloc | apply Ext.drew | apply Ext.drewN))), by omega, hn, ⟨by omega, by omega⟩⟩, (by repeat (with_reducible (first | assumption | exact Ext.refl _ | apply Ext.alloc | apply Ext.drew | apply Ext.drewN)))⟩
    · obtain rfl : k = n := by omega
      go_wp2
      go_ret
      exact ⟨w.heap.size, rfl, Nat.le_refl _, ⟨hh, _, k, 0, x, Blk.new _ _ _, HV.out.ext hh (by repeat (with_reducible (first | assumption | exact Ext.refl _ | apply Ext.alloc | apply Ext.drew | apply Ext.drewN))), by omega, hn, ⟨by omega, by omega⟩⟩, (by repeat (with_reducible (first | assumption | exact Ext.refl _ | apply Ext.alloc | apply Ext.drew | apply Ext.drewN)))⟩

set_option maxHeartbeats 800000 in
theorem l32New_any (hi : Nat) (v : Value) (n m : Nat) (w : World) (hv : Byts hi w v n) (hh : hi ≤ w.heap.size) (hn : n ≤ 1048576) (hm : m ≤ 1000) :
    Calls Tryz.prog 22 #[v, .int .i64 m] w fun e w' => ∃ B, e = .returned (.pointer (some ⟨B, 0, none⟩)) ∧ w.heap.size ≤ B ∧ Cur hi w' B ∧ Ext w w' := by
  have HV := hid hv
  obtain ⟨a, cap, rfl, k1, k2⟩ := hv.open
  clear hv
  go_enter Tryz.func22, Tryz.ntmps22
  go_wp2_with fail
  refine (l01New_any hi _ n _ HV.out hh hn).mono ?_
  rintro e w1 ⟨B, rfl, hB, C1, x1⟩
  have HC := hid C1
  have HX := hid x1
  clear C1 x1
  go_wp2
  go_loopw [6] (fun i wr => ∃ k : Nat, i = .int .i64 k ∧ k ≤ m ∧ Cur hi wr B ∧ Gr B w1 wr) (fun i _ => m - (intOf i).toNat)
  case atStart => exact ⟨0, rfl, by omega, HC.out, Gr.refl _ _⟩
  case round =>
    obtain ⟨k, rfl, hk, C2, G2⟩ := hrel
    by_cases hlt : k < m
    · go_wp2_with fail
      refine (l01Byte_any hi B _ C2).mono ?_
      rintro e w3 ⟨x, rfl, hx, C3, G3⟩
      have HC3 := hid C3
      have HG3 := hid (G2.trans G3)
      clear C2 G2 C3 G3 hx
      go_wp2
      go_roundw
      case rel => exact ⟨k + 1, by go_num, by omega, HC3.out, HG3.out⟩
      case measure => simp [intOf]; omega
    · obtain rfl : k = m := by omega
      have HC2 := hid C2
      have HG2 := hid G2
      clear C2 G2
      go_wp2
      go_ret
      exact ⟨B, rfl, hB, HC2.out, HG2.out.up HX.out hB⟩

set_option maxHeartbeats 800000 in
theorem MakeNum_any (hi : Nat) (v : Value) (n m : Nat) (w : World) (hv : Byts hi w v n) (hh : hi ≤ w.heap.size) (hn : n ≤ 1048576) (hm : m ≤ 1000) :
    Calls Tryz.prog 8 #[v, .int .i64 m] w fun e w' => ∃ x : Int, e = .returned (.int .i64 x) ∧ (0 ≤ x ∧ x ≤ 65535) ∧ Ext w w' := by
  have HV := hid hv
  obtain ⟨a, cap, rfl, k1, k2⟩ := hv.open
  clear hv
  go_enter Tryz.func8, Tryz.ntmps8
  go_wp2_with fail
  refine (l32New_any hi _ n m _ HV.out hh hn hm).mono ?_
  rintro e w1 ⟨B, rfl, hB, C1, x1⟩
  go_wp2_with fail
  refine (l01Byte_any hi B _ C1).mono ?_
  rintro e w2 ⟨x, rfl, ⟨x0, x1'⟩, C2, G2⟩
  go_wp2_with fail
  refine (l01Byte_any hi B _ C2).mono ?_
  rintro e w3 ⟨y, rfl, ⟨y0, y1'⟩, C3, G3⟩
  go_wp2
  go_ret
  exact ⟨_, rfl, ⟨by omega, by omega⟩, (G2.trans G3).up x1 hB⟩
end Go.Proofs.YtaegmenjgjdimaaGreat
end

section
/- This text proves a law on regions that draw their order: a batch of operations that only make new blocks and wait for nothing serves every order at once; it speaks of no program. -/
namespace Go.Proofs.YtaegmenjgjdimaaGreat
open Go.RowKit

/-- several results are put -/
def putL (a : Act) : List (Nat × Value) → Act
  | [] => a
  | (d, v) :: r => putL (a.put (some d) v) r
theorem put_get (a : Act) (d : Nat) (v : Value) (i : Nat) : (a.put (some d) v).tmps[i]? = if d = i then (a.tmps[i]?).map (fun _ => v) else a.tmps[i]? := by
  show (a.tmps.setIfInBounds d v)[i]? = _
  rw [Array.getElem?_setIfInBounds]
  split
  · rename_i e
    subst e
    split
    · rename_i h
      rw [Array.getElem?_eq_getElem h]
      rfl
    · rename_i h
      rw [Array.getElem?_eq_none (by omega)]
      rfl
  · rfl
theorem putL_size : ∀ (L : List (Nat × Value)) (a : Act), (putL a L).tmps.size = a.tmps.size
  | [], _ => rfl
  | (d, v) :: r, a => by
    unfold putL
    rw [putL_size r]
    show (a.tmps.setIfInBounds d v).size = _
    rw [Array.size_setIfInBounds]
theorem putL_defers : ∀ (L : List (Nat × Value)) (a : Act), (putL a L).defers = a.defers
  | [], _ => rfl
  | (d, v) :: r, a => by
    unfold putL
    rw [putL_defers r]
    rfl
theorem putL_get (us : Nat → Value) (i : Nat) : ∀ (D : List Nat) (a : Act), (putL a (D.map fun d => (d, us d))).tmps[i]? = if i ∈ D then (a.tmps[i]?).map (fun _ => us i) else a.tmps[i]?
  | [], a => by simp [putL]
  | d :: D, a => by
    rw [List.map_cons]
    unfold putL
    rw [putL_get us i D, put_get]
    by_cases e : d = i
    · subst e
      rw [if_pos rfl, if_pos (List.mem_cons_self ..)]
      cases a.tmps[d]? <;> simp
    · rw [if_neg e]
      by_cases h : i ∈ D
      · rw [if_pos h, if_pos (List.mem_cons_of_mem _ h)]
      · rw [if_neg h, if_neg (by simp [h]; omega)]
theorem nodup_inj {α β : Type} {f : α → β} : ∀ {L : List α}, (L.map f).Nodup → ∀ {x y : α}, x ∈ L → y ∈ L → f x = f y → x = y
  | [], _, _, _, hx, _, _ => nomatch hx
  | a :: L, h, x, y, hx, hy, e => by
    rw [List.map_cons, List.nodup_cons] at h
    rcases List.mem_cons.1 hx with rfl | hx'
    · rcases List.mem_cons.1 hy with rfl | hy'
      · rfl
      · exact absurd (List.mem_map.2 ⟨y, hy', e.symm⟩) h.1
    · rcases List.mem_cons.1 hy with rfl | hy'
      · exact absurd (List.mem_map.2 ⟨x, hx', e⟩) h.1
      · exact nodup_inj h.2 hx' hy' e
theorem act_ext {a b : Act} (h1 : ∀ i : Nat, a.tmps[i]? = b.tmps[i]?) (h2 : a.defers = b.defers) : a = b := by
  cases a
  cases b
  simp only at h1 h2
  subst h2
  congr 1
  exact Array.ext_getElem? h1
theorem putL_put (us : Nat → Value) (D : List Nat) (a : Act) {d : Nat} (hd : d ∈ D) (v : Value) : (putL a (D.map fun d => (d, us d))).put (some d) v = putL a (D.map fun j => (j, if j = d then v else us j)) := by
  refine act_ext (fun i => ?_) ?_
  · rw [put_get, putL_get, putL_get (fun j => if j = d then v else us j)]
    by_cases e : d = i
    · subst e
      rw [if_pos rfl, if_pos hd, if_pos hd]
      cases a.tmps[d]? <;> simp
    · rw [if_neg e]
      by_cases h : i ∈ D
      · rw [if_pos h, if_pos h, if_neg (Ne.symm e)]
      · rw [if_neg h, if_neg h]
  · show (putL a (D.map fun d => (d, us d))).defers = _
    rw [putL_defers, putL_defers]
theorem putL_self (D : List Nat) (a : Act) : putL a (D.map fun d => (d, a.tmps.getD d undef)) = a := by
  refine act_ext (fun i => ?_) (putL_defers _ _)
  rw [putL_get (fun d => a.tmps.getD d undef)]
  split
  · cases h : a.tmps[i]? with
    | none => rfl
    | some x => simp [Array.getD_eq_getD_getElem?, h]
  · rfl
theorem listAll_get (i : Nat) : ∀ (T : List Nat) (l : Array Bool), (listAll T l)[i]? = if i ∈ T then (l[i]?).map (fun _ => true) else l[i]?
  | [], l => by simp [listAll]
  | t :: T, l => by
    unfold listAll
    rw [listAll_get i T, Array.getElem?_setIfInBounds]
    by_cases e : t = i
    · subst e
      rw [if_pos rfl, if_pos (List.mem_cons_self ..)]
      by_cases h : t < l.size
      · rw [if_pos h, Array.getElem?_eq_getElem h]; split <;> rfl
      · rw [if_neg h, Array.getElem?_eq_none (by omega)]; split <;> rfl
    · rw [if_neg e]
      by_cases h : i ∈ T
      · rw [if_pos h, if_pos (List.mem_cons_of_mem _ h)]
      · rw [if_neg h, if_neg (by simp [h]; omega)]

/-- an operation of the batch: its number, where its result goes, what is known of the result -/
structure BSpec where
  op : Nat
  dst : Nat
  good : Value → World → Prop
def batchOk (ops : Array Oper) : Nat → Array Bool → List Nat → Bool
  | 0, _, R => R.isEmpty
  | n + 1, l, R => (Region.ready .any ops l).all (fun i => R.contains i && batchOk ops n (l.setIfInBounds i true) (R.erase i)) && !(Region.ready .any ops l).isEmpty

section
variable {P : Program} {ops : Array Oper} {Q : Exit → Act → World → Prop} {S : World → Prop} {z fuel : Nat} {w0 : World} {a : Act} {l0 : Array Bool} {B : List BSpec}

theorem batch_go (hnd : (B.map (·.op)).Nodup) (hS : ∀ w', Ext w0 w' → S w')
    (hst : ∀ b ∈ B, ∀ v w w', b.good v w → Ext w w' → b.good v w')
    (hsp : ∀ b ∈ B, ∀ (us : Nat → Value) (w1 : World), Ext w0 w1 → ∃ o, ops[b.op]? = some o ∧ ∀ K : Act → World → Prop, (∀ v w', Ext w1 w' → b.good v w' → K ((putL a ((B.map (·.dst)).map fun d => (d, us d))).put (some b.dst) v) w') → wpList P ops (Exit.then K Q) [o] (putL a ((B.map (·.dst)).map fun d => (d, us d))) w1)
    (hdd : (B.map (·.dst)).Nodup)
    (hend : ∀ (us : Nat → Value) (w1 : World), Ext w0 w1 → (∀ b ∈ B, b.good (us b.dst) w1) → wpAnyZ P .any ops Q S z fuel (listAll (B.map (·.op)) l0) (putL a ((B.map (·.dst)).map fun d => (d, us d))) w1) :
    ∀ (n : Nat) (R : List Nat) (l : Array Bool) (us : Nat → Value) (w : World), n = R.length → R.Nodup → (∀ i ∈ R, i ∈ B.map (·.op)) → batchOk ops n l R = true → (∀ i, l[i]? = if i ∈ B.map (·.op) ∧ i ∉ R then (l0[i]?).map (fun _ => true) else l0[i]?) → Ext w0 w → (∀ b ∈ B, b.op ∉ R → b.good (us b.dst) w) →
      wpAnyZ P .any ops Q S z (n + fuel) l (putL a ((B.map (·.dst)).map fun d => (d, us d))) w
  | 0, R, l, us, w, hn, _, _, _, hl, hw, hg => by
    obtain rfl : R = [] := List.length_eq_zero_iff.1 hn.symm
    have e : l = listAll (B.map (·.op)) l0 := Array.ext_getElem? fun i => by
      rw [hl i, listAll_get]
      by_cases h : i ∈ B.map (·.op)
      · rw [if_pos ⟨h, List.not_mem_nil⟩, if_pos h]
      · rw [if_neg (fun h' => h h'.1), if_neg h]
    rw [Nat.zero_add, e]
    exact hend us w hw fun b hb => hg b hb List.not_mem_nil
  | n + 1, R, l, us, w, hn, hR, hRB, hck, hl, hw, hg => by
    unfold batchOk at hck
    simp only [Bool.and_eq_true, List.all_eq_true] at hck
    obtain ⟨hall, hne⟩ := hck
    rw [Nat.succ_add]
    refine ⟨fun h0 => ?_, fun i hi => ?_⟩
    · rw [h0] at hne; cases hne
    · obtain ⟨hiR, hrec⟩ := hall i hi
      have hiR : i ∈ R := by simpa using hiR
      obtain ⟨b, hb, rfl⟩ := List.mem_map.1 (hRB i hiR)
      obtain ⟨o, ho, hK⟩ := hsp b hb us w hw
      have ht := hK (fun a' w' => (b.op = z ∨ S w') ∧ wpAnyZ P .any ops Q S z (n + fuel) (l.setIfInBounds b.op true) a' w') (fun v w' hx hgv => by
        have hw' := hw.trans hx
        refine ⟨.inr (hS _ hw'), ?_⟩
        rw [putL_put us _ _ (List.mem_map.2 ⟨b, hb, rfl⟩)]
        refine batch_go hnd hS hst hsp hdd hend n (R.erase b.op) (l.setIfInBounds b.op true) (fun j => if j = b.dst then v else us j) w' ?_ (hR.erase _) (fun j hj => hRB j (List.mem_of_mem_erase hj)) hrec (fun j => ?_) hw' (fun c hc hcR => ?_)
        · rw [List.length_erase_of_mem hiR]; omega
        · rw [Array.getElem?_setIfInBounds]
          by_cases e : b.op = j
          · subst e
            have hc : b.op ∈ B.map (·.op) ∧ b.op ∉ R.erase b.op := ⟨hRB _ hiR, hR.not_mem_erase⟩
            rw [if_pos rfl, if_pos hc]
            have h0 := hl b.op
            rw [if_neg (fun h => h.2 hiR)] at h0
            by_cases hs : b.op < l.size
            · rw [if_pos hs]
              rw [Array.getElem?_eq_getElem hs] at h0
              rw [← h0]
              rfl
            · rw [if_neg hs]
              rw [Array.getElem?_eq_none (by omega)] at h0
              rw [← h0]
              rfl
          · rw [if_neg e, hl j]
            have : (j ∉ R.erase b.op) ↔ (j ∉ R) := by
              rw [List.mem_erase_of_ne (Ne.symm e)]
            simp only [this]
        · by_cases e : c = b
          · subst e
            show c.good (if c.dst = c.dst then v else us c.dst) w'
            rw [if_pos rfl]
            exact hgv
          · have hne : c.dst ≠ b.dst := fun h => e (nodup_inj hdd hc hb h)
            have hnop : c.op ≠ b.op := fun h => e (nodup_inj hnd hc hb h)
            show c.good (if c.dst = b.dst then v else us c.dst) w'
            rw [if_neg hne]
            refine hst c hc _ _ _ (hg c hc fun h => hcR ?_) hx
            exact (List.mem_erase_of_ne hnop).2 h)
      unfold wpOp
      simp only [ho]
      unfold wpList at ht
      split
      · rename_i hw2
        rw [if_pos hw2] at ht
        rcases ht with ht | ⟨h1, h2⟩
        · refine .inl ?_
          have h3 := upon_then ht
          exact h3
        · exact .inr ⟨h1, h2⟩
      · rename_i hw2
        rw [if_neg hw2] at ht
        exact ht
end
/-- the law that the walks use: behind the first reads, a batch of operations that make new blocks, in any order -/
theorem wpZ_batch {P : Program} {ops : Array Oper} {Q : Exit → Act → World → Prop} {z fuel : Nat} {w0 w : World} {a : Act} {l : Array Bool} (B : List BSpec) (n : Nat) (hn : B.length = n) (hw : Ext w0 w)
    (hck : batchOk ops n l (B.map (·.op)) = true) (hnd : (B.map (·.op)).Nodup) (hdd : (B.map (·.dst)).Nodup)
    (hst : ∀ b ∈ B, ∀ v w w', b.good v w → Ext w w' → b.good v w')
    (hsp : ∀ b ∈ B, ∀ (us : Nat → Value) (w1 : World), Ext w0 w1 → ∃ o, ops[b.op]? = some o ∧ ∀ K : Act → World → Prop, (∀ v w', Ext w1 w' → b.good v w' → K ((putL a ((B.map (·.dst)).map fun d => (d, us d))).put (some b.dst) v) w') → wpList P ops (Exit.then K (NoPanic Q)) [o] (putL a ((B.map (·.dst)).map fun d => (d, us d))) w1)
    (hend : ∀ (us : Nat → Value) (w1 : World), Ext w0 w1 → (∀ b ∈ B, b.good (us b.dst) w1) → wpZ P ops (NoPanic Q) w0.heap.size w0 z fuel (listAll (B.map (·.op)) l) (putL a ((B.map (·.dst)).map fun d => (d, us d))) w1) :
    wpZ P ops (NoPanic Q) w0.heap.size w0 z (n + fuel) l a w := by
  have h := batch_go (P := P) (Q := NoPanic Q) (S := fun w' => ∃ d, w' = lowg w0.heap.size w0 d) (z := z) (fuel := fuel) (l0 := l) hnd (fun w' hx => ⟨_, lowg_of (hx.same (Nat.le_refl _))⟩) hst hsp hdd hend n (B.map (·.op)) l (fun d => a.tmps.getD d undef) w (by rw [List.length_map]; exact hn.symm) hnd (fun i hi => hi) hck (fun i => by rw [if_neg (fun h => h.2 h.1)]) hw (fun b hb h => absurd (List.mem_map.2 ⟨b, hb, rfl⟩) h)
  rw [putL_self] at h
  exact h
/-- the first reads alone -/
theorem wpZ_reads {P : Program} {ops : Array Oper} {Q : Exit → Act → World → Prop} {N : Nat} {w0 : World} {z fuel : Nat} {l : Array Bool} {a : Act} {w : World} (T : List Nat) (hB : (Region.noSelect ops && waitsAll .any ops z && takesOk ops z T l) = true) (hS : Same 0 N w0 w)
    (h : wpQuiet P ops (fun w' => ∃ d, w' = lowg N w0 d) (fun a' => wpZ P ops (NoPanic Q) N w0 z fuel (listAll T l) a' w) (T.filterMap (ops[·]?)) a) : wpZ P ops (NoPanic Q) N w0 z (T.length + fuel) l a w := by
  simp only [Bool.and_eq_true] at hB
  obtain ⟨⟨h1, h2⟩, h3⟩ := hB
  exact wpZ_takes h1 h2 ⟨_, lowg_of hS⟩ T l a h3 (fun a' hk => hk) h
end Go.Proofs.YtaegmenjgjdimaaGreat
end

section
/- This text proves what the closure inside the program's uniforms does. -/
namespace Go.Proofs.YtaegmenjgjdimaaGreat
open Go.RowKit Go.Maps Go.WideMaps

/-- a list of flags is changed to what is so, at nodes of assignment k alone -/
def UnTo (p : Prg) (k : Nat) (o o' : List Bool) : Prop := o'.length = o.length ∧ ∀ j, o'.getD j false = o.getD j false ∨ (o'.getD j false = p.un j ∧ Own p j k)
theorem UnTo.refl (p : Prg) (k : Nat) (o : List Bool) : UnTo p k o o := ⟨rfl, fun _ => .inl rfl⟩
theorem UnTo.trans {p : Prg} {k : Nat} {o o1 o2 : List Bool} (h : UnTo p k o o1) (h' : UnTo p k o1 o2) : UnTo p k o o2 :=
  ⟨h'.1.trans h.1, fun j => by
    rcases h'.2 j with e | e
    · rw [e]; exact h.2 j
    · exact .inr e⟩
theorem getB_set (o : List Bool) (i j : Nat) (x : Bool) (hi : i < o.length) : (o.set i x).getD j false = if i = j then x else o.getD j false := by
  rw [List.getD_eq_getElem?_getD, List.getElem?_set]
  by_cases e : i = j
  · subst e; simp [hi]
  · simp [e]
theorem UnTo.keep {p : Prg} {k : Nat} {o o' : List Bool} (h : UnTo p k o o') {j : Nat} (hj : o.getD j false = p.un j) : o'.getD j false = p.un j := by
  rcases h.2 j with e | e
  · rw [e, hj]
  · exact e.1
/-- what is known of the assignments ahead of k stays known -/
def UnDone (p : Prg) (k : Nat) (o : List Bool) : Prop := ∀ j t, Own p j t → t < k → o.getD j false = p.un j
theorem UnTo.done {p : Prg} {k : Nat} {o o' : List Bool} (h : UnTo p k o o') (hd : UnDone p k o) : UnDone p k o' := fun j t h1 h2 => h.keep (hd j t h1 h2)
theorem UnTo.fin {p : Prg} {k node : Nat} {o o' : List Bool} {u : Bool} (h : UnTo p k o o') (hn : node < o'.length) (hown : Own p node k) (hu : u = p.un node) (hs : ∀ (x : Nd) (a : Nat), p.ns[node]? = some x → (a : Int) ∈ x.args → ∀ q, Sub p a q → o'.getD q false = p.un q) :
    UnTo p k o (o'.set node u) ∧ ∀ j, Sub p node j → (o'.set node u).getD j false = p.un j := by
  have h1 : UnTo p k o' (o'.set node u) := ⟨by simp, fun j => by
    rw [getB_set _ _ _ _ hn]
    by_cases e : node = j
    · subst e; exact .inr ⟨by simp [hu], hown⟩
    · exact .inl (by simp [e])⟩
  refine ⟨h.trans h1, fun j hj => ?_⟩
  rcases hj.head with rfl | ⟨x, a, g1, g2, g3⟩
  · rw [getB_set _ _ _ _ hn, if_pos rfl, hu]
  · exact h1.keep (hs x a g1 g2 j g3)
/-- the boxes of the program's uniforms: program, function, flags, first assignments -/
structure UB (p : Prg) (P V O M R mb : Nat) (a1 a2 : Option Addr) (c1 c2 : Nat) (w : World) (o : List Bool) : Prop where
  prog : Bx w P #[.slice a1 p.ns.length c1, .slice a2 p.gs.length c2] 26
  fn : Bx w V #[.func (.func 53) #[] #[.pointer (some ⟨P, 0, none⟩), .pointer (some ⟨V, 0, none⟩), .pointer (some ⟨O, 0, none⟩), .pointer (some ⟨M, 0, none⟩)]] 114
  out : Bx w O #[.slice (some ⟨R, 0, none⟩) p.ns.length p.ns.length] 63
  mp : Bx w M #[.map (some mb)] 69
  map : FM w mb p.gs p.gs.length
  row : Blk w R 4 (o.map Value.bool)
theorem Bx.ne {w : World} {A B : Nat} {cs : Array Value} {ds : List Value} {t u : TypeId} (h : Bx w A cs t) (k : Blk w B u ds) (ht : t ≠ u) : A ≠ B := fun e => by
  subst e
  unfold Bx at h
  unfold Blk at k
  rw [h] at k
  simp only [Option.some.injEq, Obj.cells.injEq] at k
  exact ht k.2.1
theorem FM.ne {w : World} {b k B : Nat} {gs : List Asg} {ds : List Value} {u : TypeId} (h : FM w b gs k) (hb : Blk w B u ds) : b ≠ B := fun e => by
  subst e
  obtain ⟨n, D, _, ⟨es, clock, h1, _⟩, _⟩ := h
  unfold Blk at hb
  rw [hb] at h1
  cases h1
theorem UB.ext {p : Prg} {P V O M R mb : Nat} {a1 a2 : Option Addr} {c1 c2 : Nat} {w w' : World} {o : List Bool} (h : UB p P V O M R mb a1 a2 c1 c2 w o) (x : Ext w w') : UB p P V O M R mb a1 a2 c1 c2 w' o :=
  ⟨h.prog.ext x, h.fn.ext x, h.out.ext x, h.mp.ext x, h.map.ext x, h.row.ext x⟩
theorem UB.set {p : Prg} {P V O M R mb : Nat} {a1 a2 : Option Addr} {c1 c2 : Nat} {w : World} {o : List Bool} (h : UB p P V O M R mb a1 a2 c1 c2 w o) (i : Nat) (b : Bool) : UB p P V O M R mb a1 a2 c1 c2 (w.setCell ⟨R, i, none⟩ (.bool b)) (o.set i b) :=
  ⟨h.prog.other (h.prog.ne h.row (by decide)) _, h.fn.other (h.fn.ne h.row (by decide)) _, h.out.other (h.out.ne h.row (by decide)) _, h.mp.other (h.mp.ne h.row (by decide)) _, h.map.of_block (Below.heap_setCell _ _ _ _ (h.map.ne h.row)), by rw [List.map_set]; exact h.row.set i _⟩
theorem UB.rowCell {p : Prg} {P V O M R mb : Nat} {a1 a2 : Option Addr} {c1 c2 : Nat} {w : World} {o : List Bool} (h : UB p P V O M R mb a1 a2 c1 c2 w o) {i : Nat} (hi : i < o.length) : w.cell? ⟨R, i, none⟩ = some (.bool (o.getD i false)) := by
  refine h.row.cell i ?_
  rw [List.getElem?_map, List.getElem?_eq_getElem hi, List.getD_eq_getElem?_getD, List.getElem?_eq_getElem hi]
  rfl
set_option maxRecDepth 20000 in
set_option maxHeartbeats 12800000 in
theorem iUn_any (lo hi : Nat) (p : Prg) (hv : p.K) (hbd : p.bd) (W : World) (a1 a2 : Option Addr) (c1 c2 : Nat) (HN : NdsAt lo hi W a1 c1 p.ns) (HA : AsgsAt lo hi W a2 c2 p.gs) (hh : hi ≤ W.heap.size) (P V O M R mb : Nat) (hR : W.heap.size ≤ R) (k : Nat) : ∀ m,
    ∀ (node : Nat) (o : List Bool) (w : World), node < m → Own p node k → o.length = p.ns.length → UnDone p k o → UB p P V O M R mb a1 a2 c1 c2 w o → Ext W w →
    Calls Tryz.prog 53 #[.int .i64 (node : Nat), .pointer (some ⟨P, 0, none⟩), .pointer (some ⟨V, 0, none⟩), .pointer (some ⟨O, 0, none⟩), .pointer (some ⟨M, 0, none⟩)] w fun e w' => e = .returned (.bool (p.un node)) ∧ (∃ o', UB p P V O M R mb a1 a2 c1 c2 w' o' ∧ UnTo p k o o' ∧ ∀ j, Sub p node j → o'.getD j false = p.un j) ∧ Gr R w w' := by
  intro m
  have l1 := HN.le
  have l2 := HN.cap
  have l3 := hv.v.len
  induction m with
  | zero => intro node o w hm; omega
  | succ m ih =>
    intro node o w hm hown hol hdn hB hx
    have hnl := (hown.lt hv.v).1
    have zx := hx.size
    have HB := hid hB
    have HX := hid hx
    have HOL := hid hol
    have HOW := hid hown
    have HDN := hid hdn
    obtain ⟨b, off, op, s, num, sa, sc, ra, rfl, hb1, hbw, hget, io, inn, hI, HI, y0, y1, y2, y3⟩ := HN.atW hnl hx hh
    have HG := hid hget
    have li1 := HI.le
    have li2 := HI.cap
    have hBp := hB.prog
    have qp := hBp.cell 0
    simp only [List.getElem?_toArray, List.getElem?_cons_zero] at qp
    have IH := hid ih
    have hss : s.size ≤ maxLen := hbd.1 _ (List.mem_of_getElem? hget)
    have nb := Blk.new w 79 [.int .i64 op, .string s, .int .i64 num, .slice sa ra.length sc]
    have xn : Ext w (w.alloc (.cells #[.int .i64 op, .string s, .int .i64 num, .slice sa ra.length sc] 79)) := (by repeat (with_reducible (first | assumption | exact Ext.refl _ | apply Ext.alloc | apply Ext.drew | apply Ext.drewN)))
    have NB := hid nb
    have XN := hid xn
    clear ih hget hol hown hdn hB hx nb xn hBp
    go_enter Tryz.func53, Tryz.ntmps53
    go_wp2
    go_loopw [8, 19] (fun v i wr => ∃ (j : Nat) (o' : List Bool), j ≤ ra.length ∧ i = .int .i64 (j : Nat) ∧ v = .bool ((ra.take j).all fun a => p.un a.toNat) ∧ UB p P V O M R mb (some ⟨b, off, none⟩) a2 c1 c2 wr o' ∧ UnTo p k o o' ∧ (∀ t a, t < j → ra[t]? = some ((a : Nat) : Int) → ∀ q, Sub p a q → o'.getD q false = p.un q) ∧ Blk wr w.heap.size 79 [.int .i64 op, .string s, .int .i64 num, .slice sa ra.length sc] ∧ Gr R w wr) (fun _ i _ => ra.length - (intOf i).toNat)
    case atStart => exact ⟨0, o, by omega, rfl, rfl, HB.out.ext XN.out, UnTo.refl _ _ _, (fun t a h => by omega), NB.out, (Gr.refl R w).ext XN.out⟩
    case round =>
      clear HB NB XN
      obtain ⟨j, o', hj, rfl, rfl, hB, hO, hA, hN, hg⟩ := hrel
      have HB := hid hB
      have HT := hid hO
      have HSA := hid hA
      have HNB := hid hN
      have HGR := hid hg
      have HXr := hid (hg.up HX.out hR)
      clear hB hO hA hN hg
      by_cases hlj : j < ra.length
      · obtain ⟨b3, off3, y, rfl, hb3, hy, _, hc3⟩ := HI.atE hlj HXr.out hh
        have hyb := (hv.v.nd node _ HG.out).2 y (List.mem_of_getElem? hy)
        obtain ⟨z, rfl⟩ : ∃ z : Nat, y = z := ⟨y.toNat, by omega⟩
        have hOz := hid (HOW.out.down HG.out (List.mem_of_getElem? hy))
        have HY := hid hy
        have hfn := HB.out.fn
        have qf := hfn.cell 0
        simp only [List.getElem?_toArray, List.getElem?_cons_zero] at qf
        have htk : ((ra.take (j + 1)).all fun a => p.un a.toNat) = (((ra.take j).all fun a => p.un a.toNat) && p.un z) := by
          rw [List.take_add_one, hy, List.all_append]
          simp
        have HTK := hid htk
        clear hy htk hfn
        go_wp2_with fail
        refine (IH.out z o' _ (by omega) hOz.out (by rw [HT.out.1]; exact HOL.out) (HT.out.done HDN.out) HB.out HXr.out).mono ?_
        rintro e w1 ⟨rfl, ⟨o2, hB2, hO2, hS2⟩, hg2⟩
        have HB2 := hid hB2
        have HT2 := hid (HT.out.trans hO2)
        have HO2 := hid hO2
        have HS2 := hid hS2
        have HNB2 := hid (hg2.blk HNB.out (fun e => by
          have := HNB.out
          rw [e] at this
          have hr := HB.out.row
          unfold Blk at this hr
          rw [hr] at this
          simp only [Option.some.injEq, Obj.cells.injEq] at this
          exact absurd this.2.1 (by decide)))
        have HGR2 := hid (HGR.out.trans hg2)
        obtain ⟨uz, huz⟩ : ∃ u, p.un z = u := ⟨_, rfl⟩
        have HUZ := hid huz
        rw [huz]
        have HA2 : Hid (∀ t a, t < j + 1 → ra[t]? = some ((a : Nat) : Int) → ∀ q, Sub p a q → o2.getD q false = p.un q) := hid (fun t a ht ha q hq => by
          by_cases e : t = j
          · subst e
            rw [HY.out] at ha
            injection ha with ha
            have : z = a := by omega
            subst this
            exact HS2.out q hq
          · exact HO2.out.keep (HSA.out t a (by omega) ha q hq))
        clear hB2 hO2 hS2 hg2 HB HT HSA HNB HGR HXr qf huz
        cases uz
        · go_wp2
          go_roundw
          case rel => exact ⟨j + 1, o2, by omega, by go_num, by rw [HTK.out, HUZ.out, Bool.and_false], HB2.out, HT2.out, HA2.out, HNB2.out, HGR2.out⟩
          case measure => simp [intOf]; omega
        · go_wp2
          go_roundw
          case rel => exact ⟨j + 1, o2, by omega, by go_num, by rw [HTK.out, HUZ.out, Bool.and_true], HB2.out, HT2.out, HA2.out, HNB2.out, HGR2.out⟩
          case measure => simp [intOf]; omega
      · obtain rfl : j = ra.length := by omega
        rw [List.take_length]
        have hus := hv.un_step HG.out
        have HUS := hid hus
        have HSU : Hid (∀ (x : Nd) (a : Nat), p.ns[node]? = some x → (a : Int) ∈ x.args → ∀ q, Sub p a q → o'.getD q false = p.un q) := hid (fun x a h1 h2 q h3 => by
          rw [HG.out] at h1
          injection h1 with h1
          subst h1
          obtain ⟨t, ht, hta⟩ := List.getElem_of_mem h2
          exact HSA.out t a (by have : t < ra.length := ht; omega) (by rw [← hta]; simp [ht]) q h3)
        have n0 := HNB.out.cell 0 rfl
        have n1 := HNB.out.cell 1 rfl
        have zn := HNB.out.lt
        have HGR2 := HGR
        clear hus HSA
        by_cases h2 : op = 2
        · cases hvar : isVar s
          · obtain ⟨i, hi, hik⟩ := hv.name node _ HG.out h2 hvar
            simp only at hi
            obtain ⟨s', hg1, _, how, hrl⟩ := hv.root hi
            obtain ⟨rt, hrt⟩ : ∃ rt, p.rootOf s = rt := ⟨_, rfl⟩
            rw [hrt] at hg1 how hrl
            have hil := (List.getElem?_eq_some_iff.1 hg1).1
            have hik2 : i < k := by
              have := hv.v.own_eq HOW.out
              omega
            have hru := (HT.out.done HDN.out) rt i (Own.root hg1) hik2
            have hnr2 : rt < o'.length := by rw [(HT.out).1, HOL.out]; exact hrl
            have qrt := HB.out.rowCell hnr2
            rw [hru] at qrt
            obtain ⟨_, b4, off4, ea4, _, hb4, _, z1⟩ := HA.cell i _ hg1
            subst ea4
            simp only at z1
            have hb4w : b4 < wr.heap.size := by have := HXr.out.size; omega
            have z1' := (HXr.out.cells.1 b4 _ (by omega)).trans z1
            have hla := HA.le
            have hlc := HA.cap
            have hM := HB.out.map
            have hlook : ∀ d, (Instr.lookup 69 (.map (some mb)) (.string s) false).run Tryz.prog (lowg wr.heap.size wr d) = .ok (.int .i64 (i : Int)) (lowg wr.heap.size wr d) := fun d => (hM.of_block (w' := lowg wr.heap.size wr d) (lowg_same _ _ _ _ (Nat.zero_le _) hM.lt)).look hss hi
            have hlook2 : ∀ d, (Instr.lookup 69 (.map (some mb)) (.string s) false).run Tryz.prog (lowg wr.heap.size wr.drew d) = .ok (.int .i64 (i : Int)) (lowg wr.heap.size wr.drew d) := fun d => ((hM.ext ((Ext.refl wr).drew)).of_block (w' := lowg wr.heap.size wr.drew d) (lowg_same _ _ _ _ (Nat.zero_le _) hM.lt)).look hss hi
            have HV : Hid (p.un rt = p.un node) := hid (by rw [HUS.out]; simp [unB, h2, hvar, hrt])
            have HBV := hid hvar
            have hpr := HB.out.prog
            have hou := HB.out.out
            have hmp := HB.out.mp
            have p0 := hpr.cell 1
            have o0 := hou.cell 0
            have m0 := hmp.cell 0
            simp only [List.getElem?_toArray, List.getElem?_cons_zero, List.getElem?_cons_succ] at p0 o0 m0
            have pl := hpr.lt
            have ol := hou.lt
            have ml := hmp.lt
            have rl := HB.out.row.lt
            clear hvar hi hg1 how hru z1 hM hpr hou hmp
            go_wp2_with fail
            refine (iIsVariable_val HBV.out _).mono ?_
            rintro e w4 ⟨rfl, rfl⟩
            go_wp2_with fail
            refine wp_region_stages [([0, 1, 2, 3, 4, 5, 6, 7, 8, 9, 10, 11], 12)] 99 wr.heap.size (by kernel_rfl) (by kernel_rfl) ?_
            refine wpStages_cons ?_
            simp only [List.filterMap_cons, List.filterMap_nil, List.getElem?_toArray, List.getElem?_cons_zero, List.getElem?_cons_succ]
            show wpQuiet _ _ _ _ [_, _, _, _, _, _, _, _, _, _, _, _] _
            repeat (go_big_quiet_step (fail))
            refine wpQuiet_nil ⟨_, rfl, fun K hK => ?_⟩
            go_wp2_with fail
            refine hK _ _ (.inr (fun b _ hb => rfl)) ?_
            clear hK K
            refine wpStages_nil ?_
            clear hlook hlook2 p0 o0 m0
            have hou := HB.out.out
            have qo := hou.cell 0
            have qf := hou.frozen 0
            simp only [List.getElem?_toArray, List.getElem?_cons_zero] at qo
            have hnr : node < o'.length := by rw [(HT.out).1, HOL.out]; exact hnl
            have qr := HB.out.rowCell hnr
            have qg := HB.out.row.free node
            have zr := HB.out.row.lt
            go_wp2
            go_ret
            have hval : (p.un rt) = p.un node := HV.out
            obtain ⟨g1, g2⟩ := HT.out.fin hnr HOW.out hval HSU.out
            exact ⟨ret_bool hval, ⟨_, (HB.out.set node (p.un rt)).ext (by repeat (with_reducible (first | assumption | exact Ext.refl _ | apply Ext.alloc | apply Ext.drew | apply Ext.drewN))), g1, g2⟩, (HGR2.out.set node (.bool (p.un rt))).ext (by repeat (with_reducible (first | assumption | exact Ext.refl _ | apply Ext.alloc | apply Ext.drew | apply Ext.drewN)))⟩
          · have HVA := hid hvar
            clear hvar
            go_wp2_with fail
            refine (iIsVariable_val HVA.out _).mono ?_
            rintro e w4 ⟨rfl, rfl⟩
            have hou := HB.out.out
            have qo := hou.cell 0
            have qf := hou.frozen 0
            simp only [List.getElem?_toArray, List.getElem?_cons_zero] at qo
            have hnr : node < o'.length := by rw [(HT.out).1, HOL.out]; exact hnl
            have qr := HB.out.rowCell hnr
            have qg := HB.out.row.free node
            have zr := HB.out.row.lt
            go_wp2
            go_ret
            have hval : (s.toList == [116]) = p.un node := by rw [HUS.out]; simp [unB, h2, HVA.out]
            obtain ⟨g1, g2⟩ := HT.out.fin hnr HOW.out hval HSU.out
            exact ⟨ret_bool hval, ⟨_, (HB.out.set node (s.toList == [116])).ext (by repeat (with_reducible (first | assumption | exact Ext.refl _ | apply Ext.alloc | apply Ext.drew | apply Ext.drewN))), g1, g2⟩, (HGR2.out.set node (.bool (s.toList == [116]))).ext (by repeat (with_reducible (first | assumption | exact Ext.refl _ | apply Ext.alloc | apply Ext.drew | apply Ext.drewN)))⟩
        · by_cases h8 : op = 8
          · cases htx : (s.toList == [116, 101, 120])
            · have htl : ¬ s.toList = [116, 101, 120] := fun e => by rw [e] at htx; cases htx
              have hou := HB.out.out
              have qo := hou.cell 0
              have qf := hou.frozen 0
              simp only [List.getElem?_toArray, List.getElem?_cons_zero] at qo
              have hnr : node < o'.length := by rw [(HT.out).1, HOL.out]; exact hnl
              have qr := HB.out.rowCell hnr
              have qg := HB.out.row.free node
              have zr := HB.out.row.lt
              go_wp2
              go_ret
              have hval : (ra.all fun a => p.un a.toNat) = p.un node := by rw [HUS.out]; simp [unB, h2, htl]
              obtain ⟨g1, g2⟩ := HT.out.fin hnr HOW.out hval HSU.out
              exact ⟨ret_bool hval, ⟨_, (HB.out.set node (ra.all fun a => p.un a.toNat)).ext (by repeat (with_reducible (first | assumption | exact Ext.refl _ | apply Ext.alloc | apply Ext.drew | apply Ext.drewN))), g1, g2⟩, (HGR2.out.set node (.bool (ra.all fun a => p.un a.toNat))).ext (by repeat (with_reducible (first | assumption | exact Ext.refl _ | apply Ext.alloc | apply Ext.drew | apply Ext.drewN)))⟩
            · have htl : s.toList = [116, 101, 120] := eq_of_beq htx
              have HTL := hid htl
              clear htl
              have hou := HB.out.out
              have qo := hou.cell 0
              have qf := hou.frozen 0
              simp only [List.getElem?_toArray, List.getElem?_cons_zero] at qo
              have hnr : node < o'.length := by rw [(HT.out).1, HOL.out]; exact hnl
              have qr := HB.out.rowCell hnr
              have qg := HB.out.row.free node
              have zr := HB.out.row.lt
              go_wp2
              go_ret
              have hval : false = p.un node := by rw [HUS.out]; simp [unB, h8, HTL.out]
              obtain ⟨g1, g2⟩ := HT.out.fin hnr HOW.out hval HSU.out
              exact ⟨ret_bool hval, ⟨_, (HB.out.set node false).ext (by repeat (with_reducible (first | assumption | exact Ext.refl _ | apply Ext.alloc | apply Ext.drew | apply Ext.drewN))), g1, g2⟩, (HGR2.out.set node (.bool false)).ext (by repeat (with_reducible (first | assumption | exact Ext.refl _ | apply Ext.alloc | apply Ext.drew | apply Ext.drewN)))⟩
          · have hou := HB.out.out
            have qo := hou.cell 0
            have qf := hou.frozen 0
            simp only [List.getElem?_toArray, List.getElem?_cons_zero] at qo
            have hnr : node < o'.length := by rw [(HT.out).1, HOL.out]; exact hnl
            have qr := HB.out.rowCell hnr
            have qg := HB.out.row.free node
            have zr := HB.out.row.lt
            go_wp2
            go_ret
            have hval : (ra.all fun a => p.un a.toNat) = p.un node := by rw [HUS.out]; simp [unB, h2, h8]
            obtain ⟨g1, g2⟩ := HT.out.fin hnr HOW.out hval HSU.out
            exact ⟨ret_bool hval, ⟨_, (HB.out.set node (ra.all fun a => p.un a.toNat)).ext (by repeat (with_reducible (first | assumption | exact Ext.refl _ | apply Ext.alloc | apply Ext.drew | apply Ext.drewN))), g1, g2⟩, (HGR2.out.set node (.bool (ra.all fun a => p.un a.toNat))).ext (by repeat (with_reducible (first | assumption | exact Ext.refl _ | apply Ext.alloc | apply Ext.drew | apply Ext.drewN)))⟩
end Go.Proofs.YtaegmenjgjdimaaGreat
end

section
/- This text proves the program's uniforms and IsUniform. -/
namespace Go.Proofs.YtaegmenjgjdimaaGreat
open Go.RowKit Go.Maps Go.WideMaps

/-- a fresh row of flags; a map of first assignments; a fresh box -/
def GRow (lo n : Nat) (v : Value) (w : World) : Prop := ∃ g, v = .slice (some ⟨g, 0, none⟩) n n ∧ lo ≤ g ∧ Blk w g 4 ((List.replicate n false).map Value.bool)
def GMap (gs : List Asg) (v : Value) (w : World) : Prop := ∃ mb, v = .map (some mb) ∧ FM w mb gs gs.length
def GBox (lo : Nat) (t : TypeId) (cs : Array Value) (v : Value) (w : World) : Prop := ∃ g, v = .pointer (some ⟨g, 0, none⟩) ∧ lo ≤ g ∧ Bx w g cs t
theorem GRow.ext {lo n : Nat} {v : Value} {w w' : World} (h : GRow lo n v w) (x : Ext w w') : GRow lo n v w' := by
  obtain ⟨g, h1, h2, h3⟩ := h
  exact ⟨g, h1, h2, h3.ext x⟩
theorem GMap.ext {gs : List Asg} {v : Value} {w w' : World} (h : GMap gs v w) (x : Ext w w') : GMap gs v w' := by
  obtain ⟨g, h1, h2⟩ := h
  exact ⟨g, h1, h2.ext x⟩
theorem GBox.ext {lo : Nat} {t : TypeId} {cs : Array Value} {v : Value} {w w' : World} (h : GBox lo t cs v w) (x : Ext w w') : GBox lo t cs v w' := by
  obtain ⟨g, h1, h2, h3⟩ := h
  exact ⟨g, h1, h2, h3.ext x⟩
theorem FM.neB {w : World} {b k B : Nat} {gs : List Asg} {cs : Array Value} {u : TypeId} (h : FM w b gs k) (hb : Bx w B cs u) : b ≠ B := fun e => by
  subst e
  obtain ⟨n, D, _, ⟨es, clock, h1, _⟩, _⟩ := h
  unfold Bx at hb
  rw [hb] at h1
  cases h1
theorem info_boolU : (Tryz.prog.info? 4).map (fun i => (i.zero, i.size, i.bytes)) = some (some (.bool false), 1, 1) := by kernel_rfl
theorem made_boolsU (n : Nat) : (madeCells #[Value.bool false] n).toList = (List.replicate n false).map Value.bool := by
  apply List.ext_getElem?
  intro i
  by_cases h : i < n
  · simp [madeCells, h]
    rw [Nat.mod_one]
    rfl
  · simp [madeCells, h]
theorem ownsRow.blkU {w : World} {lo g n : Nat} {e : TypeId} {xs : List Value} (h : w.ownsRow lo e 1 (.slice (some ⟨g, 0, none⟩) n n) n xs) : Blk w g e xs := by
  obtain ⟨h1, ⟨h2, _⟩ | ⟨g', cap, cur, e1, _, e2, _, _, e3, e4⟩⟩ := h
  · cases h2
  · simp only [Value.slice.injEq, Option.some.injEq, Addr.mk.injEq] at e1
    obtain ⟨⟨rfl, _⟩, _, rfl⟩ := e1
    rw [List.take_of_length_le (by simp [e3])] at e4
    unfold Blk
    rw [e2, ← e4]
set_option maxRecDepth 20000 in
set_option maxHeartbeats 6400000 in
theorem iUniforms_any (lo hi : Nat) (v : Value) (p : Prg) (w : World) (hv : p.R lo hi w v) (hh : hi ≤ w.heap.size) (hp : p.K) (hbd : p.bd) (hgl : p.gs.length ≤ 1048576) :
    Calls Tryz.prog 26 #[v] w fun e w' => (∃ R, e = .returned (.slice (some ⟨R, 0, none⟩) p.ns.length p.ns.length) ∧ w.heap.size ≤ R ∧ ∃ o : List Bool, Blk w' R 4 (o.map Value.bool) ∧ o.length = p.ns.length ∧ ∀ j, j < p.ns.length → o.getD j false = p.un j) ∧ Ext w w' := by
  have HV := hid hv
  obtain ⟨a1, c1, a2, c2, rfl, HN, HG⟩ := hv.form
  have l1 := HN.le
  have l2 := HN.cap
  have l3 := HG.le
  have l4 := HG.cap
  have l5 := hp.v.len
  clear hv
  have bB := Bx.made w #[.slice a1 p.ns.length c1, .slice a2 p.gs.length c2] 26
  have HBB := hid bB
  have x0 : Ext w (w.alloc (.cells #[.slice a1 p.ns.length c1, .slice a2 p.gs.length c2] 26)) := (by repeat (with_reducible (first | assumption | exact Ext.refl _ | apply Ext.alloc | apply Ext.drew | apply Ext.drewN)))
  have HX0 := hid x0
  clear bB x0
  go_enter Tryz.func26, Tryz.ntmps26
  go_upto_region 1 with fail
  go_cut [3, 4] from 8 to 13 (fun u v wx => ∃ O M R mb, u = .pointer (some ⟨O, 0, none⟩) ∧ v = .pointer (some ⟨M, 0, none⟩) ∧ (w.alloc (.cells #[.slice a1 p.ns.length c1, .slice a2 p.gs.length c2] 26)).heap.size ≤ R ∧ Bx wx O #[.slice (some ⟨R, 0, none⟩) p.ns.length p.ns.length] 63 ∧ Bx wx M #[.map (some mb)] 69 ∧ FM wx mb p.gs p.gs.length ∧ Blk wx R 4 ((List.replicate p.ns.length false).map Value.bool) ∧ Ext (w.alloc (.cells #[.slice a1 p.ns.length c1, .slice a2 p.gs.length c2] 26)) wx)
  case first =>
    refine wp_region_Z 9 (w.alloc (.cells #[.slice a1 p.ns.length c1, .slice a2 p.gs.length c2] 26)).heap.size (by kernel_rfl) ?_
    refine wpZ_reads (fuel := 6) [0, 1, 2, 4] (by kernel_rfl) (fun b _ hb => rfl) ?_
    try simp only [Act.put, List.setIfInBounds_toArray, List.set_cons_succ, List.set_cons_zero]
    simp only [List.filterMap_cons, List.filterMap_nil, List.getElem?_toArray, List.getElem?_cons_zero, List.getElem?_cons_succ]
    show wpQuiet _ _ _ _ [_, _, _, _] _
    repeat (go_big_quiet_step (fail))
    refine wpQuiet_nil ?_
    refine wpZ_batch (fuel := 2) [⟨3, 11, GRow (w.alloc (.cells #[.slice a1 p.ns.length c1, .slice a2 p.gs.length c2] 26)).heap.size p.ns.length⟩, ⟨5, 13, GMap p.gs⟩, ⟨6, 3, GBox (w.alloc (.cells #[.slice a1 p.ns.length c1, .slice a2 p.gs.length c2] 26)).heap.size 63 #[.slice none 0 0]⟩, ⟨7, 4, GBox (w.alloc (.cells #[.slice a1 p.ns.length c1, .slice a2 p.gs.length c2] 26)).heap.size 69 #[.map none]⟩] 4 rfl (show Ext (w.alloc (.cells #[.slice a1 p.ns.length c1, .slice a2 p.gs.length c2] 26)) _ from (by repeat (with_reducible (first | assumption | exact Ext.refl _ | apply Ext.alloc | apply Ext.drew | apply Ext.drewN)))) (by kernel_rfl) (by show ([3, 5, 6, 7] : List Nat).Nodup; decide) (by show ([11, 13, 3, 4] : List Nat).Nodup; decide) ?_ ?_ ?_
    · intro b hb v w w' h x
      simp only [List.mem_cons, List.not_mem_nil, or_false] at hb
      rcases hb with rfl | rfl | rfl | rfl
      · exact GRow.ext h x
      · exact GMap.ext h x
      · exact GBox.ext h x
      · exact GBox.ext h x
    · intro b hb us w1 hw1
      simp only [List.mem_cons, List.not_mem_nil, or_false] at hb
      rcases hb with rfl | rfl | rfl | rfl
      · refine ⟨_, rfl, fun K hK => ?_⟩
        simp only [List.map_cons, List.map_nil, putL, Act.put, List.setIfInBounds_toArray, List.set_cons_succ, List.set_cons_zero] at hK ⊢
        obtain ⟨i0, hi0, hz0, hz1, hz2⟩ := info_parts info_boolU
        refine wpList_make_full _ rfl _ _ 63 rfl w1.heap.size 4 i0 (.bool false) 1 Tryz.underlying63 hi0 hz0 hz1 _ _ _ _ p.ns.length rfl rfl rfl rfl (by rw [hz2]; omega) (by unfold maxLen; omega) (Nat.le_refl _) ?_
        intro w2 hown hgrow
        simp only [Nat.mul_one] at hown
        rw [show (Value.bool false).cells = #[Value.bool false] from rfl, made_boolsU] at hown
        go_wp2_with fail
        exact hK _ _ (Ext.grown (Ext.refl _) hgrow (fun k h => by cases h)) ⟨w1.heap.size, rfl, hw1.size, ownsRow.blkU hown⟩
      · refine ⟨_, rfl, fun K hK => ?_⟩
        simp only [List.map_cons, List.map_nil, putL, Act.put, List.setIfInBounds_toArray, List.set_cons_succ, List.set_cons_zero] at hK ⊢
        have y1 : Ext w w1 := HX0.out.trans hw1
        go_wp2_with fail
        refine (iAssigned_any lo hi _ p _ (HV.out.ext hh y1) (Nat.le_trans hh y1.size) hbd hgl).mono ?_
        rintro e w2 ⟨⟨mb, rfl, hmb, hM⟩, x2⟩
        go_wp2_with fail
        exact hK _ _ x2 ⟨mb, rfl, hM⟩
      · refine ⟨_, rfl, fun K hK => ?_⟩
        simp only [List.map_cons, List.map_nil, putL, Act.put, List.setIfInBounds_toArray, List.set_cons_succ, List.set_cons_zero] at hK ⊢
        go_wp2
        exact hK _ _ (by repeat (with_reducible (first | assumption | exact Ext.refl _ | apply Ext.alloc | apply Ext.drew | apply Ext.drewN))) ⟨w1.heap.size, rfl, hw1.size, Bx.made _ _ _⟩
      · refine ⟨_, rfl, fun K hK => ?_⟩
        simp only [List.map_cons, List.map_nil, putL, Act.put, List.setIfInBounds_toArray, List.set_cons_succ, List.set_cons_zero] at hK ⊢
        go_wp2
        exact hK _ _ (by repeat (with_reducible (first | assumption | exact Ext.refl _ | apply Ext.alloc | apply Ext.drew | apply Ext.drewN))) ⟨w1.heap.size, rfl, hw1.size, Bx.made _ _ _⟩
    · intro us w1 hw1 hg
      simp only [List.mem_cons, List.not_mem_nil, or_false] at hg
      obtain ⟨R, hR, hRl, hRb⟩ := hg _ (.inl rfl)
      obtain ⟨mb, hm, hmF⟩ := hg _ (.inr (.inl rfl))
      obtain ⟨O, hO, hOl, hOb⟩ := hg _ (.inr (.inr (.inl rfl)))
      obtain ⟨M, hM, hMl, hMb⟩ := hg _ (.inr (.inr (.inr rfl)))
      simp only at hR hm hO hM
      simp only [List.map_cons, List.map_nil, putL, Act.put, List.setIfInBounds_toArray, List.set_cons_succ, List.set_cons_zero, hR, hm, hO, hM]
      have zR := hRb.lt
      have zO := hOb.lt
      have zM := hMb.lt
      have hOM : O ≠ M := fun e => by
        subst e
        unfold Bx at hOb hMb
        rw [hOb] at hMb
        simp only [Option.some.injEq, Obj.cells.injEq] at hMb
        exact absurd hMb.2.1 (by decide)
      have hOR := hOb.ne hRb (by decide)
      have hMR := hMb.ne hRb (by decide)
      have o0 := hOb.cell 0
      have m0 := hMb.cell 0
      have of := hOb.frozen 0
      have mf := hMb.frozen 0
      simp only [List.getElem?_toArray, List.getElem?_cons_zero] at o0 m0
      have y1 : Ext (w.alloc (.cells #[.slice a1 p.ns.length c1, .slice a2 p.gs.length c2] 26)) (w1.setCell ⟨O, 0, none⟩ (.slice (some ⟨R, 0, none⟩) p.ns.length p.ns.length)) := Ext.setCell hw1 hOl _
      have y2 := Ext.setCell y1 (p := ⟨M, 0, none⟩) hMl (.map (some mb))
      refine wpZ_stage (fuel := 1) [] [8] (by kernel_rfl) (fun b _ hb => Ext.block hw1 hb) ?_
      refine wpQuiet_nil ?_
      intro e he
      simp only [List.mem_cons, List.not_mem_nil, or_false] at he
      subst he
      (unfold wpComes; simp only [List.getElem?_toArray, List.getElem?_cons_succ, List.getElem?_cons_zero, Option.some.injEq]; refine ⟨_, rfl, fun K hK => ?_⟩)
      go_wp2
      refine hK _ _ (.inr (fun b _ hb => Ext.block y1 hb)) ?_
      clear hK K
      refine wpZ_stage (fuel := 0) [] [9] (by kernel_rfl) (fun b _ hb => Ext.block y1 hb) ?_
      refine wpQuiet_nil ?_
      intro e he
      simp only [List.mem_cons, List.not_mem_nil, or_false] at he
      subst he
      (unfold wpComes; simp only [List.getElem?_toArray, List.getElem?_cons_succ, List.getElem?_cons_zero, Option.some.injEq]; refine ⟨_, rfl, fun K hK => ?_⟩)
      go_wp2
      refine hK _ _ (.inl (by trivial)) ?_
      clear hK K
      refine wpZ_end (by kernel_rfl) ?_
      go_wp2_with fail
      go_meet
      have hMm := hmF.lt
      exact ⟨O, M, R, mb, rfl, rfl, hRl, (hOb.set 0 _).other hOM _, (hMb.other (Ne.symm hOM) _).set 0 _, (hmF.of_block (Below.heap_setCell _ _ _ _ (hmF.neB hOb))).of_block (Below.heap_setCell _ _ _ _ (hmF.neB hMb)), (hRb.other (Ne.symm hOR) _).other (Ne.symm hMR) _, y2⟩
  case rest =>
    obtain ⟨O, M, R, mb, rfl, rfl, hRl, hOb, hMb, hmF, hRb, hxc⟩ := hcut
    have bB := HBB.out.ext hxc
    have HBc := hid bB
    have HXc := hid (HX0.out.trans hxc)
    have HO := hid hOb
    have HM := hid hMb
    have HMF := hid hmF
    have HR := hid hRb
    have z0 := World.size_alloc w (.cells #[.slice a1 p.ns.length c1, .slice a2 p.gs.length c2] 26)
    have zc := hxc.size
    have zb := bB.lt
    have q1 := bB.cell 1
    simp only [List.getElem?_toArray, List.getElem?_cons_zero, List.getElem?_cons_succ] at q1
    clear hOb hMb hmF hRb hxc bB HBB HX0
    have xv : Ext wc (wc.alloc (.cells #[.func (.func 53) #[] #[.pointer (some ⟨w.heap.size, 0, none⟩), .pointer (some ⟨wc.heap.size, 0, none⟩), .pointer (some ⟨O, 0, none⟩), .pointer (some ⟨M, 0, none⟩)]] 114)) := (by repeat (with_reducible (first | assumption | exact Ext.refl _ | apply Ext.alloc | apply Ext.drew | apply Ext.drewN)))
    have hU : UB p w.heap.size wc.heap.size O M R mb a1 a2 c1 c2 (wc.alloc (.cells #[.func (.func 53) #[] #[.pointer (some ⟨w.heap.size, 0, none⟩), .pointer (some ⟨wc.heap.size, 0, none⟩), .pointer (some ⟨O, 0, none⟩), .pointer (some ⟨M, 0, none⟩)]] 114)) (List.replicate p.ns.length false) := ⟨HBc.out.ext xv, Bx.made _ _ _, HO.out.ext xv, HM.out.ext xv, HMF.out.ext xv, HR.out.ext xv⟩
    have HU := hid hU
    have HXv := hid (HXc.out.trans xv)
    clear xv hU HBc HXc HO HM HMF HR
    go_wp2_with fail
    go_loopw [18] (fun i wr => ∃ (k : Nat) (o : List Bool), k ≤ p.gs.length ∧ i = .int .i64 (k : Nat) ∧ o.length = p.ns.length ∧ UB p w.heap.size wc.heap.size O M R mb a1 a2 c1 c2 wr o ∧ UnDone p k o ∧ Ext w wr) (fun i _ => p.gs.length - (intOf i).toNat)
    case atStart => exact ⟨0, List.replicate p.ns.length false, by omega, rfl, by simp, HU.out, (fun j t _ h => by omega), HXv.out⟩
    case round =>
      clear HU HXv q1
      obtain ⟨k, o, hk, rfl, hol, hB, hA, hx⟩ := hrel
      have HOL := hid hol
      have HB := hid hB
      have HA := hid hA
      have HX := hid hx
      by_cases hlt2 : k < p.gs.length
      · obtain ⟨b, off, s, rt, rfl, hb1, hbw, hdrop, hget, ir, y0, y1⟩ := HG.at hlt2 hx hh
        have hrb := (hp.v.ag k _ hget).2
        simp only at hrb
        obtain ⟨r, rfl⟩ : ∃ r : Nat, rt = r := ⟨rt.toNat, by omega⟩
        have HG1 := hid hget
        have q0 : Ext wr (wr.alloc (.cells #[.string s, .int .i64 r] 74)) := (by repeat (with_reducible (first | assumption | exact Ext.refl _ | apply Ext.alloc | apply Ext.drew | apply Ext.drewN)))
        have HB' := hid (hB.ext q0)
        have hf := hB.fn
        have f0 := hf.cell 0
        simp only [List.getElem?_toArray, List.getElem?_cons_zero] at f0
        have fl := hf.lt
        have HX' := hid (hx.trans q0)
        clear hol hB hA hx hdrop hget q0 HB hf
        go_wp2_with fail
        refine (iUn_any lo hi p hp hbd w a1 (some ⟨b, off, none⟩) c1 c2 HN HG hh w.heap.size wc.heap.size O M R mb (by omega) k (r + 1) r o _ (by omega) (Own.root HG1.out) HOL.out HA.out HB'.out HX'.out).mono ?_
        rintro e w2 ⟨rfl, ⟨o2, hB2, hT2, hS2⟩, hg2⟩
        have HB2 := hid hB2
        have HT2 := hid hT2
        have HS2 := hid hS2
        have HX2 := hid (hg2.up HX'.out (by omega))
        clear hB2 hT2 hS2 hg2 HB' HX'
        go_wp2
        go_roundw
        case rel =>
          refine ⟨k + 1, o2, by omega, by go_num, by rw [HT2.out.1]; exact HOL.out, HB2.out, fun j t hjt ht => ?_, HX2.out⟩
          by_cases e : t = k
          · subst e
            obtain ⟨s', r', h1, h2⟩ := hjt
            rw [HG1.out] at h1
            simp only [Option.some.injEq, Asg.mk.injEq] at h1
            have : r = r' := by omega
            subst this
            exact HS2.out j h2
          · exact HT2.out.done HA.out j t hjt (by omega)
        case measure => simp [intOf]; omega
      · obtain rfl : k = p.gs.length := by omega
        have hf := hB.out
        have f0 := hf.cell 0
        simp only [List.getElem?_toArray, List.getElem?_cons_zero] at f0
        clear hol hB hA hx hf
        go_wp2
        go_ret
        exact ⟨⟨R, rfl, by omega, o, HB.out.row, HOL.out, fun j hj => HA.out j _ (hp.v.own_is hj) ((hp.v.own_is hj).lt hp.v).2⟩, HX.out⟩
end Go.Proofs.YtaegmenjgjdimaaGreat
end

section
/- This text proves the program's IsUniform at programs that pass the checks. -/
namespace Go.Proofs.YtaegmenjgjdimaaGreat
open Go.RowKit

set_option maxRecDepth 20000 in
set_option maxHeartbeats 3200000 in
theorem iIsUniform_val {p : Prg} {b : Bool} (lo hi : Nat) (v : Value) (w : World) (hv : p.R lo hi w v) (hh : hi ≤ w.heap.size) (hbd : p.bd) (hgl : p.gs.length ≤ 1048576) (hchk : p.chkB = true) (k : Nat) (hk : k < p.ns.length) (hb : p.un k = b) :
    Calls Tryz.prog 9 #[v, .int .i64 (k : Nat)] w fun e w' => e = .returned (.bool b) ∧ Ext w w' := by
  have HV := hid hv
  have hK := Prg.chkB_K hchk
  have HK := hid hK
  have HCH := hid hchk
  have HBV := hid hb
  obtain ⟨a1, c1, a2, c2, rfl, HN, -⟩ := hv.form
  have l1 := HN.le
  have l2 := HN.cap
  have l5 := hK.v.len
  have x0 : Ext w (w.alloc (.cells #[.slice a1 p.ns.length c1, .slice a2 p.gs.length c2] 26)) := (by repeat (with_reducible (first | assumption | exact Ext.refl _ | apply Ext.alloc | apply Ext.drew | apply Ext.drewN)))
  have HX0 := hid x0
  have hB := Bx.made w #[.slice a1 p.ns.length c1, .slice a2 p.gs.length c2] 26
  have HB := hid hB
  have hin : inB ((k : Nat) : Int) 0 ((p.ns.length : Int) - 1) = true := inB_iff.2 ⟨by omega, by omega⟩
  have HIN := hid hin
  clear hv HN hK hchk hb hin hB x0
  go_enter Tryz.func9, Tryz.ntmps9
  go_wp2_with fail
  refine (iIsOk_val HCH.out lo hi _ _ (HV.out.ext hh HX0.out) (Nat.le_trans hh HX0.out.size) hbd hgl).mono ?_
  rintro e w1 ⟨rfl, x1⟩
  have HX1 := hid (HX0.out.trans x1)
  have HB1 := hid (HB.out.ext x1)
  have b0 := HB1.out.cell 0
  have b1 := HB1.out.cell 1
  have bl := HB1.out.lt
  simp only [List.getElem?_toArray, List.getElem?_cons_zero, List.getElem?_cons_succ] at b0 b1
  clear x1 HB HX0
  go_wp2_with fail
  refine (within_val HIN.out _).mono ?_
  rintro e w2 ⟨rfl, rfl⟩
  go_wp2_with fail
  refine (iUniforms_any lo hi _ p _ (HV.out.ext hh HX1.out) (Nat.le_trans hh HX1.out.size) HK.out hbd hgl).mono ?_
  rintro e w3 ⟨⟨R, rfl, hR, o, hRb, hol, hun⟩, x3⟩
  have q0 : w3.cell? ⟨R, k, none⟩ = some (.bool b) := hRb.cell k (by
    rw [List.getElem?_map, List.getElem?_eq_getElem (by omega)]
    have := hun k hk
    rw [List.getD_eq_getElem?_getD, List.getElem?_eq_getElem (by omega)] at this
    simp only [Option.getD_some] at this
    rw [Option.map_some, this, HBV.out])
  have HX3 := hid (HX1.out.trans x3)
  clear hRb hun x3 b0 b1
  go_wp2
  go_ret
  exact ⟨rfl, HX3.out⟩
end Go.Proofs.YtaegmenjgjdimaaGreat
end

section
/- This text proves that the reference draws valid textures. -/
namespace Go.Proofs.YtaegmenjgjdimaaGreat
open Go.RowKit

set_option maxHeartbeats 800000 in
theorem l01Pick_any (hi B g n : Nat) (xs : List Int) (w : World) (hc : Cur hi w B) (hg : Blk w g 3 (xs.map (Value.int .i64))) (hne : g ≠ B) (hn : xs.length = n) (h1 : 1 ≤ n) (h2 : n ≤ 1000) :
    Calls Tryz.prog 86 #[.pointer (some ⟨B, 0, none⟩), .slice (some ⟨g, 0, none⟩) n n] w fun e w' => ∃ x : Int, e = .returned (.int .i64 x) ∧ x ∈ xs ∧ Cur hi w' B ∧ Gr B w w' := by
  have HC := hid hc
  have HG := hid hg
  have HN := hid hn
  clear hc hg hn
  go_enter Tryz.func86, Tryz.ntmps86
  go_wp2_with fail
  refine (l01Below_any hi B n _ HC.out (by omega) ⟨by omega, by omega⟩).mono ?_
  rintro e w1 ⟨x, rfl, ⟨x0, x1⟩, C1, G1⟩
  obtain ⟨k, rfl⟩ : ∃ k : Nat, x = k := ⟨x.toNat, by omega⟩
  have B1 := G1.blk HG.out hne
  have hk : k < xs.length := by rw [HN.out]; omega
  have c0 := B1.cell k (v := .int .i64 xs[k]) (by simp [hk])
  have hm : xs[k] ∈ xs := List.getElem_mem hk
  obtain ⟨y, hy⟩ : ∃ y, xs[k] = y := ⟨_, rfl⟩
  rw [hy] at c0 hm
  have z1 := B1.lt
  have hkn : k < n := by omega
  clear hy hk
  go_wp2
  go_ret
  exact ⟨y, rfl, hm, C1, G1⟩

/-- the drawer's state: the box of the texture under way, its row of texels, the cursor -/
structure TSt (hi B : Nat) (wa wr : World) (g : Nat) (L : Int) (v : Value) (px : List Int) : Prop where
  gr : Gr B wa wr
  low : wa.heap.size ≤ g
  cur : Cur hi wr B
  box : Blk wr g 31 [.int .i64 L, v]
  own : OwnInts (g + 1) wr v px
  all : ∀ p ∈ px, 0 ≤ p ∧ p ≤ 256
theorem TSt.to {hi B : Nat} {wa wr w' : World} {g : Nat} {L : Int} {v : Value} {px : List Int} (h : TSt hi B wa wr g L v px) (e : Ext wr w') : TSt hi B wa w' g L v px :=
  ⟨h.gr.ext e, h.low, h.cur.ext e, h.box.ext e, h.own.ext e, h.all⟩

set_option maxRecDepth 10000 in
set_option maxHeartbeats 1600000 in
theorem l15Draw_any (hi B : Nat) (w : World) (hc : Cur hi w B) :
    Calls Tryz.prog 51 #[.pointer (some ⟨B, 0, none⟩)] w fun e w' => ∃ (v : Value) (t : Tex), e = .returned v ∧ OwnTex w.heap.size w' v t ∧ t.Ok ∧ Cur hi w' B ∧ Gr B w w' := by
  have HC := hid hc
  have hB := hc.lt
  clear hc
  go_enter Tryz.func51, Tryz.ntmps51
  go_wp2_with fail
  refine (l01Below_any hi B 4 _ (HC.out.ext (by repeat (with_reducible (first | assumption | exact Ext.refl _ | apply Ext.alloc | apply Ext.drew | apply Ext.drewN)))) (by decide) ⟨by decide, by decide⟩).mono ?_
  rintro e w1 ⟨L, rfl, ⟨L0, L1⟩, C1, G1⟩
  have hL4 : L ≤ 4 := by omega
  obtain ⟨m, hm⟩ : ∃ m : Nat, 2 ^ L.toNat = m := ⟨_, rfl⟩
  have hm16 : m ≤ 8 := by
    have : L = 0 ∨ L = 1 ∨ L = 2 ∨ L = 3 := by omega
    rcases this with h | h | h | h <;> subst h <;> simp at hm <;> omega
  have hm1 : 1 ≤ m := hm ▸ Nat.one_le_two_pow
  obtain ⟨P, hP⟩ : ∃ P : Nat, m * m = P := ⟨_, rfl⟩
  have hP64 : P ≤ 64 := by rw [← hP]; exact Nat.mul_le_mul hm16 hm16
  have hP1 : 1 ≤ P := by rw [← hP]; exact Nat.mul_le_mul hm1 hm1
  have hmm : wrap64 ((m : Int) * (m : Int)) = (P : Int) := by rw [← Int.natCast_mul, hP]; exact I64.wrap ⟨by omega, by omega⟩
  have S0 : TSt hi B (w.alloc (.cells #[.int .i64 0, .slice none 0 0] 31)) (w1.alloc (.cells #[.int .i64 L, .slice none 0 0] 31)) w1.heap.size L (.slice none 0 0) [] :=
    ⟨G1.ext (by repeat (with_reducible (first | assumption | exact Ext.refl _ | apply Ext.alloc | apply Ext.drew | apply Ext.drewN))), G1.size, C1.ext (by repeat (with_reducible (first | assumption | exact Ext.refl _ | apply Ext.alloc | apply Ext.drew | apply Ext.drewN))), Blk.new w1 _ [.int .i64 L, .slice none 0 0], OwnInts.nil _ _, fun p h => by cases h⟩
  have hsz := hid (fun w => hm ▸ l15Size_tex (t := ⟨L, []⟩) L0 hL4 w : ∀ w, Calls Tryz.prog 85 #[.int .i64 L] w fun e w' => e = .returned (.int .i64 (m : Nat)) ∧ w = w')
  replace S0 := hid S0
  replace hm := hid hm
  replace hP := hid hP
  have c0 := S0.out.box.cell 0 rfl
  have z0 := S0.out.box.lt
  clear C1 G1 hm16 hm1
  go_wp2
  go_quiet ((go_at_call 85; exact quiet_same (hsz.out _)))
  go_wp2
  rw [hmm]
  clear c0 z0 hmm
  go_loopg [4] P (fun k p wr => ∃ (v : Value) (px : List Int), p = .int .i64 k ∧ px.length + k = P ∧ TSt hi B (w.alloc (.cells #[.int .i64 0, .slice none 0 0] 31)) wr w1.heap.size L v px)
  case atStart => exact ⟨_, [], rfl, by simp, S0.out.to (by repeat (with_reducible (first | assumption | exact Ext.refl _ | apply Ext.alloc | apply Ext.drew | apply Ext.drewN)))⟩
  case round =>
    obtain ⟨v, px, rfl, hk, hst⟩ := hrel
    obtain ⟨av, cv, ev, -⟩ := hst.own.form
    obtain ⟨n, hn⟩ : ∃ n, px.length = n := ⟨_, rfl⟩
    rw [hn] at ev hk
    subst ev
    have b1 := hst.box.cell 1 rfl
    have z0 := hst.box.lt
    have HN := hid hn
    have HST := hid hst
    have hgB : w1.heap.size ≠ B := by have := hst.low; simp at this; omega
    clear hst hn
    by_cases hlt : 0 < gk
    · go_wp2
      refine wp_region_stagesX [([0, 1, 2, 3], 4), ([], 5), ([], 6), ([], 7), ([], 8), ([9], 10)] 10 (w1.heap.size + 1) B (by kernel_rfl) (by kernel_rfl) ?_
      refine wpStagesX_cons ?_
      simp only [List.filterMap_cons, List.filterMap_nil, List.getElem?_toArray, List.getElem?_cons_zero, List.getElem?_cons_succ]
      show wpQuiet _ _ _ _ [_, _, _, _] _
      repeat (go_big_quiet_step (fail))
      refine wpQuiet_nil ⟨_, rfl, fun K hK => ?_⟩
      go_wp2_with fail
      refine (l01Below_any hi B 257 _ (HST.out.cur.ext (by repeat (with_reducible (first | assumption | exact Ext.refl _ | apply Ext.alloc | apply Ext.drew | apply Ext.drewN)))) (by decide) ⟨by decide, by decide⟩).mono ?_
      rintro e w3 ⟨p, rfl, ⟨p0, p1⟩, C3, G3⟩
      have G3' : Gr B wr w3 := ((Gr.refl B wr).ext (by repeat (with_reducible (first | assumption | exact Ext.refl _ | apply Ext.alloc | apply Ext.drew | apply Ext.drewN)))).trans G3
      go_wp2_with fail
      refine hK _ _ (.inr (SameX.gr G3' (by omega))) ?_
      clear hK K
      refine wpStagesX_cons ?_
      simp only [List.filterMap_nil]
      show wpQuiet _ _ _ _ [] _
      try simp only [Act.put, List.getElem_toArray, List.getElem_cons_succ, List.getElem_cons_zero, List.setIfInBounds_toArray, List.set_cons_succ, List.set_cons_zero]
      refine wpQuiet_nil ⟨_, rfl, fun K hK => ?_⟩
      go_wp2_with fail
      have y4 : Ext w3 (w3.alloc (.cells #[.int .i64 0, .int .i64 256, .int .i64 p] 3)) := (by repeat (with_reducible (first | assumption | exact Ext.refl _ | apply Ext.alloc | apply Ext.drew | apply Ext.drewN)))
      have G4 := G3'.ext y4
      have C4 := C3.ext y4
      have B4 := Blk.new w3 3 ([0, 256, p].map (Value.int .i64))
      have z3 := G3'.size
      refine hK _ _ (.inr (SameX.gr G4 (by omega))) ?_
      clear hK K
      refine wpStagesX_cons ?_
      simp only [List.filterMap_nil]
      show wpQuiet _ _ _ _ [] _
      try simp only [Act.put, List.getElem_toArray, List.getElem_cons_succ, List.getElem_cons_zero, List.setIfInBounds_toArray, List.set_cons_succ, List.set_cons_zero]
      refine wpQuiet_nil ⟨_, rfl, fun K hK => ?_⟩
      go_wp2_with fail
      refine (l01Pick_any hi B _ 3 [0, 256, p] _ C4 B4 (by have := HST.out.low; simp at this; omega) rfl (by decide) (by decide)).mono ?_
      rintro e w5 ⟨q, rfl, hq, C5, G5⟩
      have hq256 : 0 ≤ q ∧ q ≤ 256 := by
        simp only [List.mem_cons, List.not_mem_nil, or_false] at hq
        rcases hq with rfl | rfl | rfl <;> omega
      have G5' := G4.trans G5
      go_wp2_with fail
      refine hK _ _ (.inr (SameX.gr G5' (by omega))) ?_
      clear hK K hq
      refine wpStagesX_cons ?_
      simp only [List.filterMap_nil]
      show wpQuiet _ _ _ _ [] _
      try simp only [Act.put, List.getElem_toArray, List.getElem_cons_succ, List.getElem_cons_zero, List.setIfInBounds_toArray, List.set_cons_succ, List.set_cons_zero]
      refine wpQuiet_nil ⟨_, rfl, fun K hK => ?_⟩
      go_wp2_with fail
      have y6 : Ext w5 (w5.alloc (.cells #[.int .i64 q] 3)) := (by repeat (with_reducible (first | assumption | exact Ext.refl _ | apply Ext.alloc | apply Ext.drew | apply Ext.drewN)))
      have z5 := G5'.size
      refine hK _ _ (.inr (SameX.gr (G5'.ext y6) (by omega))) ?_
      clear hK K
      refine wpStagesX_cons ?_
      simp only [List.filterMap_nil]
      show wpQuiet _ _ _ _ [] _
      try simp only [Act.put, List.getElem_toArray, List.getElem_cons_succ, List.getElem_cons_zero, List.setIfInBounds_toArray, List.set_cons_succ, List.set_cons_zero]
      refine wpQuiet_nil ⟨_, rfl, fun K hK => ?_⟩
      have hlow := HST.out.low
      rw [World.size_alloc] at hlow
      have own5 : OwnInts (w1.heap.size + 1) w5 (.slice av n cv) px := HST.out.own.kept (fun b hb hb' => G5'.block b hb' (fun e => by simp only [Option.some.injEq] at e; omega))
      refine wpList_append1 _ rfl _ _ rfl (w1.heap.size + 1) (.slice av n cv) px rfl (own5.alloc _) q ⟨by omega, by omega⟩ w5.heap.size rfl (by simp [go_sem]) (by rw [HN.out]; omega) (by simp; omega) ?_
      intro v' w6 hown hg
      obtain ⟨a4, c4, e4, -⟩ := hown.form
      rw [show (px ++ [q]).length = n + 1 by rw [List.length_append, HN.out]; rfl] at e4
      subst e4
      have hz4 := hg.size
      rw [World.size_alloc] at hz4
      have hv3 : ∀ k, (Value.slice av n cv).ownBlock = some k → w1.heap.size + 1 ≤ k := fun k hk => (own5.lt k hk).1
      have hkeep : ∀ b, b < w1.heap.size + 1 → w6.heap[b]? = w5.heap[b]? := fun b hb => (hg.block b (by simp; omega) (fun e => by have := hv3 b e.symm; omega)).trans (y6.block (by omega))
      have X6 : SameX (w1.heap.size + 1) B wr w6 := (SameX.gr G5' (by omega)).trans (SameX.of (fun b _ hb => hkeep b hb))
      have B6 := (G5'.blk HST.out.box hgB).of (hkeep _ (by omega))
      have HC6 := hid (C5.keep (fun b hb => hkeep b (by omega)) : Cur hi w6 B)
      have HG6 := hid (((HST.out.gr.trans G5').ext y6).step hg (fun k hk => by have := hv3 k hk; simp; omega) : Gr B (w.alloc (.cells #[.int .i64 0, .slice none 0 0] 31)) w6)
      have HO6 := hid hown
      have c2' := B6.cell 1 rfl
      have f2' := B6.free 1
      have z4 := B6.lt
      have HB6 := hid B6
      clear hg hown own5 B6 hv3 hkeep C3 G3 G3' C4 G4 B4 y4 C5 G5 G5' y6
      go_wp2_with fail
      refine hK _ _ (.inr X6) ?_
      clear hK K X6
      refine wpStagesX_cons ?_
      simp only [List.filterMap_cons, List.filterMap_nil, List.getElem?_toArray, List.getElem?_cons_zero, List.getElem?_cons_succ]
      show wpQuiet _ _ _ _ [_] _
      try simp only [Act.put, List.getElem_toArray, List.getElem_cons_succ, List.getElem_cons_zero, List.setIfInBounds_toArray, List.set_cons_succ, List.set_cons_zero]
      repeat (go_big_quiet_step (fail))
      refine wpQuiet_nil ⟨_, rfl, fun K hK => ?_⟩
      go_wp2
      refine hK _ _ (.inl (by trivial)) (wpStagesX_nil ?_)
      clear hK K
      go_wp2
      go_roundg (gk - 1)
      case measure => omega
      case rel =>
        refine ⟨_, px ++ [q], by go_num, by rw [List.length_append, HN.out]; simp; omega, ⟨HG6.out.setNew (by simp; omega) _ _, HST.out.low, HC6.out.setNew (by omega) _ _, HB6.out.set 1 _, HO6.out.setLow (by simp) _, ?_⟩⟩
        intro y hy
        rcases List.mem_append.1 hy with h | h
        · exact HST.out.all y h
        · simp at h; subst h; exact hq256
    · have hst := HST.out
      have R0 := hst.gr.blk (Blk.new w 31 [.int .i64 0, .slice none 0 0]) (by omega)
      have r0 := R0.cell 0 rfl
      have r1 := R0.cell 1 rfl
      have f0 := R0.free 0
      have f1 := R0.free 1
      have zr := R0.lt
      have b0 := hst.box.cell 0 rfl
      have hgl := hst.low
      rw [World.size_alloc] at hgl
      have iL : I64 L := ⟨by omega, by omega⟩
      obtain rfl : n = px.length := HN.out.symm
      have hgk : gk = 0 := by omega
      have HK := hid hgk
      have HPx := hid (by omega : px.length = P)
      clear hst hgk hk
      go_wp2
      refine bodyPost_ret (v := .agg #[.int .i64 L, .slice av px.length cv]) (by simp [results, Tryz.results51, go_sem, *]) rfl ⟨_, rfl, ⟨L, px⟩, ⟨_, rfl, iL, ?_⟩, ⟨L0, hL4, ?_, HST.out.all⟩, ?_, ?_⟩
      · exact ((HST.out.own.setLow (by simp; omega) _).setLow (by simp; omega) _).low (by omega)
      · show px.length = 2 ^ L.toNat * 2 ^ L.toNat
        rw [hm.out, hP.out, HPx.out]
      · exact (HST.out.cur.setNew (by omega) _ _).setNew (by omega) _ _
      · exact ((((Gr.refl B w).ext (show Ext w (w.alloc (.cells #[.int .i64 0, .slice none 0 0] 31)) from (by repeat (with_reducible (first | assumption | exact Ext.refl _ | apply Ext.alloc | apply Ext.drew | apply Ext.drewN))))).trans HST.out.gr).setNew (Nat.le_refl _) _ _).setNew (Nat.le_refl _) _ _

end Go.Proofs.YtaegmenjgjdimaaGreat
end

section
/- This text proves what the reference's draws of sources of programs hand back: texts of a bounded size. -/
namespace Go.Proofs.YtaegmenjgjdimaaGreat
open Go.RowKit

set_option maxHeartbeats 800000 in
theorem l01Once_any (hi B : Nat) (n : Int) (w : World) (hc : Cur hi w B) (h0 : 0 < n) (hn : I64 n) :
    Calls Tryz.prog 74 #[.pointer (some ⟨B, 0, none⟩), .int .i64 n] w fun e w' => ∃ b : Bool, e = .returned (.bool b) ∧ Cur hi w' B ∧ Gr B w w' := by
  have HC := hid hc
  clear hc
  go_enter Tryz.func74, Tryz.ntmps74
  go_wp2_with fail
  refine (l01Below_any hi B n _ HC.out h0 hn).mono ?_
  rintro e w1 ⟨x, rfl, ⟨x0, x1⟩, C1, G1⟩
  go_wp2
  go_ret
  exact ⟨_, rfl, C1, G1⟩
set_option maxHeartbeats 800000 in
theorem l01Str_any (hi B g n m : Nat) (xs : List ByteArray) (w : World) (hc : Cur hi w B) (hg : Blk w g 9 (xs.map Value.string)) (hne : g ≠ B) (hn : xs.length = n) (h1 : 1 ≤ n) (h2 : n ≤ 1000) (hm : ∀ x ∈ xs, x.size ≤ m) :
    Calls Tryz.prog 107 #[.pointer (some ⟨B, 0, none⟩), .slice (some ⟨g, 0, none⟩) n n] w fun e w' => ∃ x : ByteArray, e = .returned (.string x) ∧ x.size ≤ m ∧ Cur hi w' B ∧ Gr B w w' := by
  have HC := hid hc
  have HG := hid hg
  have HN := hid hn
  have HM := hid hm
  clear hc hg hn hm
  go_enter Tryz.func107, Tryz.ntmps107
  go_wp2_with fail
  refine (l01Below_any hi B n _ HC.out (by omega) ⟨by omega, by omega⟩).mono ?_
  rintro e w1 ⟨x, rfl, ⟨x0, x1⟩, C1, G1⟩
  obtain ⟨k, rfl⟩ : ∃ k : Nat, x = k := ⟨x.toNat, by omega⟩
  have B1 := G1.blk HG.out hne
  have hk : k < xs.length := by rw [HN.out]; omega
  have c0 := B1.cell k (v := .string xs[k]) (by simp [hk])
  have hm := HM.out _ (List.getElem_mem hk)
  obtain ⟨y, hy⟩ : ∃ y, xs[k] = y := ⟨_, rfl⟩
  rw [hy] at c0 hm
  have z1 := B1.lt
  have hkn : k < n := by omega
  clear hy hk
  go_wp2
  go_ret
  exact ⟨y, rfl, hm, C1, G1⟩
/-- how long an expression's text gets -/
def eb : Nat → Nat
  | 0 => 4
  | d + 1 => 2 * eb d + 20
theorem eb_le {d : Nat} (h : d ≤ 2) : eb d ≤ 76 := by
  rcases (show d = 0 ∨ d = 1 ∨ d = 2 by omega) with rfl | rfl | rfl <;> decide
def leaves : List ByteArray := [⟨#[117]⟩, ⟨#[118]⟩, ⟨#[120]⟩, ⟨#[121]⟩, ⟨#[122]⟩, ⟨#[116]⟩, ⟨#[49]⟩, ⟨#[48, 46, 53]⟩, ⟨#[50]⟩, ⟨#[48, 46, 50, 53]⟩]
theorem leaves_le : ∀ x ∈ leaves, x.size ≤ 4 := by
  intro x hx
  simp only [leaves, List.mem_cons, List.not_mem_nil, or_false] at hx
  rcases hx with rfl | rfl | rfl | rfl | rfl | rfl | rfl | rfl | rfl | rfl <;> decide
set_option maxRecDepth 10000 in
set_option maxHeartbeats 3200000 in
theorem sExpr_any (hi B : Nat) : ∀ (d : Nat) (w : World), d ≤ 3 → Cur hi w B → Calls Tryz.prog 75 #[.pointer (some ⟨B, 0, none⟩), .int .i64 (d : Nat)] w fun e w' => ∃ s : ByteArray, e = .returned (.string s) ∧ s.size ≤ eb d ∧ Cur hi w' B ∧ Gr B w w' := by
  intro d
  induction d with
  | zero =>
    intro w hd hc
    have HC := hid hc
    have hB := hc.lt
    clear hc
    go_enter Tryz.func75, Tryz.ntmps75
    go_wp2_with fail
    have x1 : Ext w (w.alloc (.cells (leaves.map Value.string).toArray 9)) := (by repeat (with_reducible (first | assumption | exact Ext.refl _ | apply Ext.alloc | apply Ext.drew | apply Ext.drewN)))
    refine (l01Str_any hi B w.heap.size 10 4 leaves _ (HC.out.ext x1) (Blk.new w 9 (leaves.map Value.string)) (by omega) rfl (by decide) (by decide) leaves_le).mono ?_
    rintro e w1 ⟨s, rfl, hs, C1, G1⟩
    go_wp2
    go_ret
    exact ⟨s, rfl, hs, C1, ((Gr.refl B w).ext x1).trans G1⟩
  | succ d ih =>
    intro w hd hc
    have HC := hid hc
    have hB := hc.lt
    have hdn : ¬ ((d : Int) + 1 ≤ 0) := by omega
    have he := eb_le (show d ≤ 2 by omega)
    have IH := hid ih
    clear hc ih
    go_enter Tryz.func75, Tryz.ntmps75
    go_wp2_with fail
    refine (l01Once_any hi B 4 _ HC.out (by decide) ⟨by decide, by decide⟩).mono ?_
    rintro e w1 ⟨b, rfl, C1, G1⟩
    have z1 := G1.size
    cases b
    · go_wp2_with fail
      refine (IH.out _ (by omega) C1).mono ?_
      rintro e w2 ⟨s2, rfl, h2, C2, G2⟩
      go_wp2_with fail
      refine (IH.out _ (by omega) C2).mono ?_
      rintro e w3 ⟨s3, rfl, h3, C3, G3⟩
      go_wp2_with fail
      refine (l01Below_any hi B 14 _ C3 (by decide) ⟨by decide, by decide⟩).mono ?_
      rintro e w4 ⟨x, rfl, ⟨x0, x1⟩, C4, G4⟩
      have G5 := hid (((G1.trans G2).trans G3).trans G4)
      have HC4 := hid C4
      have he2 : eb (d + 1) = 2 * eb d + 20 := rfl
      have HE := hid he2
      have h2' : s2.size ≤ 76 := by omega
      have h3' : s3.size ≤ 76 := by omega
      have HS2 := hid h2
      have HS3 := hid h3
      clear C1 G1 C2 G2 C3 G3 C4 G4 he2 h2 h3 he
      go_wp2
      all_goals go_ret
      all_goals refine ⟨_, rfl, ?_, HC4.out, G5.out⟩
      all_goals
        have h2 : s2.data.size ≤ eb d := HS2.out
        have h3 : s3.data.size ≤ eb d := HS3.out
        rw [HE.out]
        clear HS2 HS3 HE h2' h3'
        simp only [ByteArray.size_append]
        simp only [ByteArray.size, List.size_toArray, List.length_cons, List.length_nil]
        omega
    · go_wp2_with fail
      have x1 : Ext w1 (w1.alloc (.cells (leaves.map Value.string).toArray 9)) := (by repeat (with_reducible (first | assumption | exact Ext.refl _ | apply Ext.alloc | apply Ext.drew | apply Ext.drewN)))
      refine (l01Str_any hi B w1.heap.size 10 4 leaves _ (C1.ext x1) (Blk.new w1 9 (leaves.map Value.string)) (by omega) rfl (by decide) (by decide) leaves_le).mono ?_
      rintro e w2 ⟨s, rfl, hs, C2, G2⟩
      go_wp2
      go_ret
      exact ⟨s, rfl, by show s.size ≤ 2 * eb d + 20; omega, C2, (G1.ext x1).trans G2⟩
set_option maxRecDepth 10000 in
set_option maxHeartbeats 3200000 in
theorem sSource_any (hi B : Nat) (w : World) (hc : Cur hi w B) : Calls Tryz.prog 46 #[.pointer (some ⟨B, 0, none⟩)] w fun e w' => ∃ s : ByteArray, e = .returned (.string s) ∧ s.size ≤ 2000 ∧ Cur hi w' B ∧ Gr B w w' := by
  have HC := hid hc
  clear hc
  have e1 : eb 1 = 28 := rfl
  have e2 : eb 2 = 76 := rfl
  have e3 : eb 3 = 172 := rfl
  go_enter Tryz.func46, Tryz.ntmps46
  go_wp2_with fail
  refine (l01Once_any hi B 2 _ HC.out (by decide) ⟨by decide, by decide⟩).mono ?_
  rintro e w1 ⟨b, rfl, C1, G1⟩
  cases b
  · go_wp2_with fail
    refine (sExpr_any hi B 3 _ (by decide) C1).mono ?_
    rintro e w2 ⟨s2, rfl, h2, C2, G2⟩
    have g2 : s2.data.size ≤ 172 := by rw [e3] at h2; exact h2
    replace G2 := G1.trans G2
    clear C1 G1
    go_wp2_with fail
    refine (l01Once_any hi B 3 _ C2 (by decide) ⟨by decide, by decide⟩).mono ?_
    rintro e w4 ⟨b, rfl, C4, G4⟩
    replace G4 := G2.trans G4
    clear C2 G2
    cases b
    · go_wp2
      go_ret
      refine ⟨_, rfl, ?_, C4, G4⟩
      simp only [ByteArray.size_append]
      simp only [ByteArray.size, List.size_toArray, List.length_cons, List.length_nil]
      omega
    · go_wp2_with fail
      refine (sExpr_any hi B 1 _ (by decide) C4).mono ?_
      rintro e w5 ⟨s5, rfl, h5, C5, G5⟩
      have g5 : s5.data.size ≤ 28 := by rw [e1] at h5; exact h5
      replace G5 := G4.trans G5
      clear C4 G4
      go_wp2
      go_ret
      refine ⟨_, rfl, ?_, C5, G5⟩
      simp only [ByteArray.size_append]
      simp only [ByteArray.size, List.size_toArray, List.length_cons, List.length_nil]
      omega
  · go_wp2_with fail
    refine (sExpr_any hi B 2 _ (by decide) C1).mono ?_
    rintro e w2 ⟨s2, rfl, h2, C2, G2⟩
    have g2 : s2.data.size ≤ 76 := by rw [e2] at h2; exact h2
    replace G2 := G1.trans G2
    clear C1 G1
    go_wp2_with fail
    refine (sExpr_any hi B 3 _ (by decide) C2).mono ?_
    rintro e w3 ⟨s3, rfl, h3, C3, G3⟩
    have g3 : s3.data.size ≤ 172 := by rw [e3] at h3; exact h3
    replace G3 := G2.trans G3
    clear C2 G2
    go_wp2_with fail
    refine (l01Once_any hi B 3 _ C3 (by decide) ⟨by decide, by decide⟩).mono ?_
    rintro e w4 ⟨b, rfl, C4, G4⟩
    replace G4 := G3.trans G4
    clear C3 G3
    cases b
    · go_wp2
      go_ret
      refine ⟨_, rfl, ?_, C4, G4⟩
      simp only [ByteArray.size_append]
      simp only [ByteArray.size, List.size_toArray, List.length_cons, List.length_nil]
      omega
    · go_wp2_with fail
      refine (sExpr_any hi B 1 _ (by decide) C4).mono ?_
      rintro e w5 ⟨s5, rfl, h5, C5, G5⟩
      have g5 : s5.data.size ≤ 28 := by rw [e1] at h5; exact h5
      replace G5 := G4.trans G5
      clear C4 G4
      go_wp2
      go_ret
      refine ⟨_, rfl, ?_, C5, G5⟩
      simp only [ByteArray.size_append]
      simp only [ByteArray.size, List.size_toArray, List.length_cons, List.length_nil]
      omega
end Go.Proofs.YtaegmenjgjdimaaGreat
end

section
/- This text holds owned slices of structs, the tokens of the shading language, and the worlds in which one box and the rows of one type are written. -/
namespace Go.Proofs.YtaegmenjgjdimaaGreat
open Go.RowKit

/-- v owns, from block lo on, a row of elements xs of type e; element x fills the cells cs x -/
def OwnG {α : Type} (cs : α → List Value) (lo : Nat) (e : TypeId) (sz : Nat) (w : World) (v : Value) (xs : List α) : Prop := w.ownsRow lo e sz v xs.length (xs.flatMap cs)
theorem flatMap_at {α : Type} {cs : α → List Value} {sz : Nat} (hc : ∀ x, (cs x).length = sz) : ∀ {xs : List α} {i : Nat} {x : α}, xs[i]? = some x → ∀ j, j < sz → (xs.flatMap cs)[i * sz + j]? = (cs x)[j]?
  | [], _, _, h, _, _ => by simp at h
  | y :: r, 0, x, h, j, hj => by
    simp at h
    subst h
    rw [List.flatMap_cons, Nat.zero_mul, Nat.zero_add, List.getElem?_append_left (by rw [hc]; exact hj)]
  | y :: r, i + 1, x, h, j, hj => by
    rw [List.flatMap_cons, Nat.succ_mul, List.getElem?_append_right (by rw [hc]; omega), hc, show i * sz + sz + j - sz = i * sz + j by omega]
    exact flatMap_at hc (by simpa using h) j hj
theorem flatMap_len {α : Type} {cs : α → List Value} {sz : Nat} (hc : ∀ x, (cs x).length = sz) : ∀ xs : List α, (xs.flatMap cs).length = xs.length * sz
  | [] => by simp
  | y :: r => by rw [List.flatMap_cons, List.length_append, hc, flatMap_len hc r, List.length_cons, Nat.succ_mul]; omega
theorem OwnG.nil {α : Type} (cs : α → List Value) (lo : Nat) (e : TypeId) (sz : Nat) (w : World) : OwnG cs lo e sz w (.slice none 0 0) [] := World.ownsRow_nil _ _ _ _
theorem OwnG.lt {α : Type} {cs : α → List Value} {lo : Nat} {e : TypeId} {sz : Nat} {w : World} {v : Value} {xs : List α} (h : OwnG cs lo e sz w v xs) : ∀ k, v.ownBlock = some k → lo ≤ k ∧ k < w.heap.size := World.ownsRow.lt h
theorem OwnG.form {α : Type} {cs : α → List Value} {lo : Nat} {e : TypeId} {sz : Nat} {w : World} {v : Value} {xs : List α} (h : OwnG cs lo e sz w v xs) : ∃ a cap, v = .slice a xs.length cap ∧ xs.length ≤ 9223372036854775807 := by
  rcases h.2 with ⟨rfl, h4⟩ | ⟨g, cap, cur, rfl, hb, hg, hc, hm, hs, ht⟩
  · exact ⟨none, 0, by rw [h4], by omega⟩
  · exact ⟨some ⟨g, 0, none⟩, cap, rfl, by unfold maxLen at hm; omega⟩
/-- the row's block stands as it stood -/
theorem OwnG.of {α : Type} {cs : α → List Value} {lo : Nat} {e : TypeId} {sz : Nat} {w w' : World} {v : Value} {xs : List α} (h : OwnG cs lo e sz w v xs) (s : ∀ b c, lo ≤ b → w.heap[b]? = some (.cells c e (0, 0)) → w'.heap[b]? = some (.cells c e (0, 0))) : OwnG cs lo e sz w' v xs := by
  refine ⟨h.1, ?_⟩
  rcases h.2 with hn | ⟨g, cap, cur, hv, hb, hg, r⟩
  · exact .inl hn
  · exact .inr ⟨g, cap, cur, hv, hb, s g cur hb hg, r⟩
theorem OwnG.ext {α : Type} {cs : α → List Value} {lo : Nat} {e : TypeId} {sz : Nat} {w w' : World} {v : Value} {xs : List α} (h : OwnG cs lo e sz w v xs) (x : Ext w w') : OwnG cs lo e sz w' v xs :=
  h.of fun b c _ hb => (x.block (Array.getElem?_eq_some_iff.1 hb).1).trans hb
theorem OwnG.low {α : Type} {cs : α → List Value} {lo lo' : Nat} {e : TypeId} {sz : Nat} {w : World} {v : Value} {xs : List α} (h : OwnG cs lo e sz w v xs) (hl : lo' ≤ lo) : OwnG cs lo' e sz w v xs := by
  refine ⟨h.1, ?_⟩
  rcases h.2 with hn | ⟨g, cap, cur, hv, hb, r⟩
  · exact .inl hn
  · exact .inr ⟨g, cap, cur, hv, by omega, r⟩
/-- element i: where its cells lie -/
theorem OwnG.at {α : Type} {cs : α → List Value} {lo : Nat} {e : TypeId} {sz : Nat} {w : World} {v : Value} {xs : List α} (h : OwnG cs lo e sz w v xs) (hc : ∀ x, (cs x).length = sz) {i : Nat} {x : α} (hx : xs[i]? = some x) :
    ∃ g cap, v = .slice (some ⟨g, 0, none⟩) xs.length cap ∧ lo ≤ g ∧ g < w.heap.size ∧ xs.length ≤ cap ∧ cap ≤ 9223372036854775807 ∧ (∃ c, w.heap[g]? = some (.cells c e (0, 0))) ∧ ∀ j, j < sz → w.cell? ⟨g, i * sz + j, none⟩ = (cs x)[j]? := by
  have hi := (List.getElem?_eq_some_iff.1 hx).1
  rcases h.2 with ⟨rfl, h4⟩ | ⟨g, cap, cur, rfl, hb, hg, hcap, hm, hs, ht⟩
  · omega
  · refine ⟨g, cap, rfl, hb, (Array.getElem?_eq_some_iff.1 hg).1, hcap, by unfold maxLen at hm; omega, ⟨_, hg⟩, fun j hj => ?_⟩
    have e1 := flatMap_at hc hx j hj
    rw [← ht, List.getElem?_take, if_pos (flat_lt hi hj)] at e1
    rw [← e1]
    simp only [World.cell?, hg]
    simp

/-- w' is w with new blocks, and, from lo on, block B and the rows of type e written -/
structure KN (lo B : Nat) (e : TypeId) (w w' : World) : Prop where
  os : w'.os = w.os
  tape : w'.tape = w.tape
  output : w'.output = w.output
  size : w.heap.size ≤ w'.heap.size
  block : ∀ b, b < w.heap.size → (b < lo ∨ (b ≠ B ∧ ∀ c, w.heap[b]? ≠ some (.cells c e (0, 0)))) → w'.heap[b]? = w.heap[b]?
theorem KN.refl (lo B : Nat) (e : TypeId) (w : World) : KN lo B e w w := ⟨rfl, rfl, rfl, Nat.le_refl _, fun _ _ _ => rfl⟩
theorem KN.trans {lo B : Nat} {e : TypeId} {w w1 w2 : World} (h : KN lo B e w w1) (k : KN lo B e w1 w2) : KN lo B e w w2 :=
  ⟨k.os.trans h.os, k.tape.trans h.tape, k.output.trans h.output, Nat.le_trans h.size k.size, fun b hb hn => by
    have e1 := h.block b hb hn
    exact (k.block b (Nat.lt_of_lt_of_le hb h.size) (by rw [e1]; exact hn)).trans e1⟩
theorem Ext.kn {w w' : World} (h : Ext w w') (lo B : Nat) (e : TypeId) : KN lo B e w w' := ⟨h.os, h.tape, h.output, h.size, fun b hb _ => h.block hb⟩
theorem KN.ext {lo B : Nat} {e : TypeId} {w w1 w2 : World} (h : KN lo B e w w1) (k : Ext w1 w2) : KN lo B e w w2 := h.trans (k.kn lo B e)
theorem KN.set {lo B : Nat} {e : TypeId} {w w1 : World} (h : KN lo B e w w1) (hl : lo ≤ B) (i : Nat) (u : Value) : KN lo B e w (w1.setCell ⟨B, i, none⟩ u) :=
  h.trans ⟨rfl, rfl, rfl, by rw [World.size_setCell]; exact Nat.le_refl _, fun b _ hn => Below.heap_setCell _ _ _ _ (by simp only; rcases hn with hn | hn <;> omega)⟩
/-- a row of type e grew -/
theorem KN.grown {lo B : Nat} {e : TypeId} {w w1 w2 : World} {row : Option Nat} (h : KN lo B e w w1) (hg : w1.grownBy w2 row) (hr : ∀ k, row = some k → lo ≤ k ∧ ∃ c, w1.heap[k]? = some (.cells c e (0, 0))) : KN lo B e w w2 :=
  h.trans ⟨hg.os, hg.tape, hg.output, hg.size, fun b hb hn => hg.block b hb (fun e1 => by
    obtain ⟨h1, c, h2⟩ := hr b e1.symm
    rcases hn with hn | hn
    · omega
    · exact hn.2 c h2)⟩
/-- a block made since was written -/
theorem KN.setNew {lo B : Nat} {e : TypeId} {w w1 : World} (h : KN lo B e w w1) {b : Nat} (hb : w.heap.size ≤ b) (i : Nat) (u : Value) : KN lo B e w (w1.setCell ⟨b, i, none⟩ u) :=
  ⟨h.os, h.tape, h.output, by rw [World.size_setCell]; exact h.size, fun k hk hn => (Below.heap_setCell _ _ _ _ (by simp only; omega)).trans (h.block k hk hn)⟩
theorem KN.up {lo B : Nat} {e : TypeId} {w0 w w1 : World} (h : KN lo B e w w1) (x : Ext w0 w) (hl : w0.heap.size ≤ lo) : Ext w0 w1 := by
  refine Ext.trans (Ext.refl w0) ?_
  refine (Ext.refl w0).grown (row := none) ⟨h.os.trans x.os, h.tape.trans x.tape, h.output.trans x.output, Nat.le_trans x.size h.size, fun b hb _ => ?_⟩ (fun k hk => by cases hk)
  exact (h.block b (Nat.lt_of_lt_of_le hb x.size) (.inl (by omega))).trans (x.block hb)
theorem KN.row {lo B : Nat} {e e' : TypeId} {α : Type} {cs : α → List Value} {sz lo' : Nat} {w w' : World} {v : Value} {xs : List α} (h : OwnG cs lo' e' sz w v xs) (k : KN lo B e w w') (hB : ∀ c, w.heap[B]? ≠ some (.cells c e' (0, 0))) (he : e' ≠ e) : OwnG cs lo' e' sz w' v xs :=
  h.of fun b c _ hb => (k.block b (Array.getElem?_eq_some_iff.1 hb).1 (.inr ⟨fun e1 => hB c (e1 ▸ hb), fun c' h' => by rw [hb] at h'; simp only [Option.some.injEq, Obj.cells.injEq] at h'; exact he h'.2.1⟩)).trans hb
theorem KN.ints {lo B : Nat} {e : TypeId} {lo' : Nat} {w w' : World} {v : Value} {xs : List Int} (h : OwnInts lo' w v xs) (k : KN lo B e w w') (hB : ∀ c, w.heap[B]? ≠ some (.cells c 3 (0, 0))) (he : 3 ≠ e) : OwnInts lo' w' v xs := by
  obtain ⟨⟨h1, h2⟩, h3⟩ := h
  refine ⟨⟨h1, ?_⟩, h3⟩
  rcases h2 with hn | ⟨g, cap, cur, hv, hb, hg, r⟩
  · exact .inl hn
  · refine .inr ⟨g, cap, cur, hv, hb, ?_, r⟩
    exact (k.block g (Array.getElem?_eq_some_iff.1 hg).1 (.inr ⟨fun e1 => hB cur (e1 ▸ hg), fun c' h' => by rw [hg] at h'; simp only [Option.some.injEq, Obj.cells.injEq] at h'; exact he h'.2.1⟩)).trans hg
theorem KN.blk {lo B : Nat} {e : TypeId} {w w' : World} {g : Nat} {t : TypeId} {cs : List Value} (h : Blk w g t cs) (k : KN lo B e w w') (hg : g ≠ B) (ht : t ≠ e) : Blk w' g t cs :=
  h.of (k.block g h.lt (.inr ⟨hg, fun c' h' => by unfold Blk at h; rw [h] at h'; simp only [Option.some.injEq, Obj.cells.injEq] at h'; exact ht h'.2.1⟩))

/-- a token: its kind, text, number, offset -/
structure Tok where
  kind : Int
  text : ByteArray
  num : Int
  off : Int
def Tok.cs (t : Tok) : List Value := [.int .i64 t.kind, .string t.text, .int .i64 t.num, .int .i64 t.off]
/-- a node and the slice value of its arguments -/
def ndCs (p : Nd × Value) : List Value := [.int .i64 p.1.op, .string p.1.name, .int .i64 p.1.num, p.2]
def Asg.cs (a : Asg) : List Value := [.string a.name, .int .i64 a.root]
def OwnToks (lo : Nat) (w : World) (v : Value) (xs : List Tok) : Prop := OwnG Tok.cs lo 145 4 w v xs
def OwnAsgs (lo : Nat) (w : World) (v : Value) (xs : List Asg) : Prop := OwnG Asg.cs lo 74 2 w v xs
/-- rows of nodes whose arguments lie in no block of X -/
def OwnNds (lo : Nat) (X : Nat → Prop) (w : World) (v : Value) (xs : List Nd) : Prop := ∃ ps : List (Nd × Value), ps.map (·.1) = xs ∧ OwnG ndCs lo 79 4 w v ps ∧ ∀ p ∈ ps, OwnInts lo w p.2 p.1.args ∧ ∀ k, p.2.ownBlock = some k → ¬ X k
theorem info_Token : (Tryz.prog.info? 145).map (fun i => (i.zero, i.size, i.bytes)) = some (some (.agg #[.int .i64 0, .string ⟨#[]⟩, .int .i64 0, .int .i64 0]), 4, 40) := by kernel_rfl
theorem info_NodeT : (Tryz.prog.info? 79).map (fun i => (i.zero, i.size, i.bytes)) = some (some (.agg #[.int .i64 0, .string ⟨#[]⟩, .int .i64 0, .slice none 0 0]), 4, 56) := by kernel_rfl
theorem info_AsgT : (Tryz.prog.info? 74).map (fun i => (i.zero, i.size, i.bytes)) = some (some (.agg #[.string ⟨#[]⟩, .int .i64 0]), 2, 24) := by kernel_rfl

/-- append of one element to an owned row -/
theorem wpList_append_elt {α : Type} (cs : α → List Value) (e : TypeId) (sz bytes : Nat) (z : Value) (w : World) {ops : Array Oper} {rest : List Oper} {o : Oper} {a : Act} {Q : Exit → Act → World → Prop} (hg : o.guard = none) (s x : Operand) (t : TypeId)
    (hop : o.op = Op.call { callee := Callee.builtin Builtin.append, args := #[s, x], argTypes := #[t, t] }) (ht : Tryz.prog.underlying t = some (.slice e))
    (hinfo : (Tryz.prog.info? e).map (fun i => (i.zero, i.size, i.bytes)) = some (some z, sz, bytes)) (hzs : z.cells.size = sz) (hsz : 0 < sz) (hby : bytes ≤ 1000) (hc : ∀ x, (cs x).length = sz)
    (lo : Nat) (v : Value) (xs : List α) (hs : a.eval s = v) (hown : OwnG cs lo e sz w v xs)
    (y : α) (b : Nat) (hx : a.eval x = .slice (some ⟨b, 0, none⟩) 1 1) (hcell : ∀ j, j < sz → w.cell? ⟨b, j, none⟩ = (cs y)[j]?) (h1 : ∀ u ∈ cs y, u.oneCell' = true) (hlen : xs.length < 1000000) (hlo : lo ≤ w.heap.size)
    (hK : ∀ v' w', OwnG cs lo e sz w' v' (xs ++ [y]) → w.grownBy w' v.ownBlock → wpList Tryz.prog ops Q rest (a.put o.dst v') w') : wpList Tryz.prog ops Q (o :: rest) a w := by
  obtain ⟨i0, hi0, hz0, hz1, hz2⟩ := info_parts hinfo
  refine wpList_append_own w hg s x t hop lo e i0 z sz bytes ht hi0 hz0 hz1 hz2 hzs hsz v xs.length _ hs hown ⟨b, 0, none⟩ 1 1 (cs y) hx (by rw [hc, Nat.one_mul]) ?_ h1 ?_ ?_ hlo ?_
  · intro j u hj
    have hjl : j < sz := by rw [← hc y]; exact (List.getElem?_eq_some_iff.1 hj).1
    have ea : (⟨b, 0, none⟩ : Addr).add j = ⟨b, j, none⟩ := by
      unfold Addr.add
      split <;> simp_all
    rw [ea, hcell j hjl, hj]
  · unfold maxLen; omega
  · have : (xs.length + 1) * bytes ≤ 1000000 * 1000 := Nat.mul_le_mul (by omega) hby
    omega
  · intro v' w1 hown' hgrow _
    refine hK v' w1 ?_ hgrow
    unfold OwnG
    rw [List.length_append, List.flatMap_append]
    simpa using hown'
theorem wpList_append_tok (w : World) {ops : Array Oper} {rest : List Oper} {o : Oper} {a : Act} {Q : Exit → Act → World → Prop} (hg : o.guard = none) (s x : Operand)
    (hop : o.op = Op.call { callee := Callee.builtin Builtin.append, args := #[s, x], argTypes := #[138, 138] }) (lo : Nat) (v : Value) (xs : List Tok) (hs : a.eval s = v) (hown : OwnToks lo w v xs)
    (y : Tok) (b : Nat) (hx : a.eval x = .slice (some ⟨b, 0, none⟩) 1 1) (hcell : w.cell? ⟨b, 0, none⟩ = some (.int .i64 y.kind) ∧ w.cell? ⟨b, 1, none⟩ = some (.string y.text) ∧ w.cell? ⟨b, 2, none⟩ = some (.int .i64 y.num) ∧ w.cell? ⟨b, 3, none⟩ = some (.int .i64 y.off)) (hlen : xs.length < 1000000) (hlo : lo ≤ w.heap.size)
    (hK : ∀ v' w', OwnToks lo w' v' (xs ++ [y]) → w.grownBy w' v.ownBlock → wpList Tryz.prog ops Q rest (a.put o.dst v') w') : wpList Tryz.prog ops Q (o :: rest) a w := by
  refine wpList_append_elt Tok.cs 145 4 40 _ w hg s x 138 hop Tryz.underlying138 info_Token rfl (by decide) (by decide) (fun _ => rfl) lo v xs hs hown y b hx ?_ ?_ hlen hlo hK
  · intro j hj
    obtain ⟨c0, c1, c2, c3⟩ := hcell
    rcases (show j = 0 ∨ j = 1 ∨ j = 2 ∨ j = 3 by omega) with rfl | rfl | rfl | rfl
    · exact c0
    · exact c1
    · exact c2
    · exact c3
  · intro u hu
    simp only [Tok.cs, List.mem_cons, List.not_mem_nil, or_false] at hu
    rcases hu with rfl | rfl | rfl | rfl <;> rfl
theorem wpList_append_asg (w : World) {ops : Array Oper} {rest : List Oper} {o : Oper} {a : Act} {Q : Exit → Act → World → Prop} (hg : o.guard = none) (s x : Operand)
    (hop : o.op = Op.call { callee := Callee.builtin Builtin.append, args := #[s, x], argTypes := #[24, 24] }) (lo : Nat) (v : Value) (xs : List Asg) (hs : a.eval s = v) (hown : OwnAsgs lo w v xs)
    (y : Asg) (b : Nat) (hx : a.eval x = .slice (some ⟨b, 0, none⟩) 1 1) (hcell : w.cell? ⟨b, 0, none⟩ = some (.string y.name) ∧ w.cell? ⟨b, 1, none⟩ = some (.int .i64 y.root)) (hlen : xs.length < 1000000) (hlo : lo ≤ w.heap.size)
    (hK : ∀ v' w', OwnAsgs lo w' v' (xs ++ [y]) → w.grownBy w' v.ownBlock → wpList Tryz.prog ops Q rest (a.put o.dst v') w') : wpList Tryz.prog ops Q (o :: rest) a w := by
  refine wpList_append_elt Asg.cs 74 2 24 _ w hg s x 24 hop Tryz.underlying24 info_AsgT rfl (by decide) (by decide) (fun _ => rfl) lo v xs hs hown y b hx ?_ ?_ hlen hlo hK
  · intro j hj
    obtain ⟨c0, c1⟩ := hcell
    rcases (show j = 0 ∨ j = 1 by omega) with rfl | rfl
    · exact c0
    · exact c1
  · intro u hu
    simp only [Asg.cs, List.mem_cons, List.not_mem_nil, or_false] at hu
    rcases hu with rfl | rfl <;> rfl
theorem OwnNds.nil (lo : Nat) (X : Nat → Prop) (w : World) : OwnNds lo X w (.slice none 0 0) [] := ⟨[], rfl, OwnG.nil _ _ _ _ _, fun p h => by cases h⟩
theorem OwnNds.form {lo : Nat} {X : Nat → Prop} {w : World} {v : Value} {xs : List Nd} (h : OwnNds lo X w v xs) : ∃ a cap, v = .slice a xs.length cap ∧ xs.length ≤ 9223372036854775807 := by
  obtain ⟨ps, rfl, h1, _⟩ := h
  rw [List.length_map]
  exact h1.form
theorem OwnNds.ext {lo : Nat} {X : Nat → Prop} {w w' : World} {v : Value} {xs : List Nd} (h : OwnNds lo X w v xs) (x : Ext w w') : OwnNds lo X w' v xs := by
  obtain ⟨ps, h0, h1, h2⟩ := h
  exact ⟨ps, h0, h1.ext x, fun p hp => ⟨(h2 p hp).1.ext x, (h2 p hp).2⟩⟩
theorem OwnNds.row {lo : Nat} {X : Nat → Prop} {w : World} {v : Value} {xs : List Nd} (h : OwnNds lo X w v xs) : ∀ k, v.ownBlock = some k → lo ≤ k ∧ ∃ c, w.heap[k]? = some (.cells c 79 (0, 0)) := by
  obtain ⟨ps, h0, h1, h2⟩ := h
  intro k hk
  rcases h1.2 with ⟨rfl, h4⟩ | ⟨g, cap, cur, rfl, hb, hg, hc, hm, hs, ht⟩
  · cases hk
  · simp only [Value.ownBlock, Option.some.injEq] at hk
    subst hk
    exact ⟨hb, cur, hg⟩
/-- a box that is no row is written -/
theorem OwnNds.set {lo B : Nat} {X : Nat → Prop} {w : World} {v : Value} {xs : List Nd} {T : TypeId} {cs : List Value} (h : OwnNds lo X w v xs) (hB : Blk w B T cs) (h1 : T ≠ 79) (h2 : T ≠ 3) (i : Nat) (u : Value) : OwnNds lo X (w.setCell ⟨B, i, none⟩ u) v xs := by
  obtain ⟨ps, h0, h3, h4⟩ := h
  refine ⟨ps, h0, h3.of fun b c _ hb => ?_, fun p hp => ⟨(h4 p hp).1.setOther ?_ u, (h4 p hp).2⟩⟩
  · refine (Below.heap_setCell _ _ _ _ ?_).trans hb
    intro e
    simp only at e
    subst e
    unfold Blk at hB
    rw [hB] at hb
    simp only [Option.some.injEq, Obj.cells.injEq] at hb
    exact h1 hb.2.1
  · intro e
    obtain ⟨cur, hc⟩ := (h4 p hp).1.block e
    unfold Blk at hB
    simp only at hc
    rw [hB] at hc
    simp only [Option.some.injEq, Obj.cells.injEq] at hc
    exact h2 hc.2.1
theorem OwnG.set {α : Type} {cs : α → List Value} {lo : Nat} {e : TypeId} {sz : Nat} {w : World} {v : Value} {xs : List α} {B : Nat} {T : TypeId} {us : List Value} (h : OwnG cs lo e sz w v xs) (hB : Blk w B T us) (h1 : T ≠ e) (i : Nat) (u : Value) : OwnG cs lo e sz (w.setCell ⟨B, i, none⟩ u) v xs := by
  refine h.of fun b c _ hb => (Below.heap_setCell _ _ _ _ ?_).trans hb
  intro e
  simp only at e
  subst e
  unfold Blk at hB
  rw [hB] at hb
  simp only [Option.some.injEq, Obj.cells.injEq] at hb
  exact h1 hb.2.1
/-- append of one node, whose arguments are an owned row, to an owned row of nodes -/
theorem wpList_append_nd (w : World) {ops : Array Oper} {rest : List Oper} {o : Oper} {a : Act} {Q : Exit → Act → World → Prop} (hg : o.guard = none) (s x : Operand)
    (hop : o.op = Op.call { callee := Callee.builtin Builtin.append, args := #[s, x], argTypes := #[23, 23] }) (lo : Nat) (X : Nat → Prop) (v : Value) (xs : List Nd) (hs : a.eval s = v) (hown : OwnNds lo X w v xs)
    (y : Nd) (u : Value) (hu : OwnInts lo w u y.args) (hux : ∀ k, u.ownBlock = some k → ¬ X k) (b : Nat) (hx : a.eval x = .slice (some ⟨b, 0, none⟩) 1 1) (hcell : w.cell? ⟨b, 0, none⟩ = some (.int .i64 y.op) ∧ w.cell? ⟨b, 1, none⟩ = some (.string y.name) ∧ w.cell? ⟨b, 2, none⟩ = some (.int .i64 y.num) ∧ w.cell? ⟨b, 3, none⟩ = some u) (hlen : xs.length < 1000000) (hlo : lo ≤ w.heap.size)
    (hK : ∀ v' w', OwnNds lo X w' v' (xs ++ [y]) → w.grownBy w' v.ownBlock → wpList Tryz.prog ops Q rest (a.put o.dst v') w') : wpList Tryz.prog ops Q (o :: rest) a w := by
  have hrow := hown.row
  obtain ⟨ps, hps, h1, h2⟩ := hown
  have hpl : ps.length = xs.length := by rw [← hps, List.length_map]
  obtain ⟨ua, uc, hue, _⟩ := hu.form
  refine wpList_append_elt ndCs 79 4 56 _ w hg s x 23 hop Tryz.underlying23 info_NodeT rfl (by decide) (by decide) (fun _ => rfl) lo v ps hs h1 (y, u) b hx ?_ ?_ (by omega) hlo ?_
  · intro j hj
    obtain ⟨c0, c1, c2, c3⟩ := hcell
    rcases (show j = 0 ∨ j = 1 ∨ j = 2 ∨ j = 3 by omega) with rfl | rfl | rfl | rfl
    · exact c0
    · exact c1
    · exact c2
    · exact c3
  · intro q hq
    simp only [ndCs, List.mem_cons, List.not_mem_nil, or_false] at hq
    rcases hq with rfl | rfl | rfl | rfl
    · rfl
    · rfl
    · rfl
    · rw [hue]; rfl
  · intro v' w1 hown' hgrow
    have keep : ∀ {p : Nd × Value}, OwnInts lo w p.2 p.1.args → OwnInts lo w1 p.2 p.1.args := fun hp => hp.grown hgrow (fun k hk e => by
      obtain ⟨cur, hc⟩ := hp.block hk
      obtain ⟨_, c, hc'⟩ := hrow k e.symm
      rw [hc] at hc'
      simp only [Option.some.injEq, Obj.cells.injEq] at hc'
      exact absurd hc'.2.1 (by decide))
    refine hK v' w1 ⟨ps ++ [(y, u)], by simp [hps], hown', fun p hp => ?_⟩ hgrow
    rcases List.mem_append.1 hp with h | h
    · exact ⟨keep (h2 p h).1, (h2 p h).2⟩
    · simp only [List.mem_cons, List.not_mem_nil, or_false] at h
      subst h
      exact ⟨keep (p := (y, u)) hu, hux⟩
/-- the blocks of X are others -/
theorem OwnNds.other {lo : Nat} {X Y : Nat → Prop} {w : World} {v : Value} {xs : List Nd} (h : OwnNds lo X w v xs) (hx : ∀ k, k < w.heap.size → ¬ X k → ¬ Y k) : OwnNds lo Y w v xs := by
  obtain ⟨ps, h0, h1, h2⟩ := h
  exact ⟨ps, h0, h1, fun p hp => ⟨(h2 p hp).1, fun k hk => hx k ((h2 p hp).1.lt k hk).2 ((h2 p hp).2 k hk)⟩⟩
/-- a row of integers grew that is none of the nodes' rows -/
theorem OwnNds.grownI {lo : Nat} {X : Nat → Prop} {w w' : World} {v : Value} {xs : List Nd} {row : Option Nat} (h : OwnNds lo X w v xs) (hg : w.grownBy w' row) (hr : ∀ k, row = some k → X k ∧ ∃ c, w.heap[k]? = some (.cells c 3 (0, 0))) : OwnNds lo X w' v xs := by
  obtain ⟨ps, h0, h1, h2⟩ := h
  refine ⟨ps, h0, h1.of fun b c _ hb => (hg.block b (Array.getElem?_eq_some_iff.1 hb).1 fun e => ?_).trans hb, fun p hp => ⟨(h2 p hp).1.grown hg fun k hk e => (h2 p hp).2 k hk (hr k e.symm).1, (h2 p hp).2⟩⟩
  obtain ⟨_, c', hc'⟩ := hr b e.symm
  rw [hb] at hc'
  simp only [Option.some.injEq, Obj.cells.injEq] at hc'
  exact absurd hc'.2.1 (by decide)
end Go.Proofs.YtaegmenjgjdimaaGreat
end

section
/- This text proves what the reference's lexer hands back, token by token. -/
namespace Go.Proofs.YtaegmenjgjdimaaGreat
open Go.RowKit

def digB (x : Int) : Bool := inB x 48 57
def letB (x : Int) : Bool := inB x 97 122
theorem wrap64_i64T (n : Int) : I64 (wrap64 n) := by unfold wrap64; exact ⟨by omega, by omega⟩
theorem l12Digit_val {x : Int} {b : Bool} (h : digB x = b) (w : World) : Calls Tryz.prog 131 #[.int .u8 x] w fun e w' => e = .returned (.bool b) ∧ w = w' := by
  cases b
  · have h2 : ¬(48 ≤ x ∧ x ≤ 57) := fun c => by rw [digB, inB_iff.2 c] at h; cases h
    clear h
    go_enter Tryz.func131, Tryz.ntmps131
    go_wp2
    all_goals first | (exfalso; omega) | (go_ret; exact ⟨by simp <;> omega, rfl⟩)
  · have h2 := inB_iff.1 h
    clear h
    go_enter Tryz.func131, Tryz.ntmps131
    go_wp2
    all_goals first | (exfalso; omega) | (go_ret; exact ⟨by simp <;> omega, rfl⟩)
theorem l12Letter_val {x : Int} {b : Bool} (h : letB x = b) (w : World) : Calls Tryz.prog 133 #[.int .u8 x] w fun e w' => e = .returned (.bool b) ∧ w = w' := by
  cases b
  · have h2 : ¬(97 ≤ x ∧ x ≤ 122) := fun c => by rw [letB, inB_iff.2 c] at h; cases h
    clear h
    go_enter Tryz.func133, Tryz.ntmps133
    go_wp2
    all_goals first | (exfalso; omega) | (go_ret; exact ⟨by simp <;> omega, rfl⟩)
  · have h2 := inB_iff.1 h
    clear h
    go_enter Tryz.func133, Tryz.ntmps133
    go_wp2
    all_goals first | (exfalso; omega) | (go_ret; exact ⟨by simp <;> omega, rfl⟩)
/-- the greatest number of so many digits -/
def wb : Nat → Int
  | 0 => 0
  | d + 1 => 10 * wb d + 9
/-- and one more than it -/
def ub : Nat → Int
  | 0 => 1
  | d + 1 => 10 * ub d
theorem wb_le {d : Nat} (h : d ≤ 6) : 0 ≤ wb d ∧ wb d ≤ 999999 := by
  rcases (show d = 0 ∨ d = 1 ∨ d = 2 ∨ d = 3 ∨ d = 4 ∨ d = 5 ∨ d = 6 by omega) with rfl | rfl | rfl | rfl | rfl | rfl | rfl <;> decide
theorem ub_le {d : Nat} (h : d ≤ 6) : 1 ≤ ub d ∧ ub d ≤ 1000000 := by
  rcases (show d = 0 ∨ d = 1 ∨ d = 2 ∨ d = 3 ∨ d = 4 ∨ d = 5 ∨ d = 6 by omega) with rfl | rfl | rfl | rfl | rfl | rfl | rfl <;> decide
set_option maxRecDepth 40000 in
set_option maxHeartbeats 6400000 in
theorem l12Number_any (s : ByteArray) (o : Nat) (w : World) (hs : s.size ≤ 2000) (ho : o < s.size) (hd : digB (s[o].toNat : Nat) = true) : Calls Tryz.prog 132 #[.string s, .int .i64 (o : Nat)] w fun e w' => ∃ (k : Nat) (n : Int) (b : Bool), e = .returned (.tuple #[.int .i64 (k : Nat), .int .i64 n, .bool b]) ∧ o < k ∧ k ≤ s.size ∧ I64 n ∧ Ext w w' := by
  have HD := hid hd
  clear hd
  go_enter Tryz.func132, Tryz.ntmps132
  go_wp2
  go_loopw [7, 8] (fun i q wr => ∃ (d : Nat) (z : Int), d ≤ 6 ∧ o + d ≤ s.size ∧ i = .int .i64 ((o + d : Nat) : Int) ∧ q = .int .i64 z ∧ 0 ≤ z ∧ z ≤ wb d ∧ wr = w) (fun i _ _ => s.size - (intOf i).toNat)
  case atStart => exact ⟨0, 0, by omega, by omega, by go_num, rfl, by omega, by decide, rfl⟩
  case round =>
    obtain ⟨d, z, hd6, hk, rfl, rfl, hz0, hz1, rfl⟩ := hrel
    have hw6 := wb_le hd6
    by_cases hgo : (∃ h : o + d < s.size, digB (s[o + d].toNat : Nat) = true) ∧ d ≤ 5
    · obtain ⟨⟨hlt, hdg⟩, hd5⟩ := hgo
      have hb := inB_iff.1 hdg
      have HB := hid hdg
      have hwb : wb (d + 1) = 10 * wb d + 9 := rfl
      have HWB := hid hwb
      clear hdg hwb
      go_wp2_with (go_at_call 131; refine (l12Digit_val HB.out _).mono ?_; rintro e w1 ⟨rfl, rfl⟩)
      go_roundw
      case rel => exact ⟨d + 1, z * 10 + ((s[o + d].toNat : Int) - 48), by omega, by omega, by go_num, rfl, by omega, by rw [HWB.out]; omega, by trivial⟩
      case measure => simp [intOf]; omega
    · have hd1 : 1 ≤ d := by
        by_cases h0 : d = 0
        · subst h0; exact absurd ⟨⟨ho, HD.out⟩, by omega⟩ hgo
        · omega
      have HG := hid hgo
      clear hgo
      obtain ⟨k, hke⟩ : ∃ k, o + d = k := ⟨_, rfl⟩
      rw [hke] at hk ⊢
      have HR : Hid ((k < s.size → ∀ h : k < s.size, digB (s[k].toNat : Nat) = true → d = 6) ∧ True) := hid ⟨fun hlt h hdg => by
        subst hke
        by_cases h5 : d ≤ 5
        · exact absurd ⟨⟨hlt, hdg⟩, h5⟩ HG.out
        · omega, trivial⟩
      clear HG
      by_cases hlt : k < s.size
      · cases hdg : digB (s[k].toNat : Nat)
        · have HB := hid hdg
          clear hdg
          go_wp2_with (go_at_call 131; refine (l12Digit_val HB.out _).mono ?_; rintro e w1 ⟨rfl, rfl⟩)
          · refine bodyPost_ret (v := .tuple #[.int .i64 (k : Nat), .int .i64 0, .bool false]) (by simp [results, Tryz.results132, go_sem]) rfl ?_
            exact ⟨k, 0, false, rfl, by omega, hk, ⟨by decide, by decide⟩, Ext.refl _⟩
          · refine bodyPost_ret (v := .tuple #[.int .i64 (k : Nat), .int .i64 (z * 256), .bool true]) (by simp [results, Tryz.results132, go_sem]) rfl ?_
            exact ⟨k, z * 256, true, rfl, by omega, hk, ⟨by omega, by omega⟩, Ext.refl _⟩
          · rename (_ = false ∧ _ = false) => q2
            rename ¬ (k : Int) = (s.size : Int) => q3
            clear q2 q3 HR HB
            go_loopw [7, 10, 11] (fun i q u wx => ∃ (c : Nat) (y : Int), c ≤ 6 ∧ k + 1 + c ≤ s.size ∧ i = .int .i64 ((k + 1 + c : Nat) : Int) ∧ q = .int .i64 y ∧ 0 ≤ y ∧ y ≤ wb c ∧ u = .int .i64 (ub c) ∧ wx = wr) (fun i _ _ _ => s.size - (intOf i).toNat)
            case atStart => exact ⟨0, 0, by omega, by omega, by go_num, rfl, by omega, by decide, rfl, rfl⟩
            case round =>
              obtain ⟨c, y, hc6, hkc, rfl, rfl, hy0, hy1, rfl, rfl⟩ := hrel
              have hcw := wb_le hc6
              have hcu := ub_le hc6
              obtain ⟨l, hle⟩ : ∃ l, k + 1 + c = l := ⟨_, rfl⟩
              obtain ⟨uc, huc⟩ : ∃ uc, ub c = uc := ⟨_, rfl⟩
              have hu1 : ub (c + 1) = 10 * uc := by rw [← huc]; rfl
              have HU1 := hid hu1
              have HW1 : Hid (wb (c + 1) = 10 * wb c + 9) := hid rfl
              rw [huc] at hcu ⊢
              rw [hle] at hkc ⊢
              have HL := hid hle
              clear huc hu1 hle
              by_cases hll : l < s.size
              · cases hdl : digB (s[l].toNat : Nat)
                · have HB := hid hdl
                  clear hdl
                  go_wp2_with (go_at_call 131; refine (l12Digit_val HB.out _).mono ?_; rintro e w1 ⟨rfl, rfl⟩)
                  · refine bodyPost_ret (v := .tuple #[.int .i64 ((k : Int) + 1), .int .i64 0, .bool false]) (by simp [results, Tryz.results132, go_sem]) rfl ?_
                    exact ⟨k + 1, 0, false, by go_num, by omega, by omega, ⟨by decide, by decide⟩, Ext.refl _⟩
                  · refine bodyPost_ret (v := .tuple #[.int .i64 (l : Nat), .int .i64 0, .bool false]) (by simp [results, Tryz.results132, go_sem]) rfl ?_
                    exact ⟨l, 0, false, rfl, by have := HL.out; omega, hkc, ⟨by decide, by decide⟩, Ext.refl _⟩
                  · go_quiet (fail)
                    go_wp2
                    refine bodyPost_ret (v := .tuple #[.int .i64 (l : Nat), .int .i64 (wrap64 (z * 256 + y * 256 / uc)), .bool true]) (by simp [results, Tryz.results132, go_sem]) rfl ?_
                    exact ⟨l, _, true, rfl, by have := HL.out; omega, hkc, wrap64_i64T _, (by repeat (with_reducible (first | assumption | exact Ext.refl _ | apply Ext.alloc | apply Ext.drew | apply Ext.drewN)))⟩
                · have HB := hid hdl
                  have hb := inB_iff.1 hdl
                  clear hdl
                  by_cases hc5 : c ≤ 5
                  · have hl5 : (l : Int) - ((k : Int) + 1) ≤ 5 := by have := HL.out; omega
                    go_wp2_with (go_at_call 131; refine (l12Digit_val HB.out _).mono ?_; rintro e w1 ⟨rfl, rfl⟩)
                    go_roundw
                    case rel => exact ⟨c + 1, y * 10 + ((s[l].toNat : Int) - 48), by omega, by have := HL.out; omega, by have := HL.out; go_num, rfl, by omega, by rw [HW1.out]; omega, by rw [HU1.out, Int.mul_comm], by trivial⟩
                    case measure => simp [intOf]; omega
                  · have hl5 : ¬ (l : Int) - ((k : Int) + 1) ≤ 5 := by have := HL.out; omega
                    go_wp2_with (go_at_call 131; refine (l12Digit_val HB.out _).mono ?_; rintro e w1 ⟨rfl, rfl⟩)
                    refine bodyPost_ret (v := .tuple #[.int .i64 (l : Nat), .int .i64 0, .bool false]) (by simp [results, Tryz.results132, go_sem]) rfl ?_
                    exact ⟨l, 0, false, rfl, by have := HL.out; omega, hkc, ⟨by decide, by decide⟩, Ext.refl _⟩
              · go_wp2
                · refine bodyPost_ret (v := .tuple #[.int .i64 ((k : Int) + 1), .int .i64 0, .bool false]) (by simp [results, Tryz.results132, go_sem]) rfl ?_
                  exact ⟨k + 1, 0, false, by go_num, by omega, by omega, ⟨by decide, by decide⟩, Ext.refl _⟩
                · refine bodyPost_ret (v := .tuple #[.int .i64 (l : Nat), .int .i64 0, .bool false]) (by simp [results, Tryz.results132, go_sem]) rfl ?_
                  exact ⟨l, 0, false, rfl, by have := HL.out; omega, hkc, ⟨by decide, by decide⟩, Ext.refl _⟩
                · go_quiet (fail)
                  go_wp2
                  refine bodyPost_ret (v := .tuple #[.int .i64 (l : Nat), .int .i64 (wrap64 (z * 256 + y * 256 / uc)), .bool true]) (by simp [results, Tryz.results132, go_sem]) rfl ?_
                  exact ⟨l, _, true, rfl, by have := HL.out; omega, hkc, wrap64_i64T _, (by repeat (with_reducible (first | assumption | exact Ext.refl _ | apply Ext.alloc | apply Ext.drew | apply Ext.drewN)))⟩
        · have HB := hid hdg
          obtain rfl := HR.out.1 hlt hlt hdg
          clear hdg
          go_wp2_with (go_at_call 131; refine (l12Digit_val HB.out _).mono ?_; rintro e w1 ⟨rfl, rfl⟩)
          refine bodyPost_ret (v := .tuple #[.int .i64 (k : Nat), .int .i64 0, .bool false]) (by simp [results, Tryz.results132, go_sem]) rfl ?_
          exact ⟨k, 0, false, rfl, by omega, hk, ⟨by decide, by decide⟩, Ext.refl _⟩
      · go_wp2
        · refine bodyPost_ret (v := .tuple #[.int .i64 (k : Nat), .int .i64 0, .bool false]) (by simp [results, Tryz.results132, go_sem]) rfl ?_
          exact ⟨k, 0, false, rfl, by omega, hk, ⟨by decide, by decide⟩, Ext.refl _⟩
        · refine bodyPost_ret (v := .tuple #[.int .i64 (s.size : Nat), .int .i64 (z * 256), .bool true]) (by simp [results, Tryz.results132, go_sem]) rfl ?_
          exact ⟨s.size, z * 256, true, rfl, ho, Nat.le_refl _, ⟨by omega, by omega⟩, Ext.refl _⟩
end Go.Proofs.YtaegmenjgjdimaaGreat
end

section
/- This text proves what the reference's scanner of one token hands back. -/
namespace Go.Proofs.YtaegmenjgjdimaaGreat
open Go.RowKit

def ldB (s : ByteArray) (j : Nat) : Bool := if h : j < s.size then letB (s[j].toNat : Nat) || digB (s[j].toNat : Nat) else false
def symL : List Int := [43, 45, 42, 47, 40, 41, 44, 61, 59]
/-- token t from o up to k of the text s -/
structure ScanR (s : ByteArray) (o : Nat) (t : Tok) (k : Nat) : Prop where
  lt : o < k
  le : k ≤ s.size
  off : t.off = o
  text : t.text.size ≤ 2000
  num : I64 t.num
  kind : 1 ≤ t.kind ∧ t.kind ≤ 3
def Tok.val (t : Tok) : Value := .agg #[.int .i64 t.kind, .string t.text, .int .i64 t.num, .int .i64 t.off]
theorem extract_le (s : ByteArray) (a b : Nat) : (s.extract a b).size ≤ s.size := by
  rw [ByteArray.size_extract]
  omega
set_option maxRecDepth 10000 in
set_option maxHeartbeats 3200000 in
theorem l12Scan_dig (s : ByteArray) (o : Nat) (w : World) (hs : s.size ≤ 2000) (ho : o < s.size) (hd : digB (s[o].toNat : Nat) = true) : Calls Tryz.prog 104 #[.string s, .int .i64 (o : Nat)] w fun e w' => ∃ (t : Tok) (k : Nat) (b : Bool), e = .returned (.tuple #[t.val, .int .i64 (k : Nat), .bool b]) ∧ ScanR s o t k ∧ Ext w w' := by
  have HD := hid hd
  clear hd
  go_enter Tryz.func104, Tryz.ntmps104
  go_wp2_with (go_at_call 131; refine (l12Digit_val HD.out _).mono ?_; rintro e w1 ⟨rfl, rfl⟩)
  refine (l12Number_any s o _ hs ho HD.out).mono ?_
  rintro e w1 ⟨k, n, b, rfl, hk, hks, hn, x1⟩
  have z1 := x1.size
  have BX := (Bx.made w #[.int .i64 0, .string ⟨#[]⟩, .int .i64 0, .int .i64 0] 145).ext x1
  simp only [World.size_alloc] at z1
  have X0 : Ext w w1 := Ext.trans (by repeat (with_reducible (first | assumption | exact Ext.refl _ | apply Ext.alloc | apply Ext.drew | apply Ext.drewN))) x1
  clear x1
  have bx := BX.lt
  have bx0 := BX.cell 0
  simp only [List.getElem?_toArray, List.getElem?_cons_zero, List.getElem?_cons_succ] at bx0
  have bx1 := BX.cell 1
  simp only [List.getElem?_toArray, List.getElem?_cons_zero, List.getElem?_cons_succ] at bx1
  have bx2 := BX.cell 2
  simp only [List.getElem?_toArray, List.getElem?_cons_zero, List.getElem?_cons_succ] at bx2
  have bx3 := BX.cell 3
  simp only [List.getElem?_toArray, List.getElem?_cons_zero, List.getElem?_cons_succ] at bx3
  have bxf0 := BX.frozen 0
  have bxf1 := BX.frozen 1
  have bxf2 := BX.frozen 2
  have bxf3 := BX.frozen 3
  go_wp2

  refine bodyPost_ret (v := .tuple #[.agg #[.int .i64 1, .string (s.extract o k), .int .i64 n, .int .i64 (o : Nat)], .int .i64 (k : Nat), .bool b]) (by simp [results, Tryz.results104, go_sem, *]) rfl ?_
  exact ⟨⟨1, s.extract o k, n, o⟩, k, b, rfl, ⟨hk, hks, rfl, Nat.le_trans (extract_le s o k) hs, hn, by show (1 : Int) ≤ 1; decide, by show (1 : Int) ≤ 3; decide⟩, (by repeat (first | with_reducible assumption | with_reducible exact Ext.refl _ | with_reducible apply Ext.alloc | with_reducible apply Ext.drew | with_reducible apply Ext.drewN | (with_reducible refine Ext.setCell ?_ (by simp; omega) _) | (with_reducible refine Ext.setCell ?_ (by simp) _)))⟩
set_option maxRecDepth 20000 in
set_option maxHeartbeats 6400000 in
theorem l12Scan_let (s : ByteArray) (o : Nat) (w : World) (hs : s.size ≤ 2000) (ho : o < s.size) (hd : digB (s[o].toNat : Nat) = false) (hl : letB (s[o].toNat : Nat) = true) : Calls Tryz.prog 104 #[.string s, .int .i64 (o : Nat)] w fun e w' => ∃ k : Nat, e = .returned (.tuple #[Tok.val ⟨2, s.extract o k, 0, o⟩, .int .i64 (k : Nat), .bool (decide ((k : Int) - o ≤ 8))]) ∧ ScanR s o ⟨2, s.extract o k, 0, o⟩ k ∧ (∀ j, o ≤ j → j < k → ldB s j = true) ∧ ldB s k = false ∧ Ext w w' := by
  have HD := hid hd
  have HL := hid hl
  clear hd hl
  go_enter Tryz.func104, Tryz.ntmps104
  have BX := Bx.made w #[.int .i64 0, .string ⟨#[]⟩, .int .i64 0, .int .i64 0] 145
  have X0 : Ext w (w.alloc (.cells #[.int .i64 0, .string ⟨#[]⟩, .int .i64 0, .int .i64 0] 145)) := (by repeat (with_reducible (first | assumption | exact Ext.refl _ | apply Ext.alloc | apply Ext.drew | apply Ext.drewN)))
  go_wp2_with first | (go_at_call 131; refine (l12Digit_val HD.out _).mono ?_; rintro e w1 ⟨rfl, rfl⟩) | (go_at_call 133; refine (l12Letter_val HL.out _).mono ?_; rintro e w1 ⟨rfl, rfl⟩)
  go_loopw [11] (fun i wr => ∃ k : Nat, o ≤ k ∧ k ≤ s.size ∧ i = .int .i64 (k : Nat) ∧ (∀ j, o ≤ j → j < k → ldB s j = true) ∧ wr = w.alloc (.cells #[.int .i64 0, .string ⟨#[]⟩, .int .i64 0, .int .i64 0] 145)) (fun i _ => s.size - (intOf i).toNat)
  case atStart => exact ⟨o, Nat.le_refl _, by omega, rfl, fun j h1 h2 => by omega, rfl⟩
  case round =>
    obtain ⟨k, hk, hks, rfl, hall, rfl⟩ := hrel
    have HA := hid hall
    clear hall
    have htok : ∀ q, (s.extract o q).size ≤ 2000 := fun q => Nat.le_trans (extract_le s o q) hs
    have HT := hid htok
    clear htok
    have bx := BX.lt
    have bx0 := BX.cell 0
    simp only [List.getElem?_toArray, List.getElem?_cons_zero, List.getElem?_cons_succ] at bx0
    have bx1 := BX.cell 1
    simp only [List.getElem?_toArray, List.getElem?_cons_zero, List.getElem?_cons_succ] at bx1
    have bx2 := BX.cell 2
    simp only [List.getElem?_toArray, List.getElem?_cons_zero, List.getElem?_cons_succ] at bx2
    have bx3 := BX.cell 3
    simp only [List.getElem?_toArray, List.getElem?_cons_zero, List.getElem?_cons_succ] at bx3
    have bxf0 := BX.frozen 0
    have bxf1 := BX.frozen 1
    have bxf2 := BX.frozen 2
    have bxf3 := BX.frozen 3
    simp only [World.size_alloc] at bx
    have fin : k ≤ s.size ∧ ldB s k = false → o < k := fun h => by
      by_cases e : k = o
      · subst e
        have h2 := h.2
        unfold ldB at h2
        rw [dif_pos ho, HL.out] at h2
        simp at h2
      · omega
    have HF := hid fin
    clear fin
    by_cases hlt : k < s.size
    · cases h1 : letB (s[k].toNat : Nat)
      · cases h2 : digB (s[k].toNat : Nat)
        · have hld : ldB s k = false := by unfold ldB; rw [dif_pos hlt, h1, h2]; rfl
          have HB := hid hld
          have H1 := hid h1
          have H2 := hid h2
          have hok := HF.out ⟨hks, hld⟩
          clear hld h1 h2
          go_wp2_with first | (go_at_call 131; refine (l12Digit_val H2.out _).mono ?_; rintro e w1 ⟨rfl, rfl⟩) | (go_at_call 133; refine (l12Letter_val H1.out _).mono ?_; rintro e w1 ⟨rfl, rfl⟩)
          refine bodyPost_ret (v := .tuple #[Tok.val ⟨2, s.extract o k, 0, o⟩, .int .i64 (k : Nat), .bool (decide ((k : Int) - o ≤ 8))]) (by simp [results, Tok.val, Tryz.results104, go_sem, *]) rfl ?_
          exact ⟨k, rfl, ⟨hok, hks, rfl, HT.out k, ⟨by show (-9223372036854775808 : Int) ≤ 0; decide, by show (0 : Int) ≤ 9223372036854775807; decide⟩, by show (1 : Int) ≤ 2; decide, by show (2 : Int) ≤ 3; decide⟩, HA.out, HB.out, (by repeat (first | with_reducible assumption | with_reducible exact Ext.refl _ | with_reducible apply Ext.alloc | with_reducible apply Ext.drew | with_reducible apply Ext.drewN | (with_reducible refine Ext.setCell ?_ (by simp; omega) _) | (with_reducible refine Ext.setCell ?_ (by simp) _)))⟩
        · have hld : ldB s k = true := by unfold ldB; rw [dif_pos hlt, h1, h2]; rfl
          have HB := hid hld
          have H1 := hid h1
          have H2 := hid h2
          clear hld h1 h2
          go_wp2_with first | (go_at_call 131; refine (l12Digit_val H2.out _).mono ?_; rintro e w1 ⟨rfl, rfl⟩) | (go_at_call 133; refine (l12Letter_val H1.out _).mono ?_; rintro e w1 ⟨rfl, rfl⟩)
          go_roundw
          case rel => exact ⟨k + 1, by omega, by omega, by go_num, fun j j1 j2 => by (by_cases e : j = k); exact e ▸ HB.out; exact HA.out j j1 (by omega), by trivial⟩
          case measure => simp [intOf]; omega
      · have hld : ldB s k = true := by unfold ldB; rw [dif_pos hlt, h1]; rfl
        have HB := hid hld
        have H1 := hid h1
        clear hld h1
        go_wp2_with first | (go_at_call 133; refine (l12Letter_val H1.out _).mono ?_; rintro e w1 ⟨rfl, rfl⟩)
        go_roundw
        case rel => exact ⟨k + 1, by omega, by omega, by go_num, fun j j1 j2 => by (by_cases e : j = k); exact e ▸ HB.out; exact HA.out j j1 (by omega), by trivial⟩
        case measure => simp [intOf]; omega
    · have hld : ldB s k = false := by unfold ldB; rw [dif_neg hlt]
      have HB := hid hld
      have hok := HF.out ⟨hks, hld⟩
      clear hld
      go_wp2
      refine bodyPost_ret (v := .tuple #[Tok.val ⟨2, s.extract o k, 0, o⟩, .int .i64 (k : Nat), .bool (decide ((k : Int) - o ≤ 8))]) (by simp [results, Tok.val, Tryz.results104, go_sem, *]) rfl ?_
      exact ⟨k, rfl, ⟨hok, hks, rfl, HT.out k, ⟨by show (-9223372036854775808 : Int) ≤ 0; decide, by show (0 : Int) ≤ 9223372036854775807; decide⟩, by show (1 : Int) ≤ 2; decide, by show (2 : Int) ≤ 3; decide⟩, HA.out, HB.out, (by repeat (first | with_reducible assumption | with_reducible exact Ext.refl _ | with_reducible apply Ext.alloc | with_reducible apply Ext.drew | with_reducible apply Ext.drewN | (with_reducible refine Ext.setCell ?_ (by simp; omega) _) | (with_reducible refine Ext.setCell ?_ (by simp) _)))⟩
set_option maxRecDepth 20000 in
set_option maxHeartbeats 6400000 in
theorem l12Scan_oth (s : ByteArray) (o : Nat) (w : World) (hs : s.size ≤ 2000) (ho : o < s.size) (hd : digB (s[o].toNat : Nat) = false) (hl : letB (s[o].toNat : Nat) = false) : Calls Tryz.prog 104 #[.string s, .int .i64 (o : Nat)] w fun e w' => ∃ (t : Tok) (k : Nat) (b : Bool), e = .returned (.tuple #[t.val, .int .i64 (k : Nat), .bool b]) ∧ (b = true → t = ⟨3, s.extract o (o + 1), 0, o⟩ ∧ k = o + 1) ∧ (((s[o].toNat : Nat) : Int) ∈ symL → b = true) ∧ Ext w w' := by
  obtain ⟨c, hc⟩ : ∃ c : Int, ((s[o].toNat : Nat) : Int) = c := ⟨_, rfl⟩
  rw [hc] at hd hl ⊢
  have HD := hid hd
  have HL := hid hl
  have htok : ∀ q, (s.extract o q).size ≤ 2000 := fun q => Nat.le_trans (extract_le s o q) hs
  have HT := hid htok
  clear hd hl htok
  have kc : (Go.convert 22 22 (.slice (some ⟨w.heap.size + 1, 0, none⟩) 9 9)).run Tryz.prog ((w.alloc (.cells #[.int .i64 0, .string ⟨#[]⟩, .int .i64 0, .int .i64 0] 145)).alloc (.cells #[.int .u8 43, .int .u8 45, .int .u8 42, .int .u8 47, .int .u8 40, .int .u8 41, .int .u8 44, .int .u8 61, .int .u8 59] 5)) = .ok (.slice (some ⟨w.heap.size + 1, 0, none⟩) 9 9) ((w.alloc (.cells #[.int .i64 0, .string ⟨#[]⟩, .int .i64 0, .int .i64 0] 145)).alloc (.cells #[.int .u8 43, .int .u8 45, .int .u8 42, .int .u8 47, .int .u8 40, .int .u8 41, .int .u8 44, .int .u8 61, .int .u8 59] 5 (9, 10))) := by
    have := Lib.run_convert_bytes_const (P := Tryz.prog) (w.alloc (.cells #[.int .i64 0, .string ⟨#[]⟩, .int .i64 0, .int .i64 0] 145)) 22 5 #[.int .u8 43, .int .u8 45, .int .u8 42, .int .u8 47, .int .u8 40, .int .u8 41, .int .u8 44, .int .u8 61, .int .u8 59] 9 9 Tryz.underlying22 Tryz.underlying5
    simp only [World.size_alloc] at this
    exact this
  have BX := Bx.made w #[.int .i64 0, .string ⟨#[]⟩, .int .i64 0, .int .i64 0] 145
  have x1 : Ext (w.alloc (.cells #[.int .i64 0, .string ⟨#[]⟩, .int .i64 0, .int .i64 0] 145)) ((w.alloc (.cells #[.int .i64 0, .string ⟨#[]⟩, .int .i64 0, .int .i64 0] 145)).alloc (.cells #[.int .u8 43, .int .u8 45, .int .u8 42, .int .u8 47, .int .u8 40, .int .u8 41, .int .u8 44, .int .u8 61, .int .u8 59] 5 (9, 10))) := (by repeat (with_reducible (first | assumption | exact Ext.refl _ | apply Ext.alloc | apply Ext.drew | apply Ext.drewN)))
  have BX1 := BX.ext x1
  have X0 : Ext w ((w.alloc (.cells #[.int .i64 0, .string ⟨#[]⟩, .int .i64 0, .int .i64 0] 145)).alloc (.cells #[.int .u8 43, .int .u8 45, .int .u8 42, .int .u8 47, .int .u8 40, .int .u8 41, .int .u8 44, .int .u8 61, .int .u8 59] 5 (9, 10))) := (by repeat (with_reducible (first | assumption | exact Ext.refl _ | apply Ext.alloc | apply Ext.drew | apply Ext.drewN)))
  have hcell : ∀ (j : Nat) (y : Int), symL[j]? = some y → ((w.alloc (.cells #[.int .i64 0, .string ⟨#[]⟩, .int .i64 0, .int .i64 0] 145)).alloc (.cells #[.int .u8 43, .int .u8 45, .int .u8 42, .int .u8 47, .int .u8 40, .int .u8 41, .int .u8 44, .int .u8 61, .int .u8 59] 5 (9, 10))).cell? ⟨w.heap.size + 1, j, none⟩ = some (.int .u8 y) := by
    intro j y hy
    have hb : ((w.alloc (.cells #[.int .i64 0, .string ⟨#[]⟩, .int .i64 0, .int .i64 0] 145)).alloc (.cells #[.int .u8 43, .int .u8 45, .int .u8 42, .int .u8 47, .int .u8 40, .int .u8 41, .int .u8 44, .int .u8 61, .int .u8 59] 5 (9, 10))).heap[w.heap.size + 1]? = some (.cells (symL.map (Value.int .u8)).toArray 5 (9, 10)) := by
      have := heap_alloc_new (w.alloc (.cells #[.int .i64 0, .string ⟨#[]⟩, .int .i64 0, .int .i64 0] 145)) (.cells #[.int .u8 43, .int .u8 45, .int .u8 42, .int .u8 47, .int .u8 40, .int .u8 41, .int .u8 44, .int .u8 61, .int .u8 59] 5 (9, 10))
      rw [World.size_alloc] at this
      exact this
    simp only [World.cell?, hb]
    simp [hy]
  generalize ((w.alloc (.cells #[.int .i64 0, .string ⟨#[]⟩, .int .i64 0, .int .i64 0] 145)).alloc (.cells #[.int .u8 43, .int .u8 45, .int .u8 42, .int .u8 47, .int .u8 40, .int .u8 41, .int .u8 44, .int .u8 61, .int .u8 59] 5 (9, 10))) = W at BX1 X0 hcell x1 kc
  have HC := hid hcell
  clear hcell x1
  go_enter Tryz.func104, Tryz.ntmps104
  go_wp2_with first | (go_at_call 131; refine (l12Digit_val HD.out _).mono ?_; rintro e w1 ⟨rfl, rfl⟩) | (go_at_call 133; refine (l12Letter_val HL.out _).mono ?_; rintro e w1 ⟨rfl, rfl⟩)
  clear kc BX
  have HK := hid hc
  clear hc
  go_loopw [70] (fun i wr => ∃ k : Nat, k ≤ 9 ∧ i = .int .i64 (k : Nat) ∧ (∀ j, j < k → symL[j]? ≠ some c) ∧ wr = W) (fun i _ => 9 - (intOf i).toNat)
  case atStart => exact ⟨0, by omega, rfl, fun j h => by omega, rfl⟩
  case round =>
    obtain ⟨k, hk, rfl, hall, rfl⟩ := hrel
    have HA := hid hall
    clear hall
    have bx := BX1.lt
    have bx0 := BX1.cell 0
    simp only [List.getElem?_toArray, List.getElem?_cons_zero, List.getElem?_cons_succ] at bx0
    have bx1 := BX1.cell 1
    simp only [List.getElem?_toArray, List.getElem?_cons_zero, List.getElem?_cons_succ] at bx1
    have bx2 := BX1.cell 2
    simp only [List.getElem?_toArray, List.getElem?_cons_zero, List.getElem?_cons_succ] at bx2
    have bx3 := BX1.cell 3
    simp only [List.getElem?_toArray, List.getElem?_cons_zero, List.getElem?_cons_succ] at bx3
    have bxf0 := BX1.frozen 0
    have bxf1 := BX1.frozen 1
    have bxf2 := BX1.frozen 2
    have bxf3 := BX1.frozen 3
    by_cases hlt : k < 9
    · obtain ⟨y, hy⟩ : ∃ y, symL[k]? = some y := ⟨symL[k]'(by simpa [symL] using hlt), by simp⟩
      have hcell := HC.out k y hy
      have hb2 : w.heap.size + 1 < wr.heap.size := World.block_lt_of_cell? _ _ hcell
      have HY := hid hy
      clear hy
      by_cases hyc : y = c
      · subst hyc
        go_wp2
        refine bodyPost_ret (v := .tuple #[Tok.val ⟨3, s.extract o (o + 1), 0, o⟩, .int .i64 ((o : Int) + 1), .bool true]) (by simp [results, Tok.val, Tryz.results104, go_sem, *]) rfl ?_
        exact ⟨_, o + 1, true, by go_num, fun _ => ⟨rfl, rfl⟩, fun _ => rfl, (by repeat (first | with_reducible assumption | with_reducible exact Ext.refl _ | with_reducible apply Ext.alloc | with_reducible apply Ext.drew | with_reducible apply Ext.drewN | (with_reducible refine Ext.setCell ?_ (by simp; omega) _) | (with_reducible refine Ext.setCell ?_ (by simp) _)))⟩
      · have hyb : (y == c) = false := beq_eq_false_iff_ne.2 hyc
        go_wp2
        go_roundw
        case rel => exact ⟨k + 1, by omega, by go_num, fun j hj => by (by_cases e : j = k); exact e ▸ (fun h => hyc (by rw [HY.out] at h; simpa using h)); exact HA.out j (by omega), by trivial⟩
        case measure => simp [intOf]; omega
    · obtain rfl : k = 9 := by omega
      have hno : c ∉ symL := fun h => by
        obtain ⟨j, hj, e⟩ := List.getElem_of_mem h
        exact HA.out j (by simpa [symL] using hj) (by rw [List.getElem?_eq_getElem hj, e])
      have HN := hid hno
      clear hno
      go_wp2
      refine bodyPost_ret (v := .tuple #[Tok.val ⟨0, ⟨#[]⟩, 0, 0⟩, .int .i64 (o : Nat), .bool false]) (by simp [results, Tok.val, Tryz.results104, go_sem, *]) rfl ?_
      exact ⟨_, o, false, rfl, (fun h => nomatch h), (fun h => absurd h HN.out), (by repeat (first | with_reducible assumption | with_reducible exact Ext.refl _ | with_reducible apply Ext.alloc | with_reducible apply Ext.drew | with_reducible apply Ext.drewN | (with_reducible refine Ext.setCell ?_ (by simp; omega) _) | (with_reducible refine Ext.setCell ?_ (by simp) _)))⟩
end Go.Proofs.YtaegmenjgjdimaaGreat
end

section
/- This text gathers what the scanner of one token hands back, and follows it over the text "color = u;". -/
namespace Go.Proofs.YtaegmenjgjdimaaGreat
open Go.RowKit

/-- what a scan of names and symbols is exactly -/
structure ScanE (s : ByteArray) (o : Nat) (ho : o < s.size) (t : Tok) (k : Nat) (b : Bool) : Prop where
  lets : letB (s[o].toNat : Nat) = true → t = ⟨2, s.extract o k, 0, o⟩ ∧ b = decide ((k : Int) - o ≤ 8) ∧ (∀ j, o ≤ j → j < k → ldB s j = true) ∧ ldB s k = false ∧ o < k
  syms : digB (s[o].toNat : Nat) = false → letB (s[o].toNat : Nat) = false → ((s[o].toNat : Nat) : Int) ∈ symL → b = true ∧ t = ⟨3, s.extract o (o + 1), 0, o⟩ ∧ k = o + 1
theorem let_dig {x : Int} (h : letB x = true) : digB x = false := by
  have h1 := inB_iff.1 h
  cases h2 : digB x
  · rfl
  · have := inB_iff.1 h2
    omega
theorem l12Scan_any (s : ByteArray) (o : Nat) (w : World) (hs : s.size ≤ 2000) (ho : o < s.size) : Calls Tryz.prog 104 #[.string s, .int .i64 (o : Nat)] w fun e w' => ∃ (t : Tok) (k : Nat) (b : Bool), e = .returned (.tuple #[t.val, .int .i64 (k : Nat), .bool b]) ∧ (b = true → ScanR s o t k) ∧ ScanE s o ho t k b ∧ Ext w w' := by
  cases hd : digB (s[o].toNat : Nat)
  · cases hl : letB (s[o].toNat : Nat)
    · refine (l12Scan_oth s o w hs ho hd hl).mono ?_
      rintro e w1 ⟨t, k, b, rfl, h1, h2, x⟩
      refine ⟨t, k, b, rfl, fun hb => ?_, ⟨(fun h => by rw [hl] at h; cases h), fun _ _ hm => ⟨h2 hm, (h1 (h2 hm)).1, (h1 (h2 hm)).2⟩⟩, x⟩
      obtain ⟨rfl, rfl⟩ := h1 hb
      exact ⟨by omega, by omega, rfl, Nat.le_trans (extract_le s o (o + 1)) hs, ⟨by show (-9223372036854775808 : Int) ≤ 0; decide, by show (0 : Int) ≤ 9223372036854775807; decide⟩, by show (1 : Int) ≤ 3; decide, by show (3 : Int) ≤ 3; decide⟩
    · refine (l12Scan_let s o w hs ho hd hl).mono ?_
      rintro e w1 ⟨k, rfl, h1, h2, h3, x⟩
      exact ⟨_, k, _, rfl, fun _ => h1, ⟨fun _ => ⟨rfl, rfl, h2, h3, h1.lt⟩, (fun _ h => by rw [hl] at h; cases h)⟩, x⟩
  · refine (l12Scan_dig s o w hs ho hd).mono ?_
    rintro e w1 ⟨t, k, b, rfl, h1, x⟩
    exact ⟨t, k, b, rfl, fun _ => h1, ⟨(fun h => by rw [let_dig h] at hd; cases hd), (fun h => by rw [hd] at h; cases h)⟩, x⟩

def cuS : ByteArray := ⟨#[99, 111, 108, 111, 114, 32, 61, 32, 117, 59]⟩
def cuT : List Tok := [⟨2, ⟨#[99, 111, 108, 111, 114]⟩, 0, 0⟩, ⟨3, ⟨#[61]⟩, 0, 6⟩, ⟨2, ⟨#[117]⟩, 0, 8⟩, ⟨3, ⟨#[59]⟩, 0, 9⟩]
/-- where the lexer may stand in that text, and its tokens up to there -/
def CuSt (o : Nat) (out : List Tok) : Prop := (o = 0 ∧ out = []) ∨ (o = 5 ∧ out = cuT.take 1) ∨ (o = 6 ∧ out = cuT.take 1) ∨ (o = 7 ∧ out = cuT.take 2) ∨ (o = 8 ∧ out = cuT.take 2) ∨ (o = 9 ∧ out = cuT.take 3) ∨ (o = 10 ∧ out = cuT.take 4)
theorem cu_size : cuS.size = 10 := rfl
theorem cu_end {o k e : Nat} (h1 : ∀ j, o ≤ j → j < k → ldB cuS j = true) (h2 : ldB cuS k = false) (hk : o < k) (he : ldB cuS e = false) (hoe : o ≤ e) (hall : ∀ j, o < j → j < e → ldB cuS j = true) : k = e := by
  rcases Nat.lt_trichotomy k e with h | h | h
  · rw [hall k hk h] at h2; cases h2
  · exact h
  · rw [h1 e hoe h] at he; cases he
/-- a separator -/
def sepB (x : Int) : Bool := decide (x = 32) || decide (x = 10)
theorem cu_step {o : Nat} {out : List Tok} (h : CuSt o out) (ho : o < cuS.size) : (sepB (cuS[o].toNat : Nat) = true → CuSt (o + 1) out) ∧ (sepB (cuS[o].toNat : Nat) = false → ∀ (t : Tok) (k : Nat) (b : Bool), ScanE cuS o ho t k b → b = true ∧ CuSt k (out ++ [t])) := by
  rcases h with ⟨rfl, rfl⟩ | ⟨rfl, rfl⟩ | ⟨rfl, rfl⟩ | ⟨rfl, rfl⟩ | ⟨rfl, rfl⟩ | ⟨rfl, rfl⟩ | ⟨rfl, rfl⟩
  · have e : (cuS[0]'ho).toNat = 99 := rfl
    refine ⟨(fun h => by rw [e] at h; exact absurd h (by decide)), fun _ t k b hE => ?_⟩
    obtain ⟨rfl, rfl, h1, h2, hk⟩ := hE.lets (by rw [e]; decide)
    obtain rfl := cu_end h1 h2 hk (e := 5) (by decide) (by decide) (by
      intro j j1 j2
      rcases (show j = 1 ∨ j = 2 ∨ j = 3 ∨ j = 4 by omega) with rfl | rfl | rfl | rfl <;> decide)
    exact ⟨by decide, .inr (.inl ⟨rfl, rfl⟩)⟩
  · have e : (cuS[5]'ho).toNat = 32 := rfl
    exact ⟨fun _ => .inr (.inr (.inl ⟨rfl, rfl⟩)), (fun h => by rw [e] at h; exact absurd h (by decide))⟩
  · have e : (cuS[6]'ho).toNat = 61 := rfl
    refine ⟨(fun h => by rw [e] at h; exact absurd h (by decide)), fun _ t k b hE => ?_⟩
    obtain ⟨rfl, rfl, rfl⟩ := hE.syms (by rw [e]; decide) (by rw [e]; decide) (by rw [e]; decide)
    exact ⟨rfl, .inr (.inr (.inr (.inl ⟨rfl, rfl⟩)))⟩
  · have e : (cuS[7]'ho).toNat = 32 := rfl
    exact ⟨fun _ => .inr (.inr (.inr (.inr (.inl ⟨rfl, rfl⟩)))), (fun h => by rw [e] at h; exact absurd h (by decide))⟩
  · have e : (cuS[8]'ho).toNat = 117 := rfl
    refine ⟨(fun h => by rw [e] at h; exact absurd h (by decide)), fun _ t k b hE => ?_⟩
    obtain ⟨rfl, rfl, h1, h2, hk⟩ := hE.lets (by rw [e]; decide)
    obtain rfl := cu_end h1 h2 hk (e := 9) (by decide) (by decide) (by intro j j1 j2; omega)
    exact ⟨by decide, .inr (.inr (.inr (.inr (.inr (.inl ⟨rfl, rfl⟩)))))⟩
  · have e : (cuS[9]'ho).toNat = 59 := rfl
    refine ⟨(fun h => by rw [e] at h; exact absurd h (by decide)), fun _ t k b hE => ?_⟩
    obtain ⟨rfl, rfl, rfl⟩ := hE.syms (by rw [e]; decide) (by rw [e]; decide) (by rw [e]; decide)
    exact ⟨rfl, .inr (.inr (.inr (.inr (.inr (.inr ⟨rfl, rfl⟩)))))⟩
  · exact absurd ho (by decide)
end Go.Proofs.YtaegmenjgjdimaaGreat
end

section
/- This text proves the reference's Tokenize: what its tokens are at least, and what they are at the text "color = u;". -/
namespace Go.Proofs.YtaegmenjgjdimaaGreat
open Go.RowKit

/-- what is asked of a token that is not the last -/
def TokG (t : Tok) : Prop := 1 ≤ t.kind ∧ t.kind ≤ 3 ∧ t.text.size ≤ 2000 ∧ I64 t.num ∧ 0 ≤ t.off ∧ t.off ≤ 2000
/-- tokens that end with the mark of the end -/
def Toks (tk : List Tok) : Prop := ∃ (ts : List Tok) (n : Int), tk = ts ++ [⟨0, ⟨#[]⟩, 0, n⟩] ∧ (∀ t ∈ ts, TokG t) ∧ 0 ≤ n ∧ n ≤ 2000 ∧ ts.length ≤ 2000
set_option maxRecDepth 20000 in
set_option maxHeartbeats 6400000 in
theorem sTokenize_any (s : ByteArray) (w : World) (hs : s.size ≤ maxLen) : Calls Tryz.prog 70 #[.string s] w fun e w' => ∃ (v : Value) (n : Int), e = .returned (.tuple #[v, .int .i64 n]) ∧ Ext w w' ∧ (s = cuS → n = -1) ∧ (0 ≤ n ∨ (n = -1 ∧ ∃ tk, OwnToks w.heap.size w' v tk ∧ Toks tk ∧ (s = cuS → tk = cuT ++ [⟨0, ⟨#[]⟩, 0, 10⟩]))) := by
  unfold maxLen at hs
  by_cases hl : s.size > 2000
  · have hne : s ≠ cuS := fun e => by rw [e, cu_size] at hl; omega
    go_enter Tryz.func70, Tryz.ntmps70
    go_wp2
    go_ret2
    exact ⟨_, _, rfl, Ext.refl _, fun e => absurd e hne, .inl (by decide)⟩
  · have hs2 : s.size ≤ 2000 := by omega
    have hown : OwnToks w.heap.size (w.alloc (.cells #[] 145)) (.slice (some ⟨w.heap.size, 0, none⟩) 0 0) [] := ⟨rfl, .inr ⟨w.heap.size, 0, #[], rfl, Nat.le_refl _, heap_alloc_new w _, Nat.le_refl _, by unfold maxLen; omega, rfl, rfl⟩⟩
    have HO := hid hown
    clear hown
    go_enter Tryz.func70, Tryz.ntmps70
    go_wp2
    go_loopw [4, 5] (fun v i wr => ∃ (k : Nat) (ts : List Tok), k ≤ s.size ∧ i = .int .i64 (k : Nat) ∧ OwnToks w.heap.size wr v ts ∧ (∀ t ∈ ts, TokG t) ∧ ts.length ≤ k ∧ (s = cuS → CuSt k ts) ∧ Ext w wr) (fun _ i _ => s.size - (intOf i).toNat)
    case atStart => exact ⟨0, [], by omega, rfl, HO.out, (fun t h => nomatch h), Nat.le_refl _, fun _ => .inl ⟨rfl, rfl⟩, (by repeat (with_reducible (first | assumption | exact Ext.refl _ | apply Ext.alloc | apply Ext.drew | apply Ext.drewN)))⟩
    case round =>
      obtain ⟨k, ts, hk, rfl, hown, hall, htl, hcu, hx⟩ := hrel
      have HO2 := hid hown
      have HA := hid hall
      have HC := hid hcu
      have HX := hid hx
      obtain ⟨va, vc, rfl, -⟩ := hown.form
      have zx := hx.size
      clear hown hall hcu hx HO
      by_cases hlt : k < s.size
      · cases hsp : sepB (s[k].toNat : Nat)
        · have h32 : ¬ ((s[k].toNat : Nat) : Int) = 32 := fun e => by rw [e] at hsp; cases hsp
          have h10 : ¬ ((s[k].toNat : Nat) : Int) = 10 := fun e => by rw [e] at hsp; cases hsp
          have HS := hid hsp
          have e32 : (((s[k].toNat : Nat) : Int) == 32) = false := beq_eq_false_iff_ne.2 h32
          have e10 : (((s[k].toNat : Nat) : Int) == 10) = false := beq_eq_false_iff_ne.2 h10
          clear hsp h32 h10
          go_wp2_with fail
          refine (l12Scan_any s k wr hs2 hlt).mono ?_
          rintro e w1 ⟨t, k2, b, rfl, hR, hE, x1⟩
          simp only [Tok.val]
          have hcu2 : s = cuS → b = true ∧ CuSt k2 (ts ++ [t]) := fun e => by
            subst e
            exact (cu_step (HC.out rfl) hlt).2 HS.out t k2 b hE
          have HC2 := hid hcu2
          have z1 := x1.size
          clear hE hcu2
          cases b
          · go_wp2
            go_ret2
            exact ⟨_, _, rfl, (show Ext w _ from HX.out.trans (x1.trans (by repeat (with_reducible (first | assumption | exact Ext.refl _ | apply Ext.alloc | apply Ext.drew | apply Ext.drewN))))), (fun e => by have := (HC2.out e).1; cases this), .inl (by omega)⟩
          · have R := hR rfl
            have HR := hid R
            have k2s := R.le
            have kk2 := R.lt
            have HO3 := hid (HO2.out.ext x1 : OwnToks w.heap.size w1 (.slice va ts.length vc) ts)
            clear hR R
            have B2 : Blk ((w1.alloc (.cells #[.int .i64 t.kind, .string t.text, .int .i64 t.num, .int .i64 t.off] 145)).alloc (.cells #[.int .i64 t.kind, .string t.text, .int .i64 t.num, .int .i64 t.off] 145)) (w1.heap.size + 1) 145 [.int .i64 t.kind, .string t.text, .int .i64 t.num, .int .i64 t.off] := by
              have := Blk.new (w1.alloc (.cells #[.int .i64 t.kind, .string t.text, .int .i64 t.num, .int .i64 t.off] 145)) 145 [.int .i64 t.kind, .string t.text, .int .i64 t.num, .int .i64 t.off]
              rw [World.size_alloc] at this
              exact this
            have y2 : Ext w1 ((w1.alloc (.cells #[.int .i64 t.kind, .string t.text, .int .i64 t.num, .int .i64 t.off] 145)).alloc (.cells #[.int .i64 t.kind, .string t.text, .int .i64 t.num, .int .i64 t.off] 145)) := (by repeat (with_reducible (first | assumption | exact Ext.refl _ | apply Ext.alloc | apply Ext.drew | apply Ext.drewN)))
            have X2 := HX.out.trans (x1.trans y2)
            have HO4 := hid (OwnG.ext HO3.out y2)
            have HB2 := hid B2
            have HX2 := hid X2
            clear B2 y2 X2 HO3 x1
            go_wp2_with (at_builtin; refine wpList_append_tok _ rfl _ _ rfl w.heap.size (.slice va ts.length vc) ts rfl HO4.out t (w1.heap.size + 1) rfl ⟨HB2.out.cell 0 rfl, HB2.out.cell 1 rfl, HB2.out.cell 2 rfl, HB2.out.cell 3 rfl⟩ (by omega) (by simp; omega) ?_; intro v' w2 hown hg)
            have X3 := hid (HX2.out.grown hg (fun q hq => (OwnG.lt HO4.out q hq).1))
            obtain ⟨va', vc', rfl, -⟩ := OwnG.form hown
            have HO5 := hid hown
            clear hown hg
            go_wp2
            go_roundw
            case rel => exact ⟨k2, ts ++ [t], by omega, rfl, HO5.out, (fun x hx => by
              rcases List.mem_append.1 hx with h | h
              · exact HA.out x h
              · simp only [List.mem_cons, List.not_mem_nil, or_false] at h
                subst h
                have R := HR.out
                exact ⟨R.kind.1, R.kind.2, R.text, R.num, by rw [R.off]; omega, by rw [R.off]; omega⟩), by simp; omega, (fun e => (HC2.out e).2), X3.out⟩
            case measure => simp [intOf]; omega
        · have HS := hid hsp
          have hor : (((s[k].toNat : Nat) : Int) == 32 || ((s[k].toNat : Nat) : Int) == 10) = true := by
            unfold sepB at hsp
            simpa using hsp
          clear hsp
          by_cases e : ((s[k].toNat : Nat) : Int) = 32
          · have e32 : (((s[k].toNat : Nat) : Int) == 32) = true := beq_iff_eq.2 e
            have HE := hid e
            clear e hor
            go_wp2
            go_roundw
            case rel => exact ⟨k + 1, ts, by omega, by go_num, HO2.out, HA.out, by omega, (fun e => by subst e; exact (cu_step (HC.out rfl) hlt).1 HS.out), HX.out⟩
            case measure => simp [intOf]; omega
          · have e32 : (((s[k].toNat : Nat) : Int) == 32) = false := beq_eq_false_iff_ne.2 e
            have e10 : (((s[k].toNat : Nat) : Int) == 10) = true := by rw [e32] at hor; simpa using hor
            have HE := hid e
            clear e hor
            go_wp2
            go_roundw
            case rel => exact ⟨k + 1, ts, by omega, by go_num, HO2.out, HA.out, by omega, (fun e => by subst e; exact (cu_step (HC.out rfl) hlt).1 HS.out), HX.out⟩
            case measure => simp [intOf]; omega
      · obtain rfl : k = s.size := by omega
        have B2 := Blk.new wr 145 [.int .i64 0, .string ⟨#[]⟩, .int .i64 0, .int .i64 (s.size : Nat)]
        have y2 : Ext wr (wr.alloc (.cells #[.int .i64 0, .string ⟨#[]⟩, .int .i64 0, .int .i64 (s.size : Nat)] 145)) := (by repeat (with_reducible (first | assumption | exact Ext.refl _ | apply Ext.alloc | apply Ext.drew | apply Ext.drewN)))
        have X2 := HX.out.trans y2
        have HO4 := hid (OwnG.ext HO2.out y2)
        have HB2 := hid B2
        have HX2 := hid X2
        clear B2 y2 X2
        go_wp2_with (at_builtin; refine wpList_append_tok _ rfl _ _ rfl w.heap.size (.slice va ts.length vc) ts rfl HO4.out ⟨0, ⟨#[]⟩, 0, (s.size : Nat)⟩ wr.heap.size rfl ⟨HB2.out.cell 0 rfl, HB2.out.cell 1 rfl, HB2.out.cell 2 rfl, HB2.out.cell 3 rfl⟩ (by omega) (by simp; omega) ?_; intro v' w2 hown hg)
        have X3 := hid (HX2.out.grown hg (fun q hq => (OwnG.lt HO4.out q hq).1))
        have HO5 := hid hown
        clear hown hg
        go_wp2
        go_ret2
        refine ⟨v', -1, rfl, X3.out, fun _ => rfl, .inr ⟨rfl, _, HO5.out, ⟨ts, _, rfl, HA.out, by omega, by omega, by omega⟩, fun e => ?_⟩⟩
        subst e
        rcases HC.out rfl with h | h | h | h | h | h | h
        · exact absurd h.1 (by decide)
        · exact absurd h.1 (by decide)
        · exact absurd h.1 (by decide)
        · exact absurd h.1 (by decide)
        · exact absurd h.1 (by decide)
        · exact absurd h.1 (by decide)
        · rw [h.2]; rfl
end Go.Proofs.YtaegmenjgjdimaaGreat
end

section
/- This text holds the memory of the reference's parser and proves its small steps: the look at the next token, the record of an error. -/
namespace Go.Proofs.YtaegmenjgjdimaaGreat
open Go.RowKit

/-- what is asked of a node under way -/
def NdG (x : Nd) : Prop := I64 x.op ∧ I64 x.num ∧ x.name.size ≤ 2000 ∧ x.args.length ≤ 3
/-- block B is the parser's state, at token k of tk, with the nodes ns and the assignments gs -/
structure Pst (lo : Nat) (X : Nat → Prop) (B : Nat) (tk : List Tok) (gs : List Asg) (w : World) (k : Nat) (ns : List Nd) (bad : Int) (tv nv gv : Value) : Prop where
  box : Blk w B 143 [tv, .int .i64 (k : Nat), nv, gv, .int .i64 bad]
  low : lo ≤ B
  toks : OwnToks lo w tv tk
  nds : OwnNds lo X w nv ns
  asgs : OwnAsgs lo w gv gs
  ends : Toks tk
  here : k < tk.length
  len : ns.length ≤ 60
  good : ∀ x ∈ ns, NdG x
  b64 : I64 bad
  xlt : ∀ b, X b → b < w.heap.size
theorem Pst.ext {lo B : Nat} {X : Nat → Prop} {tk : List Tok} {gs : List Asg} {w w' : World} {k : Nat} {ns : List Nd} {bad : Int} {tv nv gv : Value} (h : Pst lo X B tk gs w k ns bad tv nv gv) (x : Ext w w') : Pst lo X B tk gs w' k ns bad tv nv gv :=
  ⟨h.box.ext x, h.low, OwnG.ext h.toks x, h.nds.ext x, OwnG.ext h.asgs x, h.ends, h.here, h.len, h.good, h.b64, fun b hb => Nat.lt_of_lt_of_le (h.xlt b hb) x.size⟩
/-- the token at which the parser stands -/
theorem Toks.at {tk : List Tok} (h : Toks tk) {k : Nat} (hk : k < tk.length) : ∃ t, tk[k]? = some t ∧ I64 t.kind ∧ t.text.size ≤ 2000 ∧ I64 t.num ∧ 0 ≤ t.off ∧ t.off ≤ 2000 ∧ (t.kind ≠ 0 → k + 1 < tk.length) := by
  obtain ⟨ts, n, rfl, h1, h2, h3, h4⟩ := h
  refine ⟨_, List.getElem?_eq_getElem hk, ?_⟩
  rw [List.getElem_append]
  split
  · rename_i hlt
    obtain ⟨g1, g2, g3, g4, g5, g6⟩ := h1 _ (List.getElem_mem hlt)
    exact ⟨⟨by omega, by omega⟩, g3, g4, g5, g6, fun _ => by simp; omega⟩
  · simp
    exact ⟨⟨by decide, by decide⟩, by decide, ⟨by decide, by decide⟩, h2, h3⟩
def peekB (t : Tok) : ByteArray := if t.kind = 3 then t.text else ⟨#[]⟩
set_option maxRecDepth 20000 in
set_option maxHeartbeats 3200000 in
theorem sPeek_any {lo B : Nat} {X : Nat → Prop} {tk : List Tok} {gs : List Asg} {w : World} {k : Nat} {ns : List Nd} {bad : Int} {tv nv gv : Value} (h : Pst lo X B tk gs w k ns bad tv nv gv) {t : Tok} (ht : tk[k]? = some t) :
    Calls Tryz.prog 105 #[.pointer (some ⟨B, 0, none⟩)] w fun e w' => e = .returned (.string (peekB t)) ∧ Ext w w' := by
  obtain ⟨g, cap, rfl, g1, g2, g3, g4, _, hc⟩ := OwnG.at h.toks (fun _ => rfl) ht
  have hk := h.here
  have c0 := h.box.cell 0 rfl
  have c1 := h.box.cell 1 rfl
  have z := h.box.lt
  have d0 := hc 0 (by decide)
  have d1 := hc 1 (by decide)
  have d2 := hc 2 (by decide)
  have d3 := hc 3 (by decide)
  simp only [Tok.cs, Nat.add_zero, List.getElem?_cons_zero, List.getElem?_cons_succ] at d0 d1 d2 d3
  have HT := hid ht
  have gne : g ≠ w.heap.size := by omega
  have bne : B ≠ w.heap.size := by omega
  clear h hc ht
  go_enter Tryz.func105, Tryz.ntmps105
  go_wp2
  refine wp_region_stagesS [([0, 1, 2, 3, 4, 5, 6, 7, 8, 9], 10), ([], 11)] 99 (fun w' => ∃ d, w' = lowx (w.heap.size) (w.heap.size) _ d) (by kernel_rfl) (by kernel_rfl) ⟨_, lowx_of (fun _ _ _ => rfl)⟩ ?_
  refine wpStagesS_cons ?_
  simp only [List.filterMap_cons, List.filterMap_nil, List.getElem?_toArray, List.getElem?_cons_zero, List.getElem?_cons_succ]
  show wpQuiet _ _ _ _ [_, _, _, _, _, _, _, _, _, _] _
  repeat (go_big_quiet_step (fail))
  refine wpQuiet_nil ⟨_, rfl, fun K hK => ?_⟩
  go_wp2_with fail
  go_wp2_with fail
  refine hK _ _ (.inr ⟨_, lowx_of (fun b hb _ => Ext.block (show Ext w _ from (by repeat (with_reducible (first | assumption | exact Ext.refl _ | apply Ext.alloc | apply Ext.drew | apply Ext.drewN)))) hb)⟩) ?_
  clear hK K
  refine wpStagesS_cons ?_
  simp only [List.filterMap_nil]
  show wpQuiet _ _ _ _ [] _
  try simp only [Act.put, List.setIfInBounds_toArray, List.set_cons_succ, List.set_cons_zero]
  repeat (go_big_quiet_step (fail))
  refine wpQuiet_nil ⟨_, rfl, fun K hK => ?_⟩
  go_wp2_with fail
  go_wp2_with fail
  refine hK _ _ (.inr ⟨_, lowx_of (fun b hb _ => Ext.block (show Ext w _ from (by repeat (first | with_reducible assumption | with_reducible exact Ext.refl _ | with_reducible apply Ext.alloc | with_reducible apply Ext.drew | with_reducible apply Ext.drewN | (with_reducible refine Ext.setCell ?_ (by simp; omega) _) | (with_reducible refine Ext.setCell ?_ (by simp) _)))) hb)⟩) ?_
  clear hK K
  refine wpStagesS_nil ?_
  by_cases h3 : t.kind = 3
  · have hp : peekB t = t.text := by unfold peekB; rw [if_pos h3]
    have HP := hid hp
    have e3 : (t.kind == 3) = true := beq_iff_eq.2 h3
    clear hp h3
    go_wp2
    go_ret
    exact ⟨by rw [HP.out]; rfl, (by repeat (with_reducible (first | assumption | exact Ext.refl _ | apply Ext.alloc | apply Ext.drew | apply Ext.drewN)))⟩
  · have hp : peekB t = ⟨#[]⟩ := by unfold peekB; rw [if_neg h3]
    have HP := hid hp
    have e3 : (t.kind == 3) = false := beq_eq_false_iff_ne.2 h3
    clear hp h3
    go_wp2
    go_ret
    exact ⟨by rw [HP.out]; rfl, (by repeat (with_reducible (first | assumption | exact Ext.refl _ | apply Ext.alloc | apply Ext.drew | apply Ext.drewN)))⟩
/-- the error's place is recorded -/
theorem Pst.setBad {lo B : Nat} {X : Nat → Prop} {tk : List Tok} {gs : List Asg} {w : World} {k : Nat} {ns : List Nd} {bad : Int} {tv nv gv : Value} (h : Pst lo X B tk gs w k ns bad tv nv gv) {z : Int} (hz : I64 z) : Pst lo X B tk gs (w.setCell ⟨B, 4, none⟩ (.int .i64 z)) k ns z tv nv gv :=
  ⟨h.box.set 4 _, h.low, OwnG.set h.toks h.box (by decide) 4 _, OwnNds.set h.nds h.box (by decide) (by decide) 4 _, OwnG.set h.asgs h.box (by decide) 4 _, h.ends, h.here, h.len, h.good, hz, fun b hb => by rw [World.size_setCell]; exact h.xlt b hb⟩
/-- the parser goes to token q -/
theorem Pst.setAt {lo B : Nat} {X : Nat → Prop} {tk : List Tok} {gs : List Asg} {w : World} {k : Nat} {ns : List Nd} {bad : Int} {tv nv gv : Value} (h : Pst lo X B tk gs w k ns bad tv nv gv) {q : Nat} (hq : q < tk.length) : Pst lo X B tk gs (w.setCell ⟨B, 1, none⟩ (.int .i64 (q : Nat))) q ns bad tv nv gv :=
  ⟨h.box.set 1 _, h.low, OwnG.set h.toks h.box (by decide) 1 _, OwnNds.set h.nds h.box (by decide) (by decide) 1 _, OwnG.set h.asgs h.box (by decide) 1 _, h.ends, hq, h.len, h.good, h.b64, fun b hb => by rw [World.size_setCell]; exact h.xlt b hb⟩
end Go.Proofs.YtaegmenjgjdimaaGreat
end

section
/- This text proves the parser's record of an error, and its step over a symbol. -/
namespace Go.Proofs.YtaegmenjgjdimaaGreat
open Go.RowKit

/-- what the record of an error reads: the tokens, and two cells of the state -/
def CFl (B g : Nat) : Addr → Prop := fun a => a.block = g ∨ a = ⟨B, 0, none⟩ ∨ a = ⟨B, 1, none⟩
@[go_sem] theorem CFl_g (B g o : Nat) : CFl B g ⟨g, o, none⟩ := .inl rfl
@[go_sem] theorem CFl_0 (B g : Nat) : CFl B g ⟨B, 0, none⟩ := .inr (.inl rfl)
@[go_sem] theorem CFl_1 (B g : Nat) : CFl B g ⟨B, 1, none⟩ := .inr (.inr rfl)
set_option maxRecDepth 20000 in
set_option maxHeartbeats 3200000 in
theorem sFail_any {lo B : Nat} {X : Nat → Prop} {tk : List Tok} {gs : List Asg} {w : World} {k : Nat} {ns : List Nd} {bad : Int} {tv nv gv : Value} (h : Pst lo X B tk gs w k ns bad tv nv gv) :
    Calls Tryz.prog 71 #[.pointer (some ⟨B, 0, none⟩)] w fun e w' => ∃ z, e = .returned (.int .i64 0) ∧ 0 ≤ z ∧ Pst lo X B tk gs w' k ns z tv nv gv ∧ KN lo B 79 w w' := by
  have HP := hid h
  obtain ⟨t, ht, _, _, _, o1, o2, _⟩ := h.ends.at h.here
  obtain ⟨g, cap, rfl, g1, g2, g3, g4, ⟨cg, hcg⟩, hc⟩ := OwnG.at h.toks (fun _ => rfl) ht
  have gB : g ≠ B := fun e => by
    subst e
    have hb := h.box
    unfold Blk at hb
    rw [hcg] at hb
    simp only [Option.some.injEq, Obj.cells.injEq] at hb
    exact absurd hb.2.1 (by decide)
  have hk := h.here
  have c0 := h.box.cell 0 rfl
  have c1 := h.box.cell 1 rfl
  have c4 := h.box.cell 4 rfl
  have f4 := h.box.free 4
  have z := h.box.lt
  have d3 := hc 3 (by decide)
  simp only [Tok.cs, List.getElem?_cons_zero, List.getElem?_cons_succ] at d3
  have gne : g ≠ w.heap.size := by omega
  have bne : B ≠ w.heap.size := by omega
  have i64 : I64 bad := h.b64
  clear h hc ht
  by_cases hb : bad < 0
  · go_enter Tryz.func71, Tryz.ntmps71
    go_wp2
    refine wp_region_stagesS [([0, 1, 2, 3, 4, 5, 6, 7, 8, 9, 10, 11, 12, 13], 14)] 99 (fun w' => ∃ d, w' = lowc (CFl B g) _ d) (by kernel_rfl) (by kernel_rfl) (SC.drew _ _) ?_
    refine wpStagesS_cons ?_
    simp only [List.filterMap_cons, List.filterMap_nil, List.getElem?_toArray, List.getElem?_cons_zero, List.getElem?_cons_succ]
    show wpQuiet _ _ _ _ [_, _, _, _, _, _, _, _, _, _, _, _, _, _] _
    repeat (go_big_quiet_step (fail))
    refine wpQuiet_nil ⟨_, rfl, fun K hK => ?_⟩
    go_wp2_with fail
    have hsc : SC (CFl B g) w (w.setCell ⟨B, 4, none⟩ (.int .i64 t.off)).drew := SC.of fun a ha => by
      have b4 := HP.out.box.set 4 (.int .i64 t.off)
      rcases ha with ha | rfl | rfl
      · have hh : (w.setCell ⟨B, 4, none⟩ (.int .i64 t.off)).drew.heap[a.block]? = w.heap[a.block]? := Below.heap_setCell _ _ _ _ (by rw [ha]; exact gB)
        exact ⟨World.cell?_of_block hh, World.frozen?_of_block hh⟩
      · exact ⟨(b4.cell 0 rfl).trans (HP.out.box.cell 0 rfl).symm, (b4.free 0).trans (HP.out.box.free 0).symm⟩
      · exact ⟨(b4.cell 1 rfl).trans (HP.out.box.cell 1 rfl).symm, (b4.free 1).trans (HP.out.box.free 1).symm⟩
    refine hK _ _ (.inr hsc) ?_
    clear hK K
    refine wpStagesS_nil ?_
    go_wp2
    go_ret
    have i2 : I64 t.off := ⟨by omega, by omega⟩
    exact ⟨t.off, rfl, o1, (HP.out.setBad i2).ext (by repeat (with_reducible (first | assumption | exact Ext.refl _ | apply Ext.alloc | apply Ext.drew | apply Ext.drewN))), ((KN.refl lo B _ w).set HP.out.low 4 _).ext (by repeat (with_reducible (first | assumption | exact Ext.refl _ | apply Ext.alloc | apply Ext.drew | apply Ext.drewN)))⟩
  · go_enter Tryz.func71, Tryz.ntmps71
    go_wp2
    go_ret
    exact ⟨rfl, bad, by omega, HP.out, KN.refl _ _ _ _⟩
set_option maxRecDepth 20000 in
set_option maxHeartbeats 3200000 in
theorem sExpect_any {lo B : Nat} {X : Nat → Prop} {tk : List Tok} {gs : List Asg} {w : World} {k : Nat} {ns : List Nd} {bad : Int} {tv nv gv : Value} (h : Pst lo X B tk gs w k ns bad tv nv gv) {t : Tok} (ht : tk[k]? = some t) (x : ByteArray) (hx : x ≠ ⟨#[]⟩) :
    Calls Tryz.prog 72 #[.pointer (some ⟨B, 0, none⟩), .string x] w fun e w' => ∃ (b : Bool) (q : Nat) (z : Int), e = .returned (.bool b) ∧ Pst lo X B tk gs w' q ns z tv nv gv ∧ KN lo B 79 w w' ∧ (b = true → q = k + 1 ∧ z = bad) ∧ (b = false → 0 ≤ z) ∧ (peekB t = x → b = true) := by
  have HP := hid h
  have HT := hid ht
  clear h ht
  go_enter Tryz.func72, Tryz.ntmps72
  go_wp2_with fail
  refine (sPeek_any HP.out HT.out).mono ?_
  rintro e w1 ⟨rfl, x1⟩
  have HP1 := hid (HP.out.ext x1)
  have K1 := x1.kn lo B 79
  by_cases he : (peekB t).toList = x.toList
  · have ee : ((peekB t).toList == x.toList) = true := beq_iff_eq.2 he
    have hpx : peekB t = x := by
      rw [Lib.toList_data, Lib.toList_data] at he
      exact ByteArray.ext (Array.ext' he)
    have hne : t.kind ≠ 0 := fun e => by
      have : peekB t = ⟨#[]⟩ := by unfold peekB; rw [if_neg (by omega)]
      exact hx (hpx.symm.trans this)
    obtain ⟨t', ht', _, _, _, _, _, hl⟩ := HP.out.ends.at HP.out.here
    have hte : t' = t := by rw [HT.out] at ht'; simpa using ht'.symm
    have hk1 := hl (hte ▸ hne)
    have HK1 := hid hk1
    have c1 := HP1.out.box.cell 1 rfl
    have f1 := HP1.out.box.free 1
    have z1 := HP1.out.box.lt
    have kb : k ≤ 3000 := by
      obtain ⟨ts, n, e1, _, _, _, e2⟩ := HP.out.ends
      have := HP.out.here
      rw [e1, List.length_append] at this
      simp at this
      omega
    clear he hpx hne ht' hl hte hk1
    go_wp2
    go_ret
    have P2 := HP1.out.setAt HK1.out
    exact ⟨true, k + 1, bad, rfl, by simpa using P2, K1.set HP.out.low 1 _, fun _ => ⟨rfl, rfl⟩, (fun h => nomatch h), fun _ => rfl⟩
  · have ee : ((peekB t).toList == x.toList) = false := beq_eq_false_iff_ne.2 he
    have hpx : peekB t ≠ x := fun e => he (by rw [e])
    have HX := hid hpx
    clear he hpx
    go_wp2_with fail
    refine (sFail_any HP1.out).mono ?_
    rintro e w2 ⟨z, rfl, hz, P2, K2⟩
    have KK := hid (K1.trans K2)
    have HP2 := hid P2
    clear P2 K2 K1
    go_wp2
    go_ret
    exact ⟨false, k, z, rfl, HP2.out, KK.out, (fun h => nomatch h), (fun _ => hz), fun h => absurd h HX.out⟩
end Go.Proofs.YtaegmenjgjdimaaGreat
end

section
/- This text proves a law on regions that draw their order in two phases: a first part that one later operation waits for as a whole, and the rest; it speaks of no program. -/
namespace Go.Proofs.YtaegmenjgjdimaaGreat

section
variable {P : Program} {ops : Array Oper} {Q : Exit → Act → World → Prop} {md : Region.Mode} {S : World → Prop} {y : Nat} {R : Array Bool → Act → World → Prop}

/-- operation y waits for operation i -/
def waitsOne (md : Region.Mode) (ops : Array Oper) (y i : Nat) : Bool :=
  match ops[y]? with
  | none => false
  | some o => o.after.any fun e => Region.binds md e && e.on == i

theorem waitsOne_spec {i : Nat} (h : waitsOne md ops y i = true) {listed : Array Bool} (hun : listed.getD i false = false) : y ∉ Region.ready md ops listed := by
  intro hz
  obtain ⟨_, oz, hoz, hall⟩ := mem_ready.1 hz
  unfold waitsOne at h
  simp only [hoz] at h
  obtain ⟨e, he, hb⟩ := Array.any_eq_true'.1 h
  simp only [Bool.and_eq_true, beq_iff_eq] at hb
  have h2 := hall e he hb.1
  rw [hb.2, hun] at h2
  cases h2

/-- whatever order is picked for so many operations; then R -/
def wpAnyE (P : Program) (md : Region.Mode) (ops : Array Oper) (Q : Exit → Act → World → Prop) (S : World → Prop) (R : Array Bool → Act → World → Prop) : Nat → Array Bool → Act → World → Prop
  | 0, listed, a, w => R listed a w
  | fuel + 1, listed, a, w =>
    (Region.ready md ops listed = [] → Q .normal a w) ∧
    ∀ i ∈ Region.ready md ops listed, wpOp P ops Q i (fun a' w' => S w' ∧ wpAnyE P md ops Q S R fuel (listed.setIfInBounds i true) a' w') a w

theorem wpAny_of_E {g : Nat} (hR : ∀ l a w, R l a w → wpAny P md ops Q g l a w) : ∀ (fuel : Nat) (listed : Array Bool) (a : Act) (w : World), wpAnyE P md ops Q S R fuel listed a w → wpAny P md ops Q (fuel + g) listed a w
  | 0, l, a, w, h => by rw [Nat.zero_add]; exact hR l a w h
  | fuel + 1, l, a, w, h => by
    rw [Nat.succ_add]
    exact ⟨h.1, fun i hi => wpOp_mono (fun a' w' h' => wpAny_of_E hR fuel _ a' w' h'.2) (h.2 i hi)⟩

theorem wpAnyE_first {i : Nat} {oi : Oper} {v : Value} (hi : ops[i]? = some oi) (hy1 : waitsOne md ops y i = true) (hR : ∀ l a w, R l a w → Region.ready md ops l = [y]) (hsel : ∀ (j : Nat) (o : Oper) cs b, ops[j]? = some o → o.op ≠ .select cs b)
    (hQ : ∀ c a w, Q (.panic c) (a.put oi.dst v) w → Q (.panic c) a w) :
    ∀ (fuel : Nat) (listed : Array Bool) (a : Act) (w : World),
      (∀ j oj, ops[j]? = some oj → j ≠ i → listed.getD j true = false → (∀ e ∈ oj.after, Region.binds md e = true → e.on ≠ i) → oi.apart ops oj = true) →
      i ∈ Region.ready md ops listed → YieldsIf P ops S oi v a → S w →
      wpAnyE P md ops Q S R fuel (listed.setIfInBounds i true) (a.put oi.dst v) w → wpAnyE P md ops Q S R (fuel + 1) listed a w := by
  intro fuel
  induction fuel with
  | zero =>
    intro listed a w _ hr hy hS H
    refine ⟨fun h => (by rw [h] at hr; cases hr), fun j hj => ?_⟩
    by_cases hji : j = i
    · subst hji; exact hy.wpOp hi hS ⟨hS, H⟩
    · have hun : listed.getD i false = false := getD_both (mem_ready.1 hr).1
      have := ready_mono hj hji
      rw [hR _ _ _ H] at this
      simp only [List.mem_cons, List.not_mem_nil, or_false] at this
      exact absurd (this ▸ hj) (waitsOne_spec hy1 hun)
  | succ fuel ih =>
    intro listed a w hfree hr hy hS H
    refine ⟨fun h => (by rw [h] at hr; cases hr), fun j hj => ?_⟩
    by_cases hji : j = i
    · subst hji; exact hy.wpOp hi hS ⟨hS, H⟩
    · have hun : listed.getD i false = false := getD_both (mem_ready.1 hr).1
      have h1 := H.2 j (ready_mono hj hji)
      obtain ⟨hjun, oj, hoj, hall⟩ := mem_ready.1 hj
      have hnot : ∀ e ∈ oj.after, Region.binds md e = true → e.on ≠ i := fun e he hb heq => by
        have h1 := hall e he hb
        rw [heq, hun] at h1
        cases h1
      have h2 := wpOp_putIf hoj (hfree j oj hoj hji hjun hnot) (fun cs b => hsel i oi cs b hi) (fun cs b => hsel j oj cs b hoj) hQ hy h1
      have hfree' : ∀ k ok, ops[k]? = some ok → k ≠ i → (listed.setIfInBounds j true).getD k true = false →
          (∀ e ∈ ok.after, Region.binds md e = true → e.on ≠ i) → oi.apart ops ok = true := fun k ok hk hki hun hno => by
        refine hfree k ok hk hki ?_ hno
        by_cases hjk : j = k
        · subst hjk; exact hjun
        · rw [getD_set_ne true hjk] at hun; exact hun
      refine wpOp_mono (fun a' w' h3 => ?_) h2
      have hS' : S w' := h3.2.1
      refine ⟨hS', ih (listed.setIfInBounds j true) a' w' hfree' (ready_mono hr (Ne.symm hji)) h3.1 hS' ?_⟩
      rw [Array.setIfInBounds_comm _ _ hji]
      exact h3.2.2

def planFromE (md : Region.Mode) (ops : Array Oper) (z y : Nat) : List (Bool × Nat) → Array Bool → Bool
  | [], listed => Region.ready md ops listed == [y]
  | (true, i) :: r, listed => i != z && waitsOne md ops y i && Region.free md ops listed i && (Region.ready md ops listed).contains i && planFromE md ops z y r (listed.setIfInBounds i true)
  | (false, i) :: r, listed => i != z && (Region.ready md ops listed == [i]) && planFromE md ops z y r (listed.setIfInBounds i true)
def listPlan : List (Bool × Nat) → Array Bool → Array Bool
  | [], l => l
  | (_, i) :: r, l => listPlan r (l.setIfInBounds i true)
theorem planFromE_end {z : Nat} : ∀ (plan : List (Bool × Nat)) (l : Array Bool), planFromE md ops z y plan l = true → Region.ready md ops (listPlan plan l) = [y]
  | [], l, h => by simpa [planFromE, listPlan] using h
  | (true, i) :: r, l, h => by
    simp only [planFromE, Bool.and_eq_true] at h
    exact planFromE_end r _ h.2
  | (false, i) :: r, l, h => by
    simp only [planFromE, Bool.and_eq_true] at h
    exact planFromE_end r _ h.2

theorem wpAnyE_of_plan {z : Nat} {C : Act → World → Prop} (hsel : Region.noSelect ops = true) (hQ : ∀ c a a' w, Q (.panic c) a w → Q (.panic c) a' w) :
    ∀ (plan : List (Bool × Nat)) (listed : Array Bool) (a : Act) (w : World), planFromE md ops z y plan listed = true → S w → wpPlan P ops (Exit.then C Q) S z plan a w → wpAnyE P md ops Q S (fun l a w => l = listPlan plan listed ∧ C a w) plan.length listed a w
  | [], listed, a, w, hB, _, h => ⟨rfl, h⟩
  | (true, i) :: r, listed, a, w, hB, hS, h => by
    have hend := planFromE_end _ _ hB
    simp only [planFromE, Bool.and_eq_true, bne_iff_ne] at hB
    obtain ⟨⟨⟨⟨hiz, hw1⟩, hf⟩, hr⟩, hB'⟩ := hB
    obtain ⟨o, ho, ht⟩ := h
    have hR : ∀ l a w, (l = listPlan ((true, i) :: r) listed ∧ C a w) → Region.ready md ops l = [y] := fun l a w k => by rw [k.1]; exact hend
    unfold takeOp at ht
    split at ht
    · rename_i hw
      obtain ⟨v, hv, hK⟩ := ht
      exact wpAnyE_first ho hw1 hR (Region.noSelect_spec hsel) (fun c a w => hQ c _ _ w) r.length listed a w (Region.free_spec ho hf) (by simpa using hr) (.inl ⟨hw, hv⟩) hS
        (wpAnyE_of_plan hsel hQ r _ _ _ hB' hS hK)
    · rename_i hw
      exact wpAnyE_first ho hw1 hR (Region.noSelect_spec hsel) (fun c a w => hQ c _ _ w) r.length listed a w (Region.free_spec ho hf) (by simpa using hr) (.inr ⟨by simpa using hw, rfl⟩) hS
        (wpAnyE_of_plan hsel hQ r _ _ _ hB' hS ht)
  | (false, i) :: r, listed, a, w, hB, hS, h => by
    simp only [planFromE, Bool.and_eq_true, beq_iff_eq, bne_iff_ne] at hB
    obtain ⟨⟨hiz, hr⟩, hB'⟩ := hB
    obtain ⟨o, ho, ht⟩ := h
    refine ⟨fun h0 => (by rw [hr] at h0; cases h0), fun j hj => ?_⟩
    rw [hr] at hj
    obtain rfl : j = i := by simpa using hj
    have hstep : ∀ a' w', ((j = z ∨ S w') ∧ wpPlan P ops (Exit.then C Q) S z r a' w') → (S w' ∧ wpAnyE P md ops Q S (fun l a w => l = listPlan r (listed.setIfInBounds j true) ∧ C a w) r.length (listed.setIfInBounds j true) a' w') := fun a' w' ⟨k1, k2⟩ =>
      ⟨k1.resolve_left hiz, wpAnyE_of_plan hsel hQ r _ _ _ hB' (k1.resolve_left hiz) k2⟩
    unfold wpOp
    simp only [ho]
    unfold wpList at ht
    split
    · rename_i hw
      rw [if_pos hw] at ht
      rcases ht with ht | ⟨h1, h2⟩
      · refine .inl ?_
        unfold Oper.wp at ht
        have h3 : o.upon P a (wpList P ops (Exit.then (fun a' w' => (j = z ∨ S w') ∧ wpPlan P ops (Exit.then C Q) S z r a' w') (Exit.then C Q)) []) Q ((execOp a.eval o).run P w) := by
          cases hres : (execOp a.eval o).run P w with
          | ok n w' => rw [hres] at ht; cases n <;> exact ht
          | halt x w' => rw [hres] at ht; cases x <;> exact ht
        have h4 : o.wp P a w (wpList P ops (Exit.then (fun a' w' => (j = z ∨ S w') ∧ wpPlan P ops (Exit.then C Q) S z r a' w') (Exit.then C Q)) []) Q := h3
        exact Oper.wp_mono (fun a' w' hk => hstep a' w' hk) h4
      · exact .inr ⟨h1, h2⟩
    · rename_i hw
      rw [if_neg hw] at ht
      exact hstep _ _ ht
end

/-- the check of the two phases -/
def phasesOk (ops : Array Oper) (y : Nat) (st1 st2 : List (List Nat × Nat)) : Bool :=
  Region.noSelect ops && waitsAll .any ops 99 && planFromE .any ops 99 y (stagesPlan st1) (Array.replicate ops.size false) && planFrom .any ops 99 (stagesPlan st2) (listPlan (stagesPlan st1) (Array.replicate ops.size false)) && readsOkC ops st1 && readsOkC ops st2 && ((stagesPlan st1).length + (stagesPlan st2).length == ops.size)

/-- the law that the walks use: st1 with S1, up to where only operation y can come; then st2 -/
theorem wp_region_phases {P : Program} {Q : Exit → Act → World → Prop} {id : Nat} {a : Act} {w : World} {l : List Oper} (st1 st2 : List (List Nat × Nat)) (y : Nat) (S1 : World → Prop) (hm : P.follows .mixedOrders = true)
    (hB : phasesOk l.toArray y st1 st2 = true) (hS : S1 w.drew)
    (h : wpStagesS P l.toArray (Exit.then (fun a w => ∃ S2 : World → Prop, S2 w ∧ wpStagesS P l.toArray (NoPanic Q) S2 99 st2 a w) (NoPanic Q)) S1 99 st1 a w.drew) : (Code.region id l.toArray true).wp P Q a w := by
  unfold phasesOk at hB
  simp only [Bool.and_eq_true, beq_iff_eq] at hB
  obtain ⟨⟨⟨⟨⟨⟨h1, h2⟩, h3⟩, h4⟩, h5⟩, h6⟩, h7⟩ := hB
  refine wp_region_noPanic (wp_region_any hm ?_)
  have hp := plan_of_stagesS st1 a w.drew h5 h
  have hE := wpAnyE_of_plan h1 (fun c a a' w k => k) _ _ a w.drew h3 hS hp
  have hA := wpAny_of_E (g := (stagesPlan st2).length) (fun l' a w hk => by
    obtain ⟨rfl, S2, hs2, hst⟩ := hk
    exact wpAny_of_Z _ _ _ _ (wpAnyZ_of_plan h1 h2 (fun c a a' w k => k) _ _ a w h4 (fun _ _ => hs2) (plan_of_stagesS st2 a w h6 hst))) _ _ _ _ hE
  rw [h7] at hA
  simpa using hA
/-- the first phase is done -/
theorem wpPhase_end {P : Program} {ops : Array Oper} {Q : Exit → Act → World → Prop} {S : World → Prop} {C : Act → World → Prop} {a : Act} {w : World} (h : C a w) : wpStagesS P ops (Exit.then C Q) S 99 [] a w := h
/-- all operations of the second phase are forced -/
theorem wpPhase_free {P : Program} {ops : Array Oper} {Q : Exit → Act → World → Prop} {st : List (List Nat × Nat)} {a : Act} {w : World} (h : wpStagesS P ops Q (fun _ => True) 99 st a w) : ∃ S2 : World → Prop, S2 w ∧ wpStagesS P ops Q S2 99 st a w := ⟨_, trivial, h⟩
end Go.Proofs.YtaegmenjgjdimaaGreat
end

section
/- This text proves how the reference's parser lays a node. -/
namespace Go.Proofs.YtaegmenjgjdimaaGreat
open Go.RowKit

theorem Pst.setNds {lo B : Nat} {X : Nat → Prop} {tk : List Tok} {gs : List Asg} {w w' : World} {k : Nat} {ns ns' : List Nd} {bad : Int} {tv nv nv' gv : Value} (h : Pst lo X B tk gs w k ns bad tv nv gv) (hb : Blk w' B 143 [tv, .int .i64 (k : Nat), nv, gv, .int .i64 bad]) (kk : KN lo B 79 w w') (hn : OwnNds lo X w' nv' ns') (hl : ns'.length ≤ 60) (hg : ∀ x ∈ ns', NdG x) : Pst lo X B tk gs (w'.setCell ⟨B, 2, none⟩ nv') k ns' bad tv nv' gv := by
  have hB : ∀ (e : TypeId), e ≠ 143 → ∀ c, w.heap[B]? ≠ some (.cells c e (0, 0)) := fun e he c hc => by
    have := h.box
    unfold Blk at this
    rw [this] at hc
    simp only [Option.some.injEq, Obj.cells.injEq] at hc
    exact he hc.2.1.symm
  exact ⟨hb.set 2 _, h.low, OwnG.set (KN.row h.toks kk (hB _ (by decide)) (by decide)) hb (by decide) 2 _, OwnNds.set hn hb (by decide) (by decide) 2 _, OwnG.set (KN.row h.asgs kk (hB _ (by decide)) (by decide)) hb (by decide) 2 _, h.ends, h.here, hl, hg, h.b64, fun b hb => by rw [World.size_setCell]; exact Nat.lt_of_lt_of_le (h.xlt b hb) kk.size⟩
/-- the cells of two blocks -/
def C2b (b c : Nat) : Addr → Prop := fun a => a.block = b ∨ a.block = c
@[go_sem] theorem C2b_1 (b c o : Nat) : C2b b c ⟨b, o, none⟩ := .inl rfl
@[go_sem] theorem C2b_2 (b c o : Nat) : C2b b c ⟨c, o, none⟩ := .inr rfl
set_option maxRecDepth 20000 in
set_option maxHeartbeats 6400000 in
theorem sEmit_any {lo B : Nat} {X : Nat → Prop} {tk : List Tok} {gs : List Asg} {w : World} {k : Nat} {ns : List Nd} {bad : Int} {tv nv gv : Value} (h : Pst lo X B tk gs w k ns bad tv nv gv) (hk1 : 1 ≤ k) (x : Nd) (u : Value) (hu : OwnInts lo w u x.args) (hux : ∀ k, u.ownBlock = some k → ¬ X k) (hx : NdG x) :
    Calls Tryz.prog 136 #[.pointer (some ⟨B, 0, none⟩), .agg #[.int .i64 x.op, .string x.name, .int .i64 x.num, u]] w fun e w' => ∃ (r : Nat) (q : Nat) (ns' : List Nd) (z : Int) (nv' : Value), e = .returned (.int .i64 (r : Nat)) ∧ r ≤ 60 ∧ Pst lo X B tk gs w' q ns' z tv nv' gv ∧ KN lo B 79 w w' ∧ (0 ≤ z ∨ (q = k ∧ ns' = ns ++ [x] ∧ z = bad ∧ r = ns.length)) ∧ (ns.length < 60 → q = k ∧ ns' = ns ++ [x] ∧ z = bad ∧ r = ns.length) := by
  have x0 : Ext w (w.alloc (.cells #[.int .i64 x.op, .string x.name, .int .i64 x.num, u] 79)) := (by repeat (with_reducible (first | assumption | exact Ext.refl _ | apply Ext.alloc | apply Ext.drew | apply Ext.drewN)))
  have HP0 := hid h
  have HP := hid (h.ext x0)
  have HU := hid (hu.ext x0)
  have HX0 := hid x0
  obtain ⟨na, nc, rfl, _⟩ := h.nds.form
  have hlen := h.len
  have zB := h.box.lt
  have hlo := h.low
  have c1 := HP.out.box.cell 1 rfl
  have c2 := HP.out.box.cell 2 rfl
  have f1 := HP.out.box.free 1
  have f2 := HP.out.box.free 2
  have kb : k ≤ 3000 := by
    obtain ⟨ts, n, e1, _, _, _, e2⟩ := h.ends
    have := h.here
    rw [e1, List.length_append] at this
    simp at this
    omega
  have hB := Blk.new w 79 [.int .i64 x.op, .string x.name, .int .i64 x.num, u]
  have HB := hid hB
  have bne : B ≠ w.heap.size := by omega
  clear h hu x0 hB
  by_cases h60 : ns.length = 60
  · have e60 : ((ns.length : Nat) : Int) = 60 := by omega
    go_enter Tryz.func136, Tryz.ntmps136
    go_wp2_with fail
    have P2 := HP0.out.setAt (q := k - 1) (by have := HP0.out.here; omega)
    have ek : (((k - 1 : Nat) : Int)) = (k : Int) - 1 := by omega
    rw [ek] at P2
    refine (sFail_any (P2.ext (show Ext _ ((w.setCell ⟨B, 1, none⟩ (.int .i64 ((k : Int) - 1))).alloc (.cells #[.int .i64 x.op, .string x.name, .int .i64 x.num, u] 79)) from (by repeat (with_reducible (first | assumption | exact Ext.refl _ | apply Ext.alloc | apply Ext.drew | apply Ext.drewN)))))).mono ?_
    rintro e w2 ⟨z, rfl, hz, P3, K3⟩
    have KK := hid ((((KN.refl lo B 79 w).set hlo 1 (.int .i64 ((k : Int) - 1))).ext (show Ext _ ((w.setCell ⟨B, 1, none⟩ (.int .i64 ((k : Int) - 1))).alloc (.cells #[.int .i64 x.op, .string x.name, .int .i64 x.num, u] 79)) from (by repeat (with_reducible (first | assumption | exact Ext.refl _ | apply Ext.alloc | apply Ext.drew | apply Ext.drewN))))).trans K3)
    have HP3 := hid P3
    clear P2 P3 K3
    go_wp2
    go_ret
    exact ⟨0, k - 1, ns, z, _, rfl, by omega, HP3.out, KK.out, .inl hz, by omega⟩
  · have e60 : ¬ ((ns.length : Nat) : Int) = 60 := by omega
    go_enter Tryz.func136, Tryz.ntmps136
    go_wp2_with fail
    refine wp_region_phases [([0, 1, 2, 3, 4, 5, 6], 7), ([], 8)] [([], 9), ([], 10), ([], 11), ([], 12)] 9 (fun w' => ∃ d, w' = lowc (C2b B w.heap.size) _ d) (by kernel_rfl) (by kernel_rfl) (SC.drew _ _) ?_
    refine wpStagesS_cons ?_
    simp only [List.filterMap_cons, List.filterMap_nil, List.getElem?_toArray, List.getElem?_cons_zero, List.getElem?_cons_succ]
    show wpQuiet _ _ _ _ [_, _, _, _, _, _, _] _
    repeat (go_big_quiet_step (fail))
    refine wpQuiet_nil ⟨_, rfl, fun K hK => ?_⟩
    go_wp2_with fail
    have y1 : Ext w (((w.alloc (.cells #[.int .i64 x.op, .string x.name, .int .i64 x.num, u] 79)).alloc (.cells #[.int .i64 x.op, .string x.name, .int .i64 x.num, u] 79)).drew) := (by repeat (first | with_reducible assumption | with_reducible exact Ext.refl _ | with_reducible apply Ext.alloc | with_reducible apply Ext.drew | with_reducible apply Ext.drewN | (with_reducible refine Ext.setCell ?_ (by simp; omega) _) | (with_reducible refine Ext.setCell ?_ (by simp) _)))
    have y2 : Ext (w.alloc (.cells #[.int .i64 x.op, .string x.name, .int .i64 x.num, u] 79)) (((w.alloc (.cells #[.int .i64 x.op, .string x.name, .int .i64 x.num, u] 79)).alloc (.cells #[.int .i64 x.op, .string x.name, .int .i64 x.num, u] 79)).drew) := (by repeat (first | with_reducible assumption | with_reducible exact Ext.refl _ | with_reducible apply Ext.alloc | with_reducible apply Ext.drew | with_reducible apply Ext.drewN | (with_reducible refine Ext.setCell ?_ (by simp; omega) _) | (with_reducible refine Ext.setCell ?_ (by simp) _)))
    have B2 : Blk (((w.alloc (.cells #[.int .i64 x.op, .string x.name, .int .i64 x.num, u] 79)).alloc (.cells #[.int .i64 x.op, .string x.name, .int .i64 x.num, u] 79)).drew) (w.heap.size + 1) 79 [.int .i64 x.op, .string x.name, .int .i64 x.num, u] := by
      have := Blk.new (w.alloc (.cells #[.int .i64 x.op, .string x.name, .int .i64 x.num, u] 79)) 79 [.int .i64 x.op, .string x.name, .int .i64 x.num, u]
      rw [World.size_alloc] at this
      exact this
    refine hK _ _ (.inr (SC.blocks fun a ha => ?_)) ?_
    · rcases ha with ha | ha
      · exact y2.block (by rw [ha, World.size_alloc]; omega)
      · exact y2.block (by rw [ha, World.size_alloc]; omega)
    clear hK K
    have HY1 := hid y1
    have HY2 := hid y2
    have HB2 := hid B2
    have HN := hid (HP0.out.nds.ext y1)
    have HU2 := hid (HU.out.ext y2)
    clear y1 y2 B2
    have z1 := HY1.out.size
    refine wpStagesS_cons ?_
    simp only [List.filterMap_nil]
    show wpQuiet _ _ _ _ [] _
    try simp only [Act.put, List.setIfInBounds_toArray, List.set_cons_succ, List.set_cons_zero]
    repeat (go_big_quiet_step (fail))
    refine wpQuiet_nil ⟨_, rfl, fun K hK => ?_⟩
    refine wpList_append_nd _ rfl _ _ rfl lo X (.slice na ns.length nc) ns rfl HN.out x u HU2.out hux (w.heap.size + 1) rfl ⟨HB2.out.cell 0 rfl, HB2.out.cell 1 rfl, HB2.out.cell 2 rfl, HB2.out.cell 3 rfl⟩ (by omega) (by omega) ?_
    intro nv2 w2 hown hg
    have z2 := HY2.out.size
    rw [World.size_alloc] at z2
    have hr := HP0.out.nds.row
    have k2 : ∀ b, b < w.heap.size → (∀ c, w.heap[b]? ≠ some (.cells c 79 (0, 0))) → w2.heap[b]? = w.heap[b]? := fun b hb hn => (hg.block b (by omega) (fun e => (by obtain ⟨_, c, hc⟩ := hr b e.symm; exact hn c hc))).trans (HY1.out.block hb)
    have kB : w2.heap[B]? = w.heap[B]? := k2 B zB (fun c hc => by
      have := HP0.out.box
      unfold Blk at this
      rw [this] at hc
      simp only [Option.some.injEq, Obj.cells.injEq] at hc
      exact absurd hc.2.1 (by decide))
    have B3 := HP0.out.box.of kB
    have K3 : KN lo B 79 w w2 := KN.grown (HY1.out.kn lo B 79) hg (fun k hk => by
      obtain ⟨q1, c, hc⟩ := hr k hk
      exact ⟨q1, c, (HY1.out.block (Array.getElem?_eq_some_iff.1 hc).1).trans hc⟩)
    have kN : w2.heap[w.heap.size]? = (w.alloc (.cells #[.int .i64 x.op, .string x.name, .int .i64 x.num, u] 79)).heap[w.heap.size]? := (hg.block _ (by omega) (fun e => by
      obtain ⟨_, c, hc⟩ := hr _ e.symm
      exact absurd (Array.getElem?_eq_some_iff.1 hc).1 (by omega))).trans (HY2.out.block (by rw [World.size_alloc]; omega))
    have kB2 : w2.heap[B]? = (w.alloc (.cells #[.int .i64 x.op, .string x.name, .int .i64 x.num, u] 79)).heap[B]? := kB.trans (HX0.out.block zB).symm
    go_wp2_with fail
    refine hK _ _ (.inr (SC.blocks fun a ha => ?_)) ?_
    · rcases ha with ha | ha
      · rw [ha]; exact kB2
      · rw [ha]; exact kN
    clear hK K
    have d2 := B3.cell 2 rfl
    have e2 := B3.free 2
    have d0 := B3.cell 0 rfl
    have e0 := B3.free 0
    have HB3 := hid B3
    have HK3 := hid K3
    have HO := hid hown
    obtain ⟨na2, nc2, rfl, _⟩ := hown.form
    have hll : (ns ++ [x]).length = ns.length + 1 := by simp
    clear hown hg hr k2 kB kN kB2 B3 K3 c1 c2 f1 f2
    refine wpPhase_end (wpPhase_free ?_)
    refine wpStagesS_cons ?_
    simp only [List.filterMap_nil]
    show wpQuiet _ _ _ _ [] _
    try simp only [Act.put, List.setIfInBounds_toArray, List.set_cons_succ, List.set_cons_zero]
    repeat (go_big_quiet_step (fail))
    refine wpQuiet_nil ⟨_, rfl, fun K hK => ?_⟩
    go_wp2_with fail
    go_wp2_with fail
    refine hK _ _ (.inr (trivial)) ?_
    clear hK K
    refine wpStagesS_cons ?_
    simp only [List.filterMap_nil]
    show wpQuiet _ _ _ _ [] _
    try simp only [Act.put, List.setIfInBounds_toArray, List.set_cons_succ, List.set_cons_zero]
    repeat (go_big_quiet_step (fail))
    refine wpQuiet_nil ⟨_, rfl, fun K hK => ?_⟩
    go_wp2_with fail
    go_wp2_with fail
    refine hK _ _ (.inr (trivial)) ?_
    clear hK K
    refine wpStagesS_cons ?_
    simp only [List.filterMap_nil]
    show wpQuiet _ _ _ _ [] _
    try simp only [Act.put, List.setIfInBounds_toArray, List.set_cons_succ, List.set_cons_zero]
    repeat (go_big_quiet_step (fail))
    refine wpQuiet_nil ⟨_, rfl, fun K hK => ?_⟩
    go_wp2_with fail
    go_wp2_with fail
    refine hK _ _ (.inr (trivial)) ?_
    clear hK K
    refine wpStagesS_cons ?_
    simp only [List.filterMap_nil]
    show wpQuiet _ _ _ _ [] _
    try simp only [Act.put, List.setIfInBounds_toArray, List.set_cons_succ, List.set_cons_zero]
    repeat (go_big_quiet_step (fail))
    refine wpQuiet_nil ⟨_, rfl, fun K hK => ?_⟩
    go_wp2_with fail
    go_wp2_with fail
    refine hK _ _ (.inr (trivial)) ?_
    clear hK K
    refine wpStagesS_nil ?_
    have P4 := Pst.setNds HP0.out HB3.out HK3.out HO.out (by omega) (fun y hy => by
      rcases List.mem_append.1 hy with hy | hy
      · exact HP0.out.good y hy
      · simp only [List.mem_cons, List.not_mem_nil, or_false] at hy
        subst hy
        exact hx)
    rw [hll] at P4
    have HP4 := hid P4
    have c2 := P4.box.cell 2 rfl
    clear P4
    go_wp2
    go_ret
    exact ⟨ns.length, k, ns ++ [x], bad, _, by go_num, by omega, HP4.out, HK3.out.set hlo 2 _, .inr ⟨rfl, rfl, rfl, rfl⟩, fun _ => ⟨rfl, rfl, rfl, rfl⟩⟩
end Go.Proofs.YtaegmenjgjdimaaGreat
end

section
/- This text states what the parser's recursive functions are asked, and proves its choice of the operator and its factors. -/
namespace Go.Proofs.YtaegmenjgjdimaaGreat
open Go.RowKit

theorem OwnInts.lits {lo g : Nat} {w : World} {xs : List Int} (hl : lo ≤ g) (h : Blk w g 3 (xs.map (Value.int .i64))) (h64 : ∀ x ∈ xs, I64 x) (hn : xs.length ≤ 1000000) : OwnInts lo w (.slice (some ⟨g, 0, none⟩) xs.length xs.length) xs := by
  refine ⟨⟨by simp, .inr ⟨g, xs.length, (xs.map (Value.int .i64)).toArray, rfl, hl, h, Nat.le_refl _, by unfold maxLen; omega, by simp, ?_⟩⟩, h64⟩
  simp only [Nat.mul_one]
  rw [List.take_of_length_le (by simp)]
/-- the semicolon -/
def semiB : ByteArray := ⟨#[59]⟩
set_option maxRecDepth 20000 in
set_option maxHeartbeats 3200000 in
theorem sOp_any2 (x : ByteArray) (b : Bool) (w : World) : Calls Tryz.prog 135 #[.string x, .bool b] w fun e w' => ∃ o : Int, e = .returned (.int .i64 o) ∧ 0 ≤ o ∧ o ≤ 8 ∧ Ext w w' ∧ (x = semiB → o = 0) ∧ (o ≠ 0 → x ≠ ⟨#[]⟩) := by
  have sm : ∀ c : UInt8, c ≠ 59 → (x.toList == [c]) = true → x = semiB → False := fun c hc e h => by
    subst h
    simp [semiB] at e
    exact hc e.symm
  have nm : ∀ c : UInt8, (x.toList == [c]) = true → x ≠ ⟨#[]⟩ := fun c e h => by
    subst h
    simp at e
  cases b
  · by_cases h1 : (x.toList == [42]) = true
    · have n1 := nm _ h1
      have s1 := sm _ (by decide) h1
      clear sm nm
      go_enter Tryz.func135, Tryz.ntmps135
      go_wp2
      go_ret
      exact ⟨6, rfl, by omega, by omega, (by repeat (with_reducible (first | assumption | exact Ext.refl _ | apply Ext.alloc | apply Ext.drew | apply Ext.drewN))), (fun h => (s1 h).elim), fun _ => n1⟩
    · have h1' : (x.toList == [42]) = false := by simpa using h1
      clear h1
      by_cases h2 : (x.toList == [47]) = true
      · have n1 := nm _ h2
        have s1 := sm _ (by decide) h2
        clear sm nm
        go_enter Tryz.func135, Tryz.ntmps135
        go_wp2
        go_ret
        exact ⟨7, rfl, by omega, by omega, (by repeat (with_reducible (first | assumption | exact Ext.refl _ | apply Ext.alloc | apply Ext.drew | apply Ext.drewN))), (fun h => (s1 h).elim), fun _ => n1⟩
      · have h2' : (x.toList == [47]) = false := by simpa using h2
        clear h2 sm nm
        go_enter Tryz.func135, Tryz.ntmps135
        go_wp2
        go_ret
        exact ⟨0, rfl, by omega, by omega, (by repeat (with_reducible (first | assumption | exact Ext.refl _ | apply Ext.alloc | apply Ext.drew | apply Ext.drewN))), (fun _ => rfl), fun h => (h rfl).elim⟩
  · by_cases h1 : (x.toList == [43]) = true
    · have n1 := nm _ h1
      have s1 := sm _ (by decide) h1
      clear sm nm
      go_enter Tryz.func135, Tryz.ntmps135
      go_wp2
      go_ret
      exact ⟨4, rfl, by omega, by omega, (by repeat (with_reducible (first | assumption | exact Ext.refl _ | apply Ext.alloc | apply Ext.drew | apply Ext.drewN))), (fun h => (s1 h).elim), fun _ => n1⟩
    · have h1' : (x.toList == [43]) = false := by simpa using h1
      clear h1
      by_cases h2 : (x.toList == [45]) = true
      · have n1 := nm _ h2
        have s1 := sm _ (by decide) h2
        clear sm nm
        go_enter Tryz.func135, Tryz.ntmps135
        go_wp2
        go_ret
        exact ⟨5, rfl, by omega, by omega, (by repeat (with_reducible (first | assumption | exact Ext.refl _ | apply Ext.alloc | apply Ext.drew | apply Ext.drewN))), (fun h => (s1 h).elim), fun _ => n1⟩
      · have h2' : (x.toList == [45]) = false := by simpa using h2
        clear h2 sm nm
        go_enter Tryz.func135, Tryz.ntmps135
        go_wp2
        go_ret
        exact ⟨0, rfl, by omega, by omega, (by repeat (with_reducible (first | assumption | exact Ext.refl _ | apply Ext.alloc | apply Ext.drew | apply Ext.drewN))), (fun _ => rfl), fun h => (h rfl).elim⟩

/-- at token k there is the name x alone, with a semicolon behind it -/
def LoneT (tk : List Tok) (k : Nat) (ns : List Nd) (d : Int) (x : ByteArray) : Prop := ∃ t t1, tk[k]? = some t ∧ t.kind = 2 ∧ t.text = x ∧ tk[k + 1]? = some t1 ∧ peekB t1 = semiB ∧ ns.length < 60 ∧ d ≤ 64
/-- what a step of the parser hands back: a node's number; an error, or st tokens are done at least -/
def PRes (lo : Nat) (X : Nat → Prop) (B : Nat) (tk : List Tok) (gs : List Asg) (tv gv : Value) (st : Nat) (w : World) (k : Nat) (ns : List Nd) (bad d : Int) (e : Ending) (w' : World) : Prop :=
  ∃ (r q : Nat) (ns' : List Nd) (z : Int) (nv' : Value), e = .returned (.int .i64 (r : Nat)) ∧ r ≤ 60 ∧ Pst lo X B tk gs w' q ns' z tv nv' gv ∧ KN lo B 79 w w' ∧ (0 ≤ z ∨ (z = bad ∧ k + st ≤ q)) ∧ ∀ x, LoneT tk k ns d x → z = bad ∧ q = k + 1 ∧ ns' = ns ++ [⟨2, x, 0, []⟩] ∧ r = ns.length
def PCF (lo B : Nat) (tk : List Tok) (gs : List Asg) (tv gv : Value) (m : Nat) : Prop := ∀ (X : Nat → Prop) (w : World) (k : Nat) (ns : List Nd) (bad : Int) (nv : Value) (d : Int), Pst lo X B tk gs w k ns bad tv nv gv → bad < 0 → 1 ≤ k → tk.length - k ≤ m → 0 ≤ d → d ≤ 65 →
  Calls Tryz.prog 144 #[.pointer (some ⟨B, 0, none⟩), .int .i64 d] w (PRes lo X B tk gs tv gv 1 w k ns bad d)
def PCE (lo B : Nat) (tk : List Tok) (gs : List Asg) (tv gv : Value) (m : Nat) : Prop := ∀ (X : Nat → Prop) (w : World) (k : Nat) (ns : List Nd) (bad : Int) (nv : Value) (d : Int), Pst lo X B tk gs w k ns bad tv nv gv → bad < 0 → 1 ≤ k → tk.length - k ≤ m → 0 ≤ d → d ≤ 65 →
  Calls Tryz.prog 73 #[.pointer (some ⟨B, 0, none⟩), .int .i64 d] w (PRes lo X B tk gs tv gv 1 w k ns bad d)
def PCB (lo B : Nat) (tk : List Tok) (gs : List Asg) (tv gv : Value) (b : Bool) (m : Nat) : Prop := ∀ (X : Nat → Prop) (w : World) (k : Nat) (ns : List Nd) (bad : Int) (nv : Value) (d : Int), Pst lo X B tk gs w k ns bad tv nv gv → bad < 0 → 1 ≤ k → tk.length - k ≤ m → 0 ≤ d → d ≤ 65 →
  Calls Tryz.prog 106 #[.pointer (some ⟨B, 0, none⟩), .int .i64 d, .bool b] w (PRes lo X B tk gs tv gv 1 w k ns bad d)
def PCO (lo B : Nat) (tk : List Tok) (gs : List Asg) (tv gv : Value) (b : Bool) (m : Nat) : Prop := ∀ (X : Nat → Prop) (w : World) (k : Nat) (ns : List Nd) (bad : Int) (nv : Value) (d : Int), Pst lo X B tk gs w k ns bad tv nv gv → bad < 0 → 1 ≤ k → tk.length - k ≤ m → 0 ≤ d → d ≤ 65 →
  Calls Tryz.prog 134 #[.pointer (some ⟨B, 0, none⟩), .int .i64 d, .bool b] w (PRes lo X B tk gs tv gv 1 w k ns bad d)
def PCC (lo B : Nat) (tk : List Tok) (gs : List Asg) (tv gv : Value) (m : Nat) : Prop := ∀ (X : Nat → Prop) (w : World) (k : Nat) (ns : List Nd) (bad : Int) (nv : Value) (x : ByteArray) (d : Int), Pst lo X B tk gs w k ns bad tv nv gv → bad < 0 → 1 ≤ k → tk.length - k ≤ m → 0 ≤ d → d ≤ 65 → x.size ≤ 2000 →
  Calls Tryz.prog 149 #[.pointer (some ⟨B, 0, none⟩), .string x, .int .i64 d] w fun e w' => ∃ (r q : Nat) (ns' : List Nd) (z : Int) (nv' : Value), e = .returned (.int .i64 (r : Nat)) ∧ r ≤ 60 ∧ Pst lo X B tk gs w' q ns' z tv nv' gv ∧ KN lo B 79 w w' ∧ (0 ≤ z ∨ (z = bad ∧ k ≤ q))
theorem NdG.of {o n : Int} {x : ByteArray} {us : List Int} (h1 : I64 o) (h2 : I64 n) (h3 : x.size ≤ 2000) (h4 : us.length ≤ 3) : NdG ⟨o, x, n, us⟩ := ⟨h1, h2, h3, h4⟩
/-- one token on -/
theorem Pst.step {lo B : Nat} {X : Nat → Prop} {tk : List Tok} {gs : List Asg} {w : World} {k : Nat} {ns : List Nd} {bad : Int} {tv nv gv : Value} (h : Pst lo X B tk gs w k ns bad tv nv gv) (hq : k + 1 < tk.length) : Pst lo X B tk gs (w.setCell ⟨B, 1, none⟩ (.int .i64 ((k : Int) + 1))) (k + 1) ns bad tv nv gv := by
  simpa using h.setAt hq
theorem Pst.k3000 {lo B : Nat} {X : Nat → Prop} {tk : List Tok} {gs : List Asg} {w : World} {k : Nat} {ns : List Nd} {bad : Int} {tv nv gv : Value} (h : Pst lo X B tk gs w k ns bad tv nv gv) : k ≤ 3000 := by
  obtain ⟨ts, n, e1, _, _, _, e2⟩ := h.ends
  have := h.here
  rw [e1, List.length_append] at this
  simp at this
  omega
theorem peekB_ne {t : Tok} {x : ByteArray} (h : peekB t = x) (hx : x ≠ ⟨#[]⟩) : t.kind = 3 ∧ t.text = x := by
  unfold peekB at h
  by_cases e : t.kind = 3
  · rw [if_pos e] at h; exact ⟨e, h⟩
  · rw [if_neg e] at h; exact absurd h.symm hx
/-- another sign than the semicolon stands behind the token: it is not a lone name -/
theorem LoneT.not {tk : List Tok} {k : Nat} {ns : List Nd} {d : Int} {x : ByteArray} (h : LoneT tk k ns d x) {t : Tok} (ht : tk[k]? = some t) : t.kind = 2 ∧ t.text = x ∧ ∃ t1, tk[k + 1]? = some t1 ∧ peekB t1 = semiB := by
  obtain ⟨t', t1, h1, h2, h3, h4, h5, _⟩ := h
  rw [ht] at h1
  cases h1
  exact ⟨h2, h3, t1, h4, h5⟩
end Go.Proofs.YtaegmenjgjdimaaGreat
end
