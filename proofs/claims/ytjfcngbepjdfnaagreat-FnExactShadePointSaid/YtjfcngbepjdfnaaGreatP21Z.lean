/- Texts of this claim, one behind another: Ev6, Es1, Es2, Es3, Es4, Es5, Es6, Lw3, LawShp, LiftTex, Leaf, LiftPrg, P21. -/
import Derived.Test.YtjfcngbepjdfnaaGreatP21Y2
import Derived.Test.YtjfcngbepjdfnaaGreatP21Y1
import Derived.Test.YtjfcngbepjdfnaaGreatLk3
import Derived.Test.YtjfcngbepjdfnaaGreatEx2
import Derived.OpenShut
import Derived.ShutString
import Derived.ChangeOld
import Derived.Below
import Derived.Carry
import Derived.Lib.SmallJoins
import Derived.Test.YtjfcngbepjdfnaaGreatFlat
import Derived.Deep.Slices
import Derived.Deep.Strs
import Derived.Test.YtjfcngbepjdfnaaGreatRows
import Derived.ProofKit
section
/- This text proves the program's ShadePoint. -/
namespace Go.Proofs.YtjfcngbepjdfnaaGreat
open Go.RowKit Go.Maps Go.WideMaps

/-- the value at point q of the name l, 256 where it is not assigned -/
noncomputable def named (p : Prg) (g : Grd) (q : Nat) (l : List UInt8) : Int := match frst p.gs p.gs.length l with | some k => (evV p g (((p.gs[k]?).map fun a => a.root.toNat).getD 0)).getD q 0 | none => 256
noncomputable def shC (p : Prg) (g : Grd) (i j : Int) : Int := if evOk p g i j = true then clampI (named p g (j * g.n + i).toNat [99, 111, 108, 111, 114]) 0 256 else 0
noncomputable def shA (p : Prg) (g : Grd) (i j : Int) : Int := if evOk p g i j = true then clampI (named p g (j * g.n + i).toNat [97, 108, 112, 104, 97]) 0 256 else 0
theorem alphaS : (⟨#[97, 108, 112, 104, 97]⟩ : ByteArray).toList = [97, 108, 112, 104, 97] := by rw [Lib.toList_data]
theorem named_some {p : Prg} {g : Grd} {q : Nat} {l : List UInt8} {k r : Nat} {s : ByteArray} (h : frst p.gs p.gs.length l = some k) (hk : p.gs[k]? = some ⟨s, r⟩) : named p g q l = (evV p g r).getD q 0 := by
  unfold named
  rw [h]
  simp [hk]
theorem named_none {p : Prg} {g : Grd} {q : Nat} {l : List UInt8} (h : frst p.gs p.gs.length l = none) : named p g q l = 256 := by unfold named; rw [h]
/-- the assignment to a name that is known, its root -/
theorem Prg.K.asg {p : Prg} (h : p.K) {l : List UInt8} {k : Nat} (hf : frst p.gs p.gs.length l = some k) : ∃ (s : ByteArray) (r : Nat), p.gs[k]? = some ⟨s, (r : Nat)⟩ ∧ r < p.ns.length ∧ k < p.gs.length ∧ s.toList = l := by
  obtain ⟨h1, ⟨a, h2, h3⟩, _⟩ := frst_some hf
  have hr := (h.v.ag k a h2).2
  refine ⟨a.name, a.root.toNat, ?_, by omega, h1, h3⟩
  rw [h2]
  cases a
  simp only [Option.some.injEq, Asg.mk.injEq, true_and] at *
  omega
/-- entry q of a row that the evaluator handed back -/
theorem row_at {m q g c : Nat} {w : World} {xs : List Int} (h : OwnInts 0 w (.slice (some ⟨g, 0, none⟩) m c) xs) (hx : xs.length = m) (hq : q < m) :
    m ≤ c ∧ c ≤ 9223372036854775807 ∧ g < w.heap.size ∧ w.cell? ⟨g, q, none⟩ = some (.int .i64 (xs.getD q 0)) := by
  obtain ⟨ra, rc, e, HR⟩ := h.ints.open
  rw [hx] at e
  simp only [Value.slice.injEq, true_and] at e
  obtain ⟨rfl, rfl⟩ := e
  obtain ⟨rb, ro, re, h1, h2, h3⟩ := HR.at (k := q) (by omega)
  simp only [Option.some.injEq, Addr.mk.injEq, and_true] at re
  obtain ⟨rfl, rfl⟩ := re
  rw [Nat.zero_add] at h3
  have h4 := HR.le
  rw [hx] at h4
  refine ⟨h4, HR.cap, h2, ?_⟩
  rw [h3, List.getD_eq_getElem?_getD, List.getElem?_eq_getElem (by omega)]
  rfl
set_option maxRecDepth 20000 in
set_option maxHeartbeats 12800000 in
theorem iShadePoint_any (lo hi lo' hi' : Nat) (v u : Value) (p : Prg) (g : Grd) (i j : Int) (w : World) (hv : p.R lo hi w v) (hh : hi ≤ w.heap.size) (hu : g.R lo' hi' w u) (hh' : hi' ≤ w.heap.size) (hb : p.bd) (hgl : p.gs.length ≤ 1048576) :
    Calls Tryz.prog 14 #[v, u, .int .i64 i, .int .i64 j] w fun e w' => e = .returned (.tuple #[.int .i64 (shC p g i j), .int .i64 (shA p g i j), .bool (evOk p g i j)]) ∧ Ext w w' := by
  have HV := hid hv
  have HU := hid hu
  obtain ⟨a1, c1, a2, c2, rfl, -, HAS⟩ := hv.form
  have l3 := HAS.le
  have l4 := HAS.cap
  obtain ⟨pu, tu, rfl, n64, t64, l64, hp, ht⟩ := hu
  clear hv hp ht t64 l64 HAS
  have x0 : Ext w ((w.alloc (.cells #[.slice a1 p.ns.length c1, .slice a2 p.gs.length c2] 38)).alloc (.cells #[.int .i64 g.n, pu, .int .i64 g.tm, .int .i64 g.t.log, tu] 43)) := (by repeat (with_reducible (first | assumption | exact Ext.refl _ | apply Ext.alloc | apply Ext.drew | apply Ext.drewN)))
  cases hok : evOk p g i j
  · have HOK := hid hok
    have HE : Hid (shC p g i j = 0 ∧ shA p g i j = 0) := hid (by unfold shC shA; rw [hok]; exact ⟨rfl, rfl⟩)
    clear hok n64
    go_enter Tryz.func14, Tryz.ntmps14
    go_wp2_with fail
    refine (iEvalOf_no lo hi lo' hi' _ _ p g i j _ (HV.out.ext hh x0) (Nat.le_trans hh x0.size) (HU.out.ext2 hh' x0) (Nat.le_trans hh' x0.size) hb hgl HOK.out).mono ?_
    rintro e w1 ⟨rfl, x1⟩
    have X1 := x0.trans x1
    go_wp2
    refine bodyPost_ret (v := .tuple #[.int .i64 0, .int .i64 0, .bool false]) (by simp [results, Tryz.results14, go_sem]) rfl ⟨by rw [HE.out.1, HE.out.2], X1⟩
  obtain ⟨n, i', j', hn, rfl, rfl, hi2, hj2, hn8, hnm⟩ := evOk_parts hok
  have bP := (Bx.made w #[.slice a1 p.ns.length c1, .slice a2 p.gs.length c2] 38).ext (show Ext _ ((w.alloc (.cells #[.slice a1 p.ns.length c1, .slice a2 p.gs.length c2] 38)).alloc (.cells #[.int .i64 g.n, pu, .int .i64 g.tm, .int .i64 g.t.log, tu] 43)) from (by repeat (with_reducible (first | assumption | exact Ext.refl _ | apply Ext.alloc | apply Ext.drew | apply Ext.drewN))))
  have bG := Bx.madeAt (B := w.heap.size + 1) (w.alloc (.cells #[.slice a1 p.ns.length c1, .slice a2 p.gs.length c2] 38)) #[.int .i64 g.n, pu, .int .i64 g.tm, .int .i64 g.t.log, tu] 43 (by simp)
  have hq := at_lt hnm hi2 hj2
  obtain ⟨q, hqe⟩ : ∃ q, j' * n + i' = q := ⟨_, rfl⟩
  rw [hqe] at hq
  have hqi : (j' : Int) * n + i' = q := by rw [← hqe]; simp
  have hEV : evV p g = p.ev n g.m g.f g.tm g.t := by unfold evV; rw [hn]; rfl
  have HEV := hid hEV
  have HC1 : Hid (shC p g i' j' = clampI (named p g q [99, 111, 108, 111, 114]) 0 256) := hid (by
    unfold shC
    rw [hok, if_pos rfl, hn, hqi]
    simp)
  have HA1 : Hid (shA p g i' j' = clampI (named p g q [97, 108, 112, 104, 97]) 0 256) := hid (by
    unfold shA
    rw [hok, if_pos rfl, hn, hqi]
    simp)
  have HOK := hid hok
  have HNN := hid hn
  rw [hn] at bG bP HU x0 ⊢
  have hm64 : g.m ≤ 64 := by rw [← hnm]; have := Nat.mul_le_mul hn8 hn8; omega
  have hjn : (j' : Int) * n ≤ 64 := by have : ((j' * n : Nat) : Int) ≤ 64 := by omega
                                       simpa using this
  have hjn0 : 0 ≤ (j' : Int) * n := by have : (0 : Int) ≤ ((j' * n : Nat) : Int) := by omega
                                       simpa using this
  obtain ⟨jn, hjne⟩ : ∃ jn, (j' : Int) * n = jn := ⟨_, rfl⟩
  rw [hjne] at hqi hjn hjn0
  have HQ := hid hqe
  have HNM := hid hnm
  clear hok hn n64 hEV hqe hnm
  go_enter Tryz.func14, Tryz.ntmps14
  go_wp2_with fail
  refine (iEvalOf_yes lo hi lo' hi' a1 a2 c1 c2 pu tu p g n i' j' _ (HV.out.ext hh x0) (Nat.le_trans hh x0.size) (HU.out.ext2 hh' x0) (Nat.le_trans hh' x0.size) hb hgl HNN.out HOK.out).mono ?_
  rintro e w1 ⟨⟨E, D, mb, rfl, hC, hI⟩, x1⟩
  have X1 := x0.trans x1
  have bP1 := bP.ext x1
  have bG1 := bG.ext x1
  have HC := hid hC
  have HI := hid hI
  have HBE := hid (hC.boxE hI)
  have HBP := hid bP1
  have hdB := hC.dB
  simp only [World.size_alloc] at hdB
  have hdl := hC.dl
  have heD := hC.eD
  have hmD := hC.mD
  have hbD : w.heap.size ≠ D := by omega
  have hbD2 : w.heap.size + 1 ≠ D := by omega
  have hbe := HBE.out
  have b := bP1.lt
  have b0 := bP1.cell 0
  simp only [List.getElem?_toArray, List.getElem?_cons_zero, List.getElem?_cons_succ] at b0
  have b1 := bP1.cell 1
  simp only [List.getElem?_toArray, List.getElem?_cons_zero, List.getElem?_cons_succ] at b1
  have d := bG1.lt
  have d0 := bG1.cell 0
  simp only [List.getElem?_toArray, List.getElem?_cons_zero, List.getElem?_cons_succ] at d0
  have d1 := bG1.cell 1
  simp only [List.getElem?_toArray, List.getElem?_cons_zero, List.getElem?_cons_succ] at d1
  have d2 := bG1.cell 2
  simp only [List.getElem?_toArray, List.getElem?_cons_zero, List.getElem?_cons_succ] at d2
  have d3 := bG1.cell 3
  simp only [List.getElem?_toArray, List.getElem?_cons_zero, List.getElem?_cons_succ] at d3
  have d4 := bG1.cell 4
  simp only [List.getElem?_toArray, List.getElem?_cons_zero, List.getElem?_cons_succ] at d4
  have e := hbe.lt
  have e0 := hbe.cell 0
  simp only [List.getElem?_toArray, List.getElem?_cons_zero, List.getElem?_cons_succ] at e0
  have e1 := hbe.cell 1
  simp only [List.getElem?_toArray, List.getElem?_cons_zero, List.getElem?_cons_succ] at e1
  have e2 := hbe.cell 2
  simp only [List.getElem?_toArray, List.getElem?_cons_zero, List.getElem?_cons_succ] at e2
  have e3 := hbe.cell 3
  simp only [List.getElem?_toArray, List.getElem?_cons_zero, List.getElem?_cons_succ] at e3
  have e4 := hbe.cell 4
  simp only [List.getElem?_toArray, List.getElem?_cons_zero, List.getElem?_cons_succ] at e4
  have e5 := hbe.cell 5
  simp only [List.getElem?_toArray, List.getElem?_cons_zero, List.getElem?_cons_succ] at e5
  have e6 := hbe.cell 6
  simp only [List.getElem?_toArray, List.getElem?_cons_zero, List.getElem?_cons_succ] at e6
  have e7 := hbe.cell 7
  simp only [List.getElem?_toArray, List.getElem?_cons_zero, List.getElem?_cons_succ] at e7
  have e8 := hbe.cell 8
  simp only [List.getElem?_toArray, List.getElem?_cons_zero, List.getElem?_cons_succ] at e8
  have HM := hid (hC.mapE hI)
  clear hC hI x0 x1 bP bG bP1 bG1 hbe
  obtain ⟨kc, hkc⟩ := HC.out.k.col
  obtain ⟨sc, rc, hgc, hrc, hkcl, _⟩ := HC.out.k.asg hkc
  have HNC : Hid (named p g q [99, 111, 108, 111, 114] = (p.ev n g.m g.f g.tm g.t rc).getD q 0) := hid (by rw [named_some hkc hgc, HEV.out])
  have HKC := hid hkc
  have HGC := hid hgc
  clear hkc hgc
  cases hka : frst p.gs p.gs.length [97, 108, 112, 104, 97] with
  | none =>
    have HKA := hid hka
    have HA2 : Hid (clampI 256 0 256 = shA p g i' j') := hid (by rw [HA1.out, named_none hka])
    have HI2 := HI
    have HBP2 := HBP
    have HX2 := hid X1
    clear hka
    go_wp2_with (at_lookup; refine wpList_first_ok _ rfl _ _ rfl _ _ _ rfl HM.out (⟨#[97, 108, 112, 104, 97]⟩ : ByteArray) (by decide) rfl none (by rw [alphaS]; exact HKA.out) ?_)
    clear b b0 b1 d d0 d1 d2 d3 d4 e e0 e1 e2 e3 e4 e5 e6 e7 e8
    have hbp2 := HBP2.out
    have hbe2 := HC.out.boxE HI2.out
    have b := hbp2.lt
    have b0 := hbp2.cell 0
    simp only [List.getElem?_toArray, List.getElem?_cons_zero, List.getElem?_cons_succ] at b0
    have b1 := hbp2.cell 1
    simp only [List.getElem?_toArray, List.getElem?_cons_zero, List.getElem?_cons_succ] at b1
    have e := hbe2.lt
    have e0 := hbe2.cell 0
    simp only [List.getElem?_toArray, List.getElem?_cons_zero, List.getElem?_cons_succ] at e0
    have e1 := hbe2.cell 1
    simp only [List.getElem?_toArray, List.getElem?_cons_zero, List.getElem?_cons_succ] at e1
    have e2 := hbe2.cell 2
    simp only [List.getElem?_toArray, List.getElem?_cons_zero, List.getElem?_cons_succ] at e2
    have e3 := hbe2.cell 3
    simp only [List.getElem?_toArray, List.getElem?_cons_zero, List.getElem?_cons_succ] at e3
    have e4 := hbe2.cell 4
    simp only [List.getElem?_toArray, List.getElem?_cons_zero, List.getElem?_cons_succ] at e4
    have e5 := hbe2.cell 5
    simp only [List.getElem?_toArray, List.getElem?_cons_zero, List.getElem?_cons_succ] at e5
    have e6 := hbe2.cell 6
    simp only [List.getElem?_toArray, List.getElem?_cons_zero, List.getElem?_cons_succ] at e6
    have e7 := hbe2.cell 7
    simp only [List.getElem?_toArray, List.getElem?_cons_zero, List.getElem?_cons_succ] at e7
    have e8 := hbe2.cell 8
    simp only [List.getElem?_toArray, List.getElem?_cons_zero, List.getElem?_cons_succ] at e8
    obtain ⟨_, zb, zo, ze, _, zl, z0, z1⟩ := (HC.out.asgs.same (HC.out.same HI2.out)).cell kc _ HGC.out
    simp only at z0 z1
    subst ze
    have hM2 := HC.out.mapE HI2.out
    have hcl : (⟨#[99, 111, 108, 111, 114]⟩ : ByteArray).size ≤ maxLen := by decide
    have hlook : ∀ dd, (Instr.lookup 73 (.map (some mb)) (.string ⟨#[99, 111, 108, 111, 114]⟩) false).run Tryz.prog (lowx w1.heap.size D w1.drew dd) = .ok (.int .i64 (kc : Int)) (lowx w1.heap.size D w1.drew dd) := fun dd => ((hM2.ext ((Ext.refl _).drew)).of_block (w' := lowx w1.heap.size D w1.drew dd) (lowx_same _ _ _ _ _ hM2.lt hmD)).look hcl (by rw [colS]; exact HKC.out)
    have hlook2 : ∀ dd, (Instr.lookup 73 (.map (some mb)) (.string ⟨#[99, 111, 108, 111, 114]⟩) false).run Tryz.prog (lowx w1.heap.size D w1 dd) = .ok (.int .i64 (kc : Int)) (lowx w1.heap.size D w1 dd) := fun dd => (hM2.of_block (w' := lowx w1.heap.size D w1 dd) (lowx_same _ _ _ _ _ hM2.lt hmD)).look hcl (by rw [colS]; exact HKC.out)
    have hzw := HX2.out.size
    have hzb : zb < w1.heap.size := by simp only [World.size_alloc] at zl; have := HI2.out.size; omega
    have hzD : zb ≠ D := by simp only [World.size_alloc] at zl; omega
    clear hbp2 hbe2 hM2
    go_wp2_with fail
    refine wp_region_stagesS [([0, 1, 2, 3, 4, 5, 6, 7, 8, 9, 10, 12], 11), ([], 13), ([], 14), ([], 15)] 99 (fun w' => ∃ d, w' = lowx (w1.heap.size) (D) _ d) (by kernel_rfl) (by kernel_rfl) ⟨_, lowx_of (fun _ _ _ => rfl)⟩ ?_
    refine wpStagesS_cons ?_
    simp only [List.filterMap_cons, List.filterMap_nil, List.getElem?_toArray, List.getElem?_cons_zero, List.getElem?_cons_succ]
    show wpQuiet _ _ _ _ [_, _, _, _, _, _, _, _, _, _, _, _] _
    repeat (go_big_quiet_step (fail))
    refine wpQuiet_nil ⟨_, rfl, fun K hK => ?_⟩
    go_wp2_with fail
    refine (iValues_any HC.out (p.rank rc + 1) rc _ (Nat.lt_succ_self _) hrc (HI2.out.ext ((Ext.refl _).drew))).mono ?_
    rintro e w5 ⟨⟨tg, tc, rfl, hO⟩, hI5, hg5⟩
    obtain ⟨t1, t2, t3, t4⟩ := row_at hO (HC.out.good rc hrc).1 hq
    rw [← HNC.out] at t4
    have HG5 := hid hg5
    have HX5 := hid (HX2.out.grown (grownBy.trans (grown_ext ((Ext.refl w1).drew) _) hg5 : w1.grownBy w5 (some D)) (fun k hk => by injection hk with hk; omega))
    clear hO hI5 hg5 hlook hlook2 z0 z1
    go_wp2_with fail
    refine hK _ _ (.inr ⟨_, lowx_of (SameX.gr HG5.out (Nat.le_refl _))⟩) ?_
    clear hK K
    refine wpStagesS_cons ?_
    simp only [List.filterMap_nil]
    show wpQuiet _ _ _ _ [] _
    try simp only [Act.put, List.setIfInBounds_toArray, List.set_cons_succ, List.set_cons_zero]
    repeat (go_big_quiet_step (fail))
    refine wpQuiet_nil ⟨_, rfl, fun K hK => ?_⟩
    go_wp2_with fail
    go_wp2_with fail
    refine hK _ _ (.inr ⟨_, lowx_of (SameX.gr HG5.out (Nat.le_refl _))⟩) ?_
    clear hK K
    refine wpStagesS_cons ?_
    simp only [List.filterMap_nil]
    show wpQuiet _ _ _ _ [] _
    try simp only [Act.put, List.setIfInBounds_toArray, List.set_cons_succ, List.set_cons_zero]
    repeat (go_big_quiet_step (fail))
    refine wpQuiet_nil ⟨_, rfl, fun K hK => ?_⟩
    go_wp2_with fail
    go_wp2_with fail
    refine hK _ _ (.inr ⟨_, lowx_of (SameX.gr HG5.out (Nat.le_refl _))⟩) ?_
    clear hK K
    refine wpStagesS_cons ?_
    simp only [List.filterMap_nil]
    show wpQuiet _ _ _ _ [] _
    try simp only [Act.put, List.setIfInBounds_toArray, List.set_cons_succ, List.set_cons_zero]
    repeat (go_big_quiet_step (fail))
    refine wpQuiet_nil ⟨_, rfl, fun K hK => ?_⟩
    go_wp2_with fail
    go_wp2_with fail
    refine hK _ _ (.inr ⟨_, lowx_of (SameX.gr HG5.out (Nat.le_refl _))⟩) ?_
    clear hK K
    refine wpStagesS_nil ?_
    go_wp2_with fail
    refine (iClamp_val HC1.out.symm _).mono ?_
    rintro e w6 ⟨rfl, rfl⟩
    go_wp2_with fail
    refine (iClamp_val HA2.out _).mono ?_
    rintro e w7 ⟨rfl, rfl⟩
    go_wp2
    refine bodyPost_ret (v := .tuple #[.int .i64 (shC p g i' j'), .int .i64 (shA p g i' j'), .bool true]) (by simp [results, Tryz.results14, go_sem]) rfl ⟨rfl, HX5.out⟩
  | some ka =>
    obtain ⟨sa, ra, hga, hra, hkal, _⟩ := HC.out.k.asg hka
    have HKA := hid hka
    have HNA : Hid (named p g q [97, 108, 112, 104, 97] = (p.ev n g.m g.f g.tm g.t ra).getD q 0) := hid (by rw [named_some hka hga, HEV.out])
    have HA2 : Hid (clampI (named p g q [97, 108, 112, 104, 97]) 0 256 = shA p g i' j') := hid HA1.out.symm
    obtain ⟨_, yb, yo, ye, _, yl, y0, y1⟩ := (HC.out.asgs.same (HC.out.same HI.out)).cell ka _ hga
    simp only at y0 y1
    subst ye
    have hyw : yb < w1.heap.size := by simp only [World.size_alloc] at yl; have := X1.size; omega
    have hka2 : ka ≤ 1048576 := by omega
    clear hka hga
    go_wp2_with (at_lookup; refine wpList_first_ok _ rfl _ _ rfl _ _ _ rfl HM.out (⟨#[97, 108, 112, 104, 97]⟩ : ByteArray) (by decide) rfl (some ka) (by rw [alphaS]; exact HKA.out) ?_)
    refine (iValues_any HC.out (p.rank ra + 1) ra _ (Nat.lt_succ_self _) hra HI.out).mono ?_
    rintro e w3 ⟨⟨tg, tc, rfl, hO⟩, hI3, hg3⟩
    obtain ⟨t1, t2, t3, t4⟩ := row_at hO (HC.out.good ra hra).1 hq
    rw [← HNA.out] at t4
    have HI2 := hid hI3
    have HBP2 : Hid (Bx w3 w.heap.size #[.slice a1 p.ns.length c1, .slice (some ⟨yb, yo, none⟩) p.gs.length c2] 38) := hid ((hg3.block w.heap.size HBP.out.lt (by simp; omega)).trans HBP.out)
    have HX2 := hid (X1.grown hg3 (fun k hk => by injection hk with hk; omega))
    clear hO hI3 hg3 b b0 b1 d d0 d1 d2 d3 d4 e e0 e1 e2 e3 e4 e5 e6 e7 e8 y0 y1
    go_wp2_with fail
    have hbp2 := HBP2.out
    have hbe2 := HC.out.boxE HI2.out
    have b := hbp2.lt
    have b0 := hbp2.cell 0
    simp only [List.getElem?_toArray, List.getElem?_cons_zero, List.getElem?_cons_succ] at b0
    have b1 := hbp2.cell 1
    simp only [List.getElem?_toArray, List.getElem?_cons_zero, List.getElem?_cons_succ] at b1
    have e := hbe2.lt
    have e0 := hbe2.cell 0
    simp only [List.getElem?_toArray, List.getElem?_cons_zero, List.getElem?_cons_succ] at e0
    have e1 := hbe2.cell 1
    simp only [List.getElem?_toArray, List.getElem?_cons_zero, List.getElem?_cons_succ] at e1
    have e2 := hbe2.cell 2
    simp only [List.getElem?_toArray, List.getElem?_cons_zero, List.getElem?_cons_succ] at e2
    have e3 := hbe2.cell 3
    simp only [List.getElem?_toArray, List.getElem?_cons_zero, List.getElem?_cons_succ] at e3
    have e4 := hbe2.cell 4
    simp only [List.getElem?_toArray, List.getElem?_cons_zero, List.getElem?_cons_succ] at e4
    have e5 := hbe2.cell 5
    simp only [List.getElem?_toArray, List.getElem?_cons_zero, List.getElem?_cons_succ] at e5
    have e6 := hbe2.cell 6
    simp only [List.getElem?_toArray, List.getElem?_cons_zero, List.getElem?_cons_succ] at e6
    have e7 := hbe2.cell 7
    simp only [List.getElem?_toArray, List.getElem?_cons_zero, List.getElem?_cons_succ] at e7
    have e8 := hbe2.cell 8
    simp only [List.getElem?_toArray, List.getElem?_cons_zero, List.getElem?_cons_succ] at e8
    obtain ⟨_, zb, zo, ze, _, zl, z0, z1⟩ := (HC.out.asgs.same (HC.out.same HI2.out)).cell kc _ HGC.out
    simp only at z0 z1
    simp only [Option.some.injEq, Addr.mk.injEq, and_true] at ze
    obtain ⟨rfl, rfl⟩ := ze
    have hM2 := HC.out.mapE HI2.out
    have hcl : (⟨#[99, 111, 108, 111, 114]⟩ : ByteArray).size ≤ maxLen := by decide
    have hlook : ∀ dd, (Instr.lookup 73 (.map (some mb)) (.string ⟨#[99, 111, 108, 111, 114]⟩) false).run Tryz.prog (lowx w3.heap.size D w3.drew dd) = .ok (.int .i64 (kc : Int)) (lowx w3.heap.size D w3.drew dd) := fun dd => ((hM2.ext ((Ext.refl _).drew)).of_block (w' := lowx w3.heap.size D w3.drew dd) (lowx_same _ _ _ _ _ hM2.lt hmD)).look hcl (by rw [colS]; exact HKC.out)
    have hlook2 : ∀ dd, (Instr.lookup 73 (.map (some mb)) (.string ⟨#[99, 111, 108, 111, 114]⟩) false).run Tryz.prog (lowx w3.heap.size D w3 dd) = .ok (.int .i64 (kc : Int)) (lowx w3.heap.size D w3 dd) := fun dd => (hM2.of_block (w' := lowx w3.heap.size D w3 dd) (lowx_same _ _ _ _ _ hM2.lt hmD)).look hcl (by rw [colS]; exact HKC.out)
    have hzw := HX2.out.size
    have hzb : yb < w3.heap.size := by simp only [World.size_alloc] at zl; have := HI2.out.size; omega
    have hzD : yb ≠ D := by simp only [World.size_alloc] at zl; omega
    clear hbp2 hbe2 hM2
    go_wp2_with fail
    refine wp_region_stagesS [([0, 1, 2, 3, 4, 5, 6, 7, 8, 9, 10, 12], 11), ([], 13), ([], 14), ([], 15)] 99 (fun w' => ∃ d, w' = lowx (w3.heap.size) (D) _ d) (by kernel_rfl) (by kernel_rfl) ⟨_, lowx_of (fun _ _ _ => rfl)⟩ ?_
    refine wpStagesS_cons ?_
    simp only [List.filterMap_cons, List.filterMap_nil, List.getElem?_toArray, List.getElem?_cons_zero, List.getElem?_cons_succ]
    show wpQuiet _ _ _ _ [_, _, _, _, _, _, _, _, _, _, _, _] _
    repeat (go_big_quiet_step (fail))
    refine wpQuiet_nil ⟨_, rfl, fun K hK => ?_⟩
    go_wp2_with fail
    refine (iValues_any HC.out (p.rank rc + 1) rc _ (Nat.lt_succ_self _) hrc (HI2.out.ext ((Ext.refl _).drew))).mono ?_
    rintro e w5 ⟨⟨tg, tc, rfl, hO⟩, hI5, hg5⟩
    obtain ⟨t1, t2, t3, t4⟩ := row_at hO (HC.out.good rc hrc).1 hq
    rw [← HNC.out] at t4
    have HG5 := hid hg5
    have HX5 := hid (HX2.out.grown (grownBy.trans (grown_ext ((Ext.refl w3).drew) _) hg5 : w3.grownBy w5 (some D)) (fun k hk => by injection hk with hk; omega))
    clear hO hI5 hg5 hlook hlook2 z0 z1
    go_wp2_with fail
    refine hK _ _ (.inr ⟨_, lowx_of (SameX.gr HG5.out (Nat.le_refl _))⟩) ?_
    clear hK K
    refine wpStagesS_cons ?_
    simp only [List.filterMap_nil]
    show wpQuiet _ _ _ _ [] _
    try simp only [Act.put, List.setIfInBounds_toArray, List.set_cons_succ, List.set_cons_zero]
    repeat (go_big_quiet_step (fail))
    refine wpQuiet_nil ⟨_, rfl, fun K hK => ?_⟩
    go_wp2_with fail
    go_wp2_with fail
    refine hK _ _ (.inr ⟨_, lowx_of (SameX.gr HG5.out (Nat.le_refl _))⟩) ?_
    clear hK K
    refine wpStagesS_cons ?_
    simp only [List.filterMap_nil]
    show wpQuiet _ _ _ _ [] _
    try simp only [Act.put, List.setIfInBounds_toArray, List.set_cons_succ, List.set_cons_zero]
    repeat (go_big_quiet_step (fail))
    refine wpQuiet_nil ⟨_, rfl, fun K hK => ?_⟩
    go_wp2_with fail
    go_wp2_with fail
    refine hK _ _ (.inr ⟨_, lowx_of (SameX.gr HG5.out (Nat.le_refl _))⟩) ?_
    clear hK K
    refine wpStagesS_cons ?_
    simp only [List.filterMap_nil]
    show wpQuiet _ _ _ _ [] _
    try simp only [Act.put, List.setIfInBounds_toArray, List.set_cons_succ, List.set_cons_zero]
    repeat (go_big_quiet_step (fail))
    refine wpQuiet_nil ⟨_, rfl, fun K hK => ?_⟩
    go_wp2_with fail
    go_wp2_with fail
    refine hK _ _ (.inr ⟨_, lowx_of (SameX.gr HG5.out (Nat.le_refl _))⟩) ?_
    clear hK K
    refine wpStagesS_nil ?_
    go_wp2_with fail
    refine (iClamp_val HC1.out.symm _).mono ?_
    rintro e w6 ⟨rfl, rfl⟩
    go_wp2_with fail
    refine (iClamp_val HA2.out _).mono ?_
    rintro e w7 ⟨rfl, rfl⟩
    go_wp2
    refine bodyPost_ret (v := .tuple #[.int .i64 (shC p g i' j'), .int .i64 (shA p g i' j'), .bool true]) (by simp [results, Tryz.results14, go_sem]) rfl ⟨rfl, HX5.out⟩
end Go.Proofs.YtjfcngbepjdfnaaGreat
end

section
/- This text holds the memory of the reference's evaluation, its known values, and the law of regions in which two blocks are written. -/
namespace Go.Proofs.YtjfcngbepjdfnaaGreat
open Go.RowKit

/-- every block of w but X and Y stands in w' -/
structure Kept2 (X Y : Nat) (w w' : World) : Prop where
  os : w'.os = w.os
  tape : w'.tape = w.tape
  output : w'.output = w.output
  size : w.heap.size ≤ w'.heap.size
  block : ∀ b, b < w.heap.size → b ≠ X → b ≠ Y → w'.heap[b]? = w.heap[b]?
theorem Kept2.refl (X Y : Nat) (w : World) : Kept2 X Y w w := ⟨rfl, rfl, rfl, Nat.le_refl _, fun _ _ _ _ => rfl⟩
theorem Kept2.trans {X Y : Nat} {w w1 w2 : World} (h : Kept2 X Y w w1) (k : Kept2 X Y w1 w2) : Kept2 X Y w w2 :=
  ⟨k.os.trans h.os, k.tape.trans h.tape, k.output.trans h.output, Nat.le_trans h.size k.size, fun b hb hx hy => (k.block b (by have := h.size; omega) hx hy).trans (h.block b hb hx hy)⟩
theorem Ext.k2 {w w' : World} (h : Ext w w') (X Y : Nat) : Kept2 X Y w w' := ⟨h.os, h.tape, h.output, h.size, fun _ hb _ _ => h.block hb⟩
theorem Kept2.ext {X Y : Nat} {w w1 w2 : World} (h : Ext w w1) (k : Kept2 X Y w1 w2) (hX : w.heap.size ≤ X) (hY : w.heap.size ≤ Y) : Ext w w2 :=
  ⟨k.os.trans h.os, k.tape.trans h.tape, k.output.trans h.output, Nat.le_trans h.size k.size, fun b hb => (k.block b (by have := h.size; omega) (by omega) (by omega)).trans (h.block hb)⟩
/-- the blocks below N but X and Y -/
def Same2 (N X Y : Nat) (w w' : World) : Prop := ∀ b, b < N → b ≠ X → b ≠ Y → w'.heap[b]? = w.heap[b]?
theorem Kept2.same {X Y : Nat} {w w' : World} (h : Kept2 X Y w w') {N : Nat} (hN : N ≤ w.heap.size) : Same2 N X Y w w' := fun b hb hx hy => h.block b (by omega) hx hy
open Classical in
noncomputable def low2 (N X Y : Nat) (w d : World) : World := if Same2 N X Y w d then d else w
theorem low2_same (N X Y : Nat) (w d : World) : Same2 N X Y w (low2 N X Y w d) := by
  unfold low2
  split
  · assumption
  · exact fun _ _ _ _ => rfl
theorem low2_of {N X Y : Nat} {w d : World} (h : Same2 N X Y w d) : d = low2 N X Y w d := by unfold low2; rw [if_pos h]
@[go_sem] theorem cell?_low2 (N X Y : Nat) (w d : World) (a : Addr) (h : a.block < N) (hx : a.block ≠ X) (hy : a.block ≠ Y) : (low2 N X Y w d).cell? a = w.cell? a := World.cell?_of_block (w := w) (low2_same N X Y w d a.block h hx hy)
@[go_sem] theorem frozen?_low2 (N X Y : Nat) (w d : World) (a : Addr) (h : a.block < N) (hx : a.block ≠ X) (hy : a.block ≠ Y) : (low2 N X Y w d).frozen? a = w.frozen? a := World.frozen?_of_block (w := w) (low2_same N X Y w d a.block h hx hy)

/-- what stands while the reference evaluates: the memo's box M, its blocks KD and VD -/
structure EsC (p : Prg) (V : Nat → List Int) (B M KD VD : Nat) (a1 a2 oa : Option Addr) (c1 c2 oc n m : Nat) (pu tu : Value) (f : Nat → Int) (tm : Int) (t : Tex) (W : World) : Prop where
  nodes : NdsAt 0 B W a1 c1 p.ns
  asgs : AsgsAt 0 B W a2 c2 p.gs
  own : IntsAt 0 B W oa oc p.ownL
  bd : p.bd
  k : p.K
  gl : p.gs.length ≤ 1048576
  pts : Flats 5 0 B W pu m f
  tex : TexR 0 B W (.agg #[.int .i64 t.log, tu]) t
  hm : n * n = m
  n1 : 1 ≤ n
  n8 : n ≤ 8
  ok : t.okB = true
  tm9 : S9 tm
  f9 : ∀ i, i < m * 5 → S9 (f i)
  step : ∀ (j : Nat) (x : Nd), p.ns[j]? = some x → V j = evB p n m f tm t V x
  good : ∀ j, j < p.ns.length → good m (V j)
  bB : B ≤ W.heap.size
  box : Bx W M #[.slice (some ⟨KD, 0, none⟩) (p.ns.length * m) (p.ns.length * m), .slice (some ⟨VD, 0, none⟩) (p.ns.length * m) (p.ns.length * m)] 93
  kB : B ≤ KD
  vB : B ≤ VD
  kl : KD < W.heap.size
  vl : VD < W.heap.size
  kv : KD ≠ VD
  mK : M ≠ KD
  mV : M ≠ VD
/-- its known values in a world that W came to -/
structure EsI (p : Prg) (V : Nat → List Int) (m KD VD : Nat) (W w : World) : Prop where
  kept : Kept2 KD VD W w
  row : ∃ (kf : Nat → Bool) (vf : Nat → Int), w.rowIs KD 4 (p.ns.length * m) (fun i => .bool (kf i)) ∧ RowI w VD 3 (p.ns.length * m) vf ∧ ∀ (node q : Nat), node < p.ns.length → q < m → kf (node * m + q) = true → vf (node * m + q) = (V node).getD q 0
section
variable {p : Prg} {V : Nat → List Int} {B M KD VD : Nat} {a1 a2 oa : Option Addr} {c1 c2 oc n m : Nat} {pu tu : Value} {f : Nat → Int} {tm : Int} {t : Tex} {W w w' : World}
theorem EsI.ext (h : EsI p V m KD VD W w) (e : Ext w w') : EsI p V m KD VD W w' := by
  obtain ⟨kf, vf, h1, h2, h3⟩ := h.row
  exact ⟨h.kept.trans (e.k2 _ _), kf, vf, World.rowIs.of_block h1 (e.block (World.rowIs.lt h1)), h2.ext e, h3⟩
theorem EsC.same (C : EsC p V B M KD VD a1 a2 oa c1 c2 oc n m pu tu f tm t W) (h : EsI p V m KD VD W w) : Same 0 B W w := fun b _ hb => h.kept.block b (by have := C.bB; omega) (by have := C.kB; omega) (by have := C.vB; omega)
theorem EsC.boxE (C : EsC p V B M KD VD a1 a2 oa c1 c2 oc n m pu tu f tm t W) (h : EsI p V m KD VD W w) : Bx w M #[.slice (some ⟨KD, 0, none⟩) (p.ns.length * m) (p.ns.length * m), .slice (some ⟨VD, 0, none⟩) (p.ns.length * m) (p.ns.length * m)] 93 :=
  (h.kept.block M C.box.lt C.mK C.mV).trans C.box
theorem ix_lt {N node q m : Nat} (h : node < N) (hq : q < m) : node * m + q < N * m := by
  have h1 : (node + 1) * m ≤ N * m := Nat.mul_le_mul_right m h
  rw [Nat.add_mul, Nat.one_mul] at h1
  omega
theorem ix_inj {a b q r m : Nat} (hq : q < m) (hr : r < m) (h : a * m + q = b * m + r) : a = b ∧ q = r := by
  have hm : 0 < m := by omega
  have h1 : (a * m + q) / m = a := by rw [Nat.mul_comm, Nat.mul_add_div hm, Nat.div_eq_of_lt hq, Nat.add_zero]
  have h2 : (b * m + r) / m = b := by rw [Nat.mul_comm, Nat.mul_add_div hm, Nat.div_eq_of_lt hr, Nat.add_zero]
  have : a = b := by rw [← h1, ← h2, h]
  subst this
  exact ⟨rfl, by omega⟩
/-- a value is looked up: its marks -/
theorem EsI.load (h : EsI p V m KD VD W w) {node q : Nat} (hn : node < p.ns.length) (hq : q < m) :
    KD < w.heap.size ∧ VD < w.heap.size ∧ ∃ (kb : Bool) (x y : Int), w.cell? ⟨KD, node * m + q, none⟩ = some (.bool kb) ∧ w.frozen? ⟨KD, node * m + q, none⟩ = false ∧ w.cell? ⟨VD, node * m + q, none⟩ = some (.int .i64 x) ∧ w.frozen? ⟨VD, node * m + q, none⟩ = false ∧ (kb = true → x = (V node).getD q 0) := by
  obtain ⟨kf, vf, h1, h2, h3⟩ := h.row
  have hl := ix_lt hn hq
  exact ⟨World.rowIs.lt h1, h2.lt, kf (node * m + q), vf (node * m + q), 0, World.rowIs.cell h1 hl, World.rowIs.frozen h1 _, h2.cell hl, h2.frozen _, fun hk => h3 node q hn hq hk⟩
/-- a value is stored and marked known -/
theorem EsI.store (h : EsI p V m KD VD W w) (hkv : KD ≠ VD) {node q : Nat} (hn : node < p.ns.length) (hq : q < m) :
    EsI p V m KD VD W ((w.setCell ⟨KD, node * m + q, none⟩ (.bool true)).setCell ⟨VD, node * m + q, none⟩ (.int .i64 ((V node).getD q 0))) ∧ Kept2 KD VD w ((w.setCell ⟨KD, node * m + q, none⟩ (.bool true)).setCell ⟨VD, node * m + q, none⟩ (.int .i64 ((V node).getD q 0))) := by
  obtain ⟨kf, vf, h1, h2, h3⟩ := h.row
  have hK : Kept2 KD VD w ((w.setCell ⟨KD, node * m + q, none⟩ (.bool true)).setCell ⟨VD, node * m + q, none⟩ (.int .i64 ((V node).getD q 0))) :=
    ⟨rfl, rfl, rfl, by simp, fun b _ hx hy => (Below.heap_setCell _ _ _ _ hy).trans (Below.heap_setCell _ _ _ _ hx)⟩
  have r1 := World.rowIs.set h1 (node * m + q) (.bool true)
  have r2 := World.rowIs.set h2 (node * m + q) (.int .i64 ((V node).getD q 0))
  refine ⟨⟨h.kept.trans hK, fun i => if i = node * m + q then true else kf i, fun i => if i = node * m + q then (V node).getD q 0 else vf i, ?_, ?_, ?_⟩, hK⟩
  · refine World.rowIs.of_block (World.rowIs.congr r1 fun i _ => by by_cases e : i = node * m + q <;> simp [e]) (Below.heap_setCell _ _ _ _ hkv)
  · have r3 := World.rowIs.set (World.rowIs.of_block (w' := w.setCell ⟨KD, node * m + q, none⟩ (.bool true)) h2 (Below.heap_setCell _ _ _ _ (Ne.symm hkv))) (node * m + q) (.int .i64 ((V node).getD q 0))
    exact World.rowIs.congr r3 fun i _ => by by_cases e : i = node * m + q <;> simp [e]
  · intro nd r hnd hr hk
    by_cases e : nd * m + r = node * m + q
    · obtain ⟨rfl, rfl⟩ := ix_inj hr hq e
      simp
    · simp only [e, if_false] at hk ⊢
      exact h3 nd r hnd hr hk
end
/-- the reference's evaluation of nodes that are known before F -/
def GetOk (p : Prg) (V : Nat → List Int) (M KD VD : Nat) (a1 a2 oa : Option Addr) (c1 c2 oc n m : Nat) (pu tu : Value) (tm : Int) (t : Tex) (W : World) (F : Nat) : Prop :=
  ∀ (node i j : Nat) (w : World), p.rank node < F → node < p.ns.length → i < n → j < n → EsI p V m KD VD W w →
    Calls Tryz.prog 41 #[.agg #[.slice a1 p.ns.length c1, .slice a2 p.gs.length c2], .agg #[.int .i64 n, pu, .int .i64 tm, .int .i64 t.log, tu], .slice oa p.ns.length oc, .pointer (some ⟨M, 0, none⟩), .int .i64 node, .int .i64 i, .int .i64 j] w fun e w' =>
      e = .returned (.int .i64 ((V node).getD (j * n + i) 0)) ∧ EsI p V m KD VD W w' ∧ Kept2 KD VD w w'
theorem dVal_one (xs : List Int) (rows : Bool) (q : Nat) : dVal xs 1 rows q = 0 := by simp [dVal]
theorem dVal_cols {xs : List Int} {n i j : Nat} (hi : i < n) (h1 : n ≠ 1) : dVal xs n false (j * n + i) = if i + 1 < n then satI (xs.getD (j * n + (i + 1)) 0 - xs.getD (j * n + i) 0) else satI (xs.getD (j * n + i) 0 - xs.getD (j * n + (i - 1)) 0) := by
  have e : dAt n (j * n + i) false = i := by
    simp only [dAt, Bool.false_eq_true, if_false]
    rw [Nat.add_comm, Nat.add_mul_mod_self_right, Nat.mod_eq_of_lt hi]
  unfold dVal
  rw [if_neg h1, e]
  simp only [dStep, Bool.false_eq_true, if_false]
  by_cases h : i + 1 < n
  · rw [if_pos (by omega), if_pos h, Nat.add_assoc]
  · rw [if_neg (by omega), if_neg h, Nat.add_sub_assoc (by omega)]
theorem dVal_rows {xs : List Int} {n i j : Nat} (hi : i < n) (hj : j < n) (h1 : n ≠ 1) : dVal xs n true (j * n + i) = if j + 1 < n then satI (xs.getD ((j + 1) * n + i) 0 - xs.getD (j * n + i) 0) else satI (xs.getD (j * n + i) 0 - xs.getD ((j - 1) * n + i) 0) := by
  have e : dAt n (j * n + i) true = j := by
    simp only [dAt, if_true]
    rw [Nat.mul_comm, Nat.mul_add_div (by omega), Nat.div_eq_of_lt hi, Nat.add_zero]
  unfold dVal
  rw [if_neg h1, e]
  simp only [dStep, if_true]
  by_cases h : j + 1 < n
  · rw [if_pos (by omega), if_pos h, Nat.add_mul, Nat.one_mul, show j * n + i + n = j * n + n + i by omega]
  · obtain ⟨k, rfl⟩ : ∃ k, j = k + 1 := ⟨j - 1, by omega⟩
    rw [if_neg (by omega), if_neg h, Nat.add_sub_cancel, Nat.add_mul, Nat.one_mul, show k * n + n + i - n = k * n + i by omega]
end Go.Proofs.YtjfcngbepjdfnaaGreat
end

section
/- This text proves the reference's derivative at a point. -/
namespace Go.Proofs.YtjfcngbepjdfnaaGreat
open Go.RowKit

section
variable {p : Prg} {V : Nat → List Int} {B M KD VD : Nat} {a1 a2 oa : Option Addr} {c1 c2 oc n m : Nat} {pu tu : Value} {f : Nat → Int} {tm : Int} {t : Tex} {W w w' : World}
theorem l17Pair_up {n i : Nat} (w : World) (hn : n ≤ 1000) (hi : i + 1 < n) : Calls Tryz.prog 98 #[.int .i64 n, .int .i64 i] w fun e w' => e = .returned (.tuple #[.int .i64 (i : Nat), .int .i64 ((i + 1 : Nat) : Int)]) ∧ w = w' := (l17Pair_any n i w hn (by omega)).mono fun e w' h => by rw [if_pos hi, if_pos hi] at h; exact h
theorem l17Pair_dn {n i : Nat} (w : World) (hn : n ≤ 1000) (hi : ¬ (i + 1 + 1 < n)) (hi2 : i + 1 < n) : Calls Tryz.prog 98 #[.int .i64 n, .int .i64 ((i + 1 : Nat) : Int)] w fun e w' => e = .returned (.tuple #[.int .i64 (i : Nat), .int .i64 ((i + 1 : Nat) : Int)]) ∧ w = w' := (l17Pair_any n (i + 1) w hn (by omega)).mono fun e w' h => by
  rw [if_neg hi, if_neg hi] at h
  have e1 : (((i + 1 : Nat) : Int) - 1) = (i : Nat) := by omega
  rw [e1] at h
  exact h
set_option maxRecDepth 100000 in
set_option maxHeartbeats 25600000 in
theorem sDeriv_any (C : EsC p V B M KD VD a1 a2 oa c1 c2 oc n m pu tu f tm t W) {F : Nat} (HG : GetOk p V M KD VD a1 a2 oa c1 c2 oc n m pu tu tm t W F) (rows : Bool) (num : Int) (s : ByteArray) (sa : Option Addr) (sc a i j : Nat) (hs : s.toList = if rows then [100, 118] else [100, 117]) (w : World)
    (HA : IntsAt 0 B W sa sc [(a : Int)]) (ha : p.rank a < F) (hal : a < p.ns.length) (hi : i < n) (hj : j < n) (hI : EsI p V m KD VD W w) :
    Calls Tryz.prog 78 #[.agg #[.slice a1 p.ns.length c1, .slice a2 p.gs.length c2], .agg #[.int .i64 n, pu, .int .i64 tm, .int .i64 t.log, tu], .slice oa p.ns.length oc, .pointer (some ⟨M, 0, none⟩), .agg #[.int .i64 8, .string s, .int .i64 num, .slice sa 1 sc], .int .i64 i, .int .i64 j] w fun e w' =>
      e = .returned (.int .i64 (dVal (V a) n rows (j * n + i))) ∧ EsI p V m KD VD W w' ∧ Kept2 KD VD w w' := by
  have x0 : Ext w (((w.alloc (.cells #[.slice a1 p.ns.length c1, .slice a2 p.gs.length c2] 38)).alloc (.cells #[.int .i64 n, pu, .int .i64 tm, .int .i64 t.log, tu] 43)).alloc (.cells #[.int .i64 8, .string s, .int .i64 num, .slice sa 1 sc] 94)) := (by repeat (with_reducible (first | assumption | exact Ext.refl _ | apply Ext.alloc | apply Ext.drew | apply Ext.drewN)))
  by_cases h1 : n = 1
  · subst h1
    rw [dVal_one]
    have HI := hid (hI.ext x0)
    clear hI C HG HA
    go_enter Tryz.func78, Tryz.ntmps78
    go_wp2
    go_ret
    exact ⟨rfl, HI.out, x0.k2 _ _⟩
  have hn1 : ((n : Int) == 1) = false := beq_eq_false_iff_ne.2 (by omega)
  have hn8 := C.n8
  obtain ⟨rb, ro, re, _, hrB, rc⟩ := (HA.same (C.same hI)).at (k := 0) (by simp)
  subst re
  simp only [Nat.add_zero, List.getElem_cons_zero] at rc
  have lc1 := HA.le
  have lc2 := HA.cap
  simp only [List.length_cons, List.length_nil, Nat.zero_add] at lc1
  have hbW := C.bB
  have hkB := C.kB
  have hvB := C.vB
  have hWw := hI.kept.size
  have hklt := C.kl
  have hvlt := C.vl
  have hgd := C.good a hal
  have S9at : ∀ q, S9 ((V a).getD q 0) := fun q => by
    rw [List.getD_eq_getElem?_getD]
    cases e : (V a)[q]? with
    | none => exact ⟨by simp, by simp⟩
    | some y => exact hgd.2 y (List.mem_of_getElem? e)
  have HC := hid C
  have HGG := hid HG
  have HI := hid (hI.ext x0)
  have HS9 := hid S9at
  have hrK : rb ≠ KD := by omega
  have hrV : rb ≠ VD := by omega
  have k1 : w.heap.size ≠ KD := by omega
  have k2 : w.heap.size ≠ VD := by omega
  have k3 : w.heap.size + 1 ≠ KD := by omega
  have k4 : w.heap.size + 1 ≠ VD := by omega
  have k5 : w.heap.size + 1 + 1 ≠ KD := by omega
  have k6 : w.heap.size + 1 + 1 ≠ VD := by omega
  have r1 : rb < w.heap.size := by omega
  have r2 : rb ≤ w.heap.size := by omega
  have r3 : rb ≤ w.heap.size + 1 := by omega
  have r4 : rb ≤ w.heap.size + 1 + 1 := by omega
  have r5 : rb < w.heap.size + 1 + 1 + 1 := by omega
  have r6 : rb ≠ w.heap.size := by omega
  have r7 : rb ≠ w.heap.size + 1 := by omega
  have r8 : rb ≠ w.heap.size + 1 + 1 := by omega
  have HX0 := hid x0
  clear hI C HG HA S9at hgd x0 hbW hkB hvB hWw hklt hvlt hrB
  cases rows
  case false =>
    by_cases hup : i + 1 < n
    · skip
      have hup : i + 1 < n := by assumption
      have hV : dVal (V a) n false (j * n + i) = satI ((V a).getD (j * n + (i + 1)) 0 - (V a).getD (j * n + i) 0) := by rw [dVal_cols hi h1, if_pos hup]
      rw [hV]
      clear hV
      have e := conc (l := [100, 117]) hs
      subst e
      have rc3 := (HX0.out.cells.1 rb ro r1).trans rc
      have hqb : (j * n + (i + 1)) = j * n + (i + 1) := rfl
      obtain ⟨xb, hxb⟩ : ∃ x, (V a).getD (j * n + (i + 1)) 0 = x := ⟨_, rfl⟩
      obtain ⟨xa, hxa⟩ : ∃ x, (V a).getD (j * n + i) 0 = x := ⟨_, rfl⟩
      have sb := HS9.out (j * n + (i + 1))
      have sa' := HS9.out (j * n + i)
      rw [hxb] at sb
      rw [hxa] at sa'
      rw [hxb, hxa]
      have sb1 := sb.1
      have sb2 := sb.2
      have sa1 := sa'.1
      have sa2 := sa'.2
      have HXB := hid hxb
      have HXA := hid hxa
      obtain ⟨z, hz⟩ : ∃ z, satI (xb - xa) = z := ⟨_, rfl⟩
      have HZ := hid hz
      rw [hz]
      clear hs sb sa' hxb hxa hqb hz
      go_enter Tryz.func78, Tryz.ntmps78
      go_wp2_with fail
      refine (l17Pair_up _ (by omega) (by omega)).mono ?_
      rintro e w2 ⟨rfl, rfl⟩
      go_wp2_with fail
      refine wp_region_stagesS [([0, 1, 2, 3, 4, 5, 6, 7, 8, 9, 11, 12, 13, 14, 15, 16, 17, 18, 19, 20], 10), ([], 21), ([22], 23), ([], 24)] 99 (fun w' => ∃ d, w' = low2 (w.heap.size + 1 + 1 + 1) (KD) (VD) _ d) (by kernel_rfl) (by kernel_rfl) ⟨_, low2_of (fun _ _ _ _ => rfl)⟩ ?_
      refine wpStagesS_cons ?_
      simp only [List.filterMap_cons, List.filterMap_nil, List.getElem?_toArray, List.getElem?_cons_zero, List.getElem?_cons_succ]
      show wpQuiet _ _ _ _ [_, _, _, _, _, _, _, _, _, _, _, _, _, _, _, _, _, _, _, _] _
      repeat (go_big_quiet_step (fail))
      refine wpQuiet_nil ⟨_, rfl, fun K hK => ?_⟩
      go_wp2_with fail
      refine (HGG.out a (i + 1) j _ ha hal (by omega) (by omega) (HI.out.ext ((Ext.refl _).drew))).mono ?_
      rintro e w4 ⟨rfl, hI4, hk4⟩
      rw [HXB.out]
      have HK4 := hid hk4
      have HI4 := hid hI4
      clear hk4 hI4
      go_wp2_with fail
      refine hK _ _ (.inr ⟨_, low2_of (HK4.out.same (by simp))⟩) ?_
      clear hK K
      refine wpStagesS_cons ?_
      simp only [List.filterMap_nil]
      show wpQuiet _ _ _ _ [] _
      try simp only [Act.put, List.setIfInBounds_toArray, List.set_cons_succ, List.set_cons_zero]
      repeat (go_big_quiet_step (fail))
      refine wpQuiet_nil ⟨_, rfl, fun K hK => ?_⟩
      go_wp2_with fail
      refine (HGG.out a i j _ ha hal (by omega) (by omega) HI4.out).mono ?_
      rintro e w5 ⟨rfl, hI5, hk5⟩
      rw [HXA.out]
      have HK5 := hid (HK4.out.trans hk5)
      have HI5 := hid hI5
      clear hk5 hI5
      go_wp2_with fail
      refine hK _ _ (.inr ⟨_, low2_of (HK5.out.same (by simp))⟩) ?_
      clear hK K
      refine wpStagesS_cons ?_
      simp only [List.filterMap_cons, List.filterMap_nil, List.getElem?_toArray, List.getElem?_cons_zero, List.getElem?_cons_succ]
      show wpQuiet _ _ _ _ [_] _
      try simp only [Act.put, List.setIfInBounds_toArray, List.set_cons_succ, List.set_cons_zero]
      repeat (go_big_quiet_step (fail))
      refine wpQuiet_nil ⟨_, rfl, fun K hK => ?_⟩
      go_wp2_with fail
      refine (sSaturate_val HZ.out _).mono ?_
      rintro e w6 ⟨rfl, rfl⟩
      go_wp2_with fail
      refine hK _ _ (.inr ⟨_, low2_of (HK5.out.same (by simp))⟩) ?_
      clear hK K
      refine wpStagesS_cons ?_
      simp only [List.filterMap_nil]
      show wpQuiet _ _ _ _ [] _
      try simp only [Act.put, List.setIfInBounds_toArray, List.set_cons_succ, List.set_cons_zero]
      repeat (go_big_quiet_step (fail))
      refine wpQuiet_nil ⟨_, rfl, fun K hK => ?_⟩
      go_wp2_with fail
      go_wp2_with fail
      refine hK _ _ (.inr ⟨_, low2_of (HK5.out.same (by simp))⟩) ?_
      clear hK K
      refine wpStagesS_nil ?_
      go_wp2
      go_ret
      exact ⟨rfl, HI5.out, ((HX0.out.trans ((Ext.refl _).drew)).k2 _ _).trans HK5.out⟩
    · skip
      obtain ⟨id, rfl⟩ : ∃ d, i = d + 1 := ⟨i - 1, by omega⟩
      have hV : dVal (V a) n false (j * n + (id + 1)) = satI ((V a).getD (j * n + (id + 1)) 0 - (V a).getD (j * n + id) 0) := by rw [dVal_cols hi h1, if_neg (by omega), Nat.add_sub_cancel]
      rw [hV]
      clear hV
      have e := conc (l := [100, 117]) hs
      subst e
      have rc3 := (HX0.out.cells.1 rb ro r1).trans rc
      have hqb : (j * n + (id + 1)) = j * n + (id + 1) := rfl
      obtain ⟨xb, hxb⟩ : ∃ x, (V a).getD (j * n + (id + 1)) 0 = x := ⟨_, rfl⟩
      obtain ⟨xa, hxa⟩ : ∃ x, (V a).getD (j * n + id) 0 = x := ⟨_, rfl⟩
      have sb := HS9.out (j * n + (id + 1))
      have sa' := HS9.out (j * n + id)
      rw [hxb] at sb
      rw [hxa] at sa'
      rw [hxb, hxa]
      have sb1 := sb.1
      have sb2 := sb.2
      have sa1 := sa'.1
      have sa2 := sa'.2
      have HXB := hid hxb
      have HXA := hid hxa
      obtain ⟨z, hz⟩ : ∃ z, satI (xb - xa) = z := ⟨_, rfl⟩
      have HZ := hid hz
      rw [hz]
      clear hs sb sa' hxb hxa hqb hz
      go_enter Tryz.func78, Tryz.ntmps78
      go_wp2_with fail
      refine (l17Pair_dn _ (by omega) (by omega) (by omega)).mono ?_
      rintro e w2 ⟨rfl, rfl⟩
      go_wp2_with fail
      refine wp_region_stagesS [([0, 1, 2, 3, 4, 5, 6, 7, 8, 9, 11, 12, 13, 14, 15, 16, 17, 18, 19, 20], 10), ([], 21), ([22], 23), ([], 24)] 99 (fun w' => ∃ d, w' = low2 (w.heap.size + 1 + 1 + 1) (KD) (VD) _ d) (by kernel_rfl) (by kernel_rfl) ⟨_, low2_of (fun _ _ _ _ => rfl)⟩ ?_
      refine wpStagesS_cons ?_
      simp only [List.filterMap_cons, List.filterMap_nil, List.getElem?_toArray, List.getElem?_cons_zero, List.getElem?_cons_succ]
      show wpQuiet _ _ _ _ [_, _, _, _, _, _, _, _, _, _, _, _, _, _, _, _, _, _, _, _] _
      repeat (go_big_quiet_step (fail))
      refine wpQuiet_nil ⟨_, rfl, fun K hK => ?_⟩
      go_wp2_with fail
      refine (HGG.out a (id + 1) j _ ha hal (by omega) (by omega) (HI.out.ext ((Ext.refl _).drew))).mono ?_
      rintro e w4 ⟨rfl, hI4, hk4⟩
      rw [HXB.out]
      have HK4 := hid hk4
      have HI4 := hid hI4
      clear hk4 hI4
      go_wp2_with fail
      refine hK _ _ (.inr ⟨_, low2_of (HK4.out.same (by simp))⟩) ?_
      clear hK K
      refine wpStagesS_cons ?_
      simp only [List.filterMap_nil]
      show wpQuiet _ _ _ _ [] _
      try simp only [Act.put, List.setIfInBounds_toArray, List.set_cons_succ, List.set_cons_zero]
      repeat (go_big_quiet_step (fail))
      refine wpQuiet_nil ⟨_, rfl, fun K hK => ?_⟩
      go_wp2_with fail
      refine (HGG.out a id j _ ha hal (by omega) (by omega) HI4.out).mono ?_
      rintro e w5 ⟨rfl, hI5, hk5⟩
      rw [HXA.out]
      have HK5 := hid (HK4.out.trans hk5)
      have HI5 := hid hI5
      clear hk5 hI5
      go_wp2_with fail
      refine hK _ _ (.inr ⟨_, low2_of (HK5.out.same (by simp))⟩) ?_
      clear hK K
      refine wpStagesS_cons ?_
      simp only [List.filterMap_cons, List.filterMap_nil, List.getElem?_toArray, List.getElem?_cons_zero, List.getElem?_cons_succ]
      show wpQuiet _ _ _ _ [_] _
      try simp only [Act.put, List.setIfInBounds_toArray, List.set_cons_succ, List.set_cons_zero]
      repeat (go_big_quiet_step (fail))
      refine wpQuiet_nil ⟨_, rfl, fun K hK => ?_⟩
      go_wp2_with fail
      refine (sSaturate_val HZ.out _).mono ?_
      rintro e w6 ⟨rfl, rfl⟩
      go_wp2_with fail
      refine hK _ _ (.inr ⟨_, low2_of (HK5.out.same (by simp))⟩) ?_
      clear hK K
      refine wpStagesS_cons ?_
      simp only [List.filterMap_nil]
      show wpQuiet _ _ _ _ [] _
      try simp only [Act.put, List.setIfInBounds_toArray, List.set_cons_succ, List.set_cons_zero]
      repeat (go_big_quiet_step (fail))
      refine wpQuiet_nil ⟨_, rfl, fun K hK => ?_⟩
      go_wp2_with fail
      go_wp2_with fail
      refine hK _ _ (.inr ⟨_, low2_of (HK5.out.same (by simp))⟩) ?_
      clear hK K
      refine wpStagesS_nil ?_
      go_wp2
      go_ret
      exact ⟨rfl, HI5.out, ((HX0.out.trans ((Ext.refl _).drew)).k2 _ _).trans HK5.out⟩
  case true =>
    by_cases hup : j + 1 < n
    · skip
      have hup : j + 1 < n := by assumption
      have hV : dVal (V a) n true (j * n + i) = satI ((V a).getD ((j + 1) * n + i) 0 - (V a).getD (j * n + i) 0) := by rw [dVal_rows hi hj h1, if_pos hup]
      rw [hV]
      clear hV
      have e := conc (l := [100, 118]) hs
      subst e
      have rc3 := (HX0.out.cells.1 rb ro r1).trans rc
      have hqb : ((j + 1) * n + i) = (j + 1) * n + i := rfl
      obtain ⟨xb, hxb⟩ : ∃ x, (V a).getD ((j + 1) * n + i) 0 = x := ⟨_, rfl⟩
      obtain ⟨xa, hxa⟩ : ∃ x, (V a).getD (j * n + i) 0 = x := ⟨_, rfl⟩
      have sb := HS9.out ((j + 1) * n + i)
      have sa' := HS9.out (j * n + i)
      rw [hxb] at sb
      rw [hxa] at sa'
      rw [hxb, hxa]
      have sb1 := sb.1
      have sb2 := sb.2
      have sa1 := sa'.1
      have sa2 := sa'.2
      have HXB := hid hxb
      have HXA := hid hxa
      obtain ⟨z, hz⟩ : ∃ z, satI (xb - xa) = z := ⟨_, rfl⟩
      have HZ := hid hz
      rw [hz]
      clear hs sb sa' hxb hxa hqb hz
      go_enter Tryz.func78, Tryz.ntmps78
      go_wp2_with fail
      refine (l17Pair_up _ (by omega) (by omega)).mono ?_
      rintro e w2 ⟨rfl, rfl⟩
      go_wp2_with fail
      refine wp_region_stagesS [([0, 1, 2, 3, 4, 5, 6, 7, 8, 9, 11, 12, 13, 14, 15, 16, 17, 18, 19, 20], 10), ([], 21), ([22], 23), ([], 24)] 99 (fun w' => ∃ d, w' = low2 (w.heap.size + 1 + 1 + 1) (KD) (VD) _ d) (by kernel_rfl) (by kernel_rfl) ⟨_, low2_of (fun _ _ _ _ => rfl)⟩ ?_
      refine wpStagesS_cons ?_
      simp only [List.filterMap_cons, List.filterMap_nil, List.getElem?_toArray, List.getElem?_cons_zero, List.getElem?_cons_succ]
      show wpQuiet _ _ _ _ [_, _, _, _, _, _, _, _, _, _, _, _, _, _, _, _, _, _, _, _] _
      repeat (go_big_quiet_step (fail))
      refine wpQuiet_nil ⟨_, rfl, fun K hK => ?_⟩
      go_wp2_with fail
      refine (HGG.out a i (j + 1) _ ha hal (by omega) (by omega) (HI.out.ext ((Ext.refl _).drew))).mono ?_
      rintro e w4 ⟨rfl, hI4, hk4⟩
      rw [HXB.out]
      have HK4 := hid hk4
      have HI4 := hid hI4
      clear hk4 hI4
      go_wp2_with fail
      refine hK _ _ (.inr ⟨_, low2_of (HK4.out.same (by simp))⟩) ?_
      clear hK K
      refine wpStagesS_cons ?_
      simp only [List.filterMap_nil]
      show wpQuiet _ _ _ _ [] _
      try simp only [Act.put, List.setIfInBounds_toArray, List.set_cons_succ, List.set_cons_zero]
      repeat (go_big_quiet_step (fail))
      refine wpQuiet_nil ⟨_, rfl, fun K hK => ?_⟩
      go_wp2_with fail
      refine (HGG.out a i j _ ha hal (by omega) (by omega) HI4.out).mono ?_
      rintro e w5 ⟨rfl, hI5, hk5⟩
      rw [HXA.out]
      have HK5 := hid (HK4.out.trans hk5)
      have HI5 := hid hI5
      clear hk5 hI5
      go_wp2_with fail
      refine hK _ _ (.inr ⟨_, low2_of (HK5.out.same (by simp))⟩) ?_
      clear hK K
      refine wpStagesS_cons ?_
      simp only [List.filterMap_cons, List.filterMap_nil, List.getElem?_toArray, List.getElem?_cons_zero, List.getElem?_cons_succ]
      show wpQuiet _ _ _ _ [_] _
      try simp only [Act.put, List.setIfInBounds_toArray, List.set_cons_succ, List.set_cons_zero]
      repeat (go_big_quiet_step (fail))
      refine wpQuiet_nil ⟨_, rfl, fun K hK => ?_⟩
      go_wp2_with fail
      refine (sSaturate_val HZ.out _).mono ?_
      rintro e w6 ⟨rfl, rfl⟩
      go_wp2_with fail
      refine hK _ _ (.inr ⟨_, low2_of (HK5.out.same (by simp))⟩) ?_
      clear hK K
      refine wpStagesS_cons ?_
      simp only [List.filterMap_nil]
      show wpQuiet _ _ _ _ [] _
      try simp only [Act.put, List.setIfInBounds_toArray, List.set_cons_succ, List.set_cons_zero]
      repeat (go_big_quiet_step (fail))
      refine wpQuiet_nil ⟨_, rfl, fun K hK => ?_⟩
      go_wp2_with fail
      go_wp2_with fail
      refine hK _ _ (.inr ⟨_, low2_of (HK5.out.same (by simp))⟩) ?_
      clear hK K
      refine wpStagesS_nil ?_
      go_wp2
      go_ret
      exact ⟨rfl, HI5.out, ((HX0.out.trans ((Ext.refl _).drew)).k2 _ _).trans HK5.out⟩
    · skip
      obtain ⟨jd, rfl⟩ : ∃ d, j = d + 1 := ⟨j - 1, by omega⟩
      have hV : dVal (V a) n true ((jd + 1) * n + i) = satI ((V a).getD ((jd + 1) * n + i) 0 - (V a).getD (jd * n + i) 0) := by rw [dVal_rows hi hj h1, if_neg (by omega), Nat.add_sub_cancel]
      rw [hV]
      clear hV
      have e := conc (l := [100, 118]) hs
      subst e
      have rc3 := (HX0.out.cells.1 rb ro r1).trans rc
      have hqb : ((jd + 1) * n + i) = (jd + 1) * n + i := rfl
      obtain ⟨xb, hxb⟩ : ∃ x, (V a).getD ((jd + 1) * n + i) 0 = x := ⟨_, rfl⟩
      obtain ⟨xa, hxa⟩ : ∃ x, (V a).getD (jd * n + i) 0 = x := ⟨_, rfl⟩
      have sb := HS9.out ((jd + 1) * n + i)
      have sa' := HS9.out (jd * n + i)
      rw [hxb] at sb
      rw [hxa] at sa'
      rw [hxb, hxa]
      have sb1 := sb.1
      have sb2 := sb.2
      have sa1 := sa'.1
      have sa2 := sa'.2
      have HXB := hid hxb
      have HXA := hid hxa
      obtain ⟨z, hz⟩ : ∃ z, satI (xb - xa) = z := ⟨_, rfl⟩
      have HZ := hid hz
      rw [hz]
      clear hs sb sa' hxb hxa hqb hz
      go_enter Tryz.func78, Tryz.ntmps78
      go_wp2_with fail
      refine (l17Pair_dn _ (by omega) (by omega) (by omega)).mono ?_
      rintro e w2 ⟨rfl, rfl⟩
      go_wp2_with fail
      refine wp_region_stagesS [([0, 1, 2, 3, 4, 5, 6, 7, 8, 9, 11, 12, 13, 14, 15, 16, 17, 18, 19, 20], 10), ([], 21), ([22], 23), ([], 24)] 99 (fun w' => ∃ d, w' = low2 (w.heap.size + 1 + 1 + 1) (KD) (VD) _ d) (by kernel_rfl) (by kernel_rfl) ⟨_, low2_of (fun _ _ _ _ => rfl)⟩ ?_
      refine wpStagesS_cons ?_
      simp only [List.filterMap_cons, List.filterMap_nil, List.getElem?_toArray, List.getElem?_cons_zero, List.getElem?_cons_succ]
      show wpQuiet _ _ _ _ [_, _, _, _, _, _, _, _, _, _, _, _, _, _, _, _, _, _, _, _] _
      repeat (go_big_quiet_step (fail))
      refine wpQuiet_nil ⟨_, rfl, fun K hK => ?_⟩
      go_wp2_with fail
      refine (HGG.out a i (jd + 1) _ ha hal (by omega) (by omega) (HI.out.ext ((Ext.refl _).drew))).mono ?_
      rintro e w4 ⟨rfl, hI4, hk4⟩
      rw [HXB.out]
      have HK4 := hid hk4
      have HI4 := hid hI4
      clear hk4 hI4
      go_wp2_with fail
      refine hK _ _ (.inr ⟨_, low2_of (HK4.out.same (by simp))⟩) ?_
      clear hK K
      refine wpStagesS_cons ?_
      simp only [List.filterMap_nil]
      show wpQuiet _ _ _ _ [] _
      try simp only [Act.put, List.setIfInBounds_toArray, List.set_cons_succ, List.set_cons_zero]
      repeat (go_big_quiet_step (fail))
      refine wpQuiet_nil ⟨_, rfl, fun K hK => ?_⟩
      go_wp2_with fail
      refine (HGG.out a i jd _ ha hal (by omega) (by omega) HI4.out).mono ?_
      rintro e w5 ⟨rfl, hI5, hk5⟩
      rw [HXA.out]
      have HK5 := hid (HK4.out.trans hk5)
      have HI5 := hid hI5
      clear hk5 hI5
      go_wp2_with fail
      refine hK _ _ (.inr ⟨_, low2_of (HK5.out.same (by simp))⟩) ?_
      clear hK K
      refine wpStagesS_cons ?_
      simp only [List.filterMap_cons, List.filterMap_nil, List.getElem?_toArray, List.getElem?_cons_zero, List.getElem?_cons_succ]
      show wpQuiet _ _ _ _ [_] _
      try simp only [Act.put, List.setIfInBounds_toArray, List.set_cons_succ, List.set_cons_zero]
      repeat (go_big_quiet_step (fail))
      refine wpQuiet_nil ⟨_, rfl, fun K hK => ?_⟩
      go_wp2_with fail
      refine (sSaturate_val HZ.out _).mono ?_
      rintro e w6 ⟨rfl, rfl⟩
      go_wp2_with fail
      refine hK _ _ (.inr ⟨_, low2_of (HK5.out.same (by simp))⟩) ?_
      clear hK K
      refine wpStagesS_cons ?_
      simp only [List.filterMap_nil]
      show wpQuiet _ _ _ _ [] _
      try simp only [Act.put, List.setIfInBounds_toArray, List.set_cons_succ, List.set_cons_zero]
      repeat (go_big_quiet_step (fail))
      refine wpQuiet_nil ⟨_, rfl, fun K hK => ?_⟩
      go_wp2_with fail
      go_wp2_with fail
      refine hK _ _ (.inr ⟨_, low2_of (HK5.out.same (by simp))⟩) ?_
      clear hK K
      refine wpStagesS_nil ?_
      go_wp2
      go_ret
      exact ⟨rfl, HI5.out, ((HX0.out.trans ((Ext.refl _).drew)).k2 _ _).trans HK5.out⟩
end
end Go.Proofs.YtjfcngbepjdfnaaGreat
end

section
/- This text proves what the reference evaluates a node to at a point, given what it does to the nodes that the node needs. -/
namespace Go.Proofs.YtjfcngbepjdfnaaGreat
open Go.RowKit

section
variable {p : Prg} {V : Nat → List Int} {B M KD VD : Nat} {a1 a2 oa : Option Addr} {c1 c2 oc n m : Nat} {pu tu : Value} {f : Nat → Int} {tm : Int} {t : Tex} {W w w' : World}
theorem getD_rep {m q : Nat} (x : Int) (h : q < m) : (List.replicate m x).getD q 0 = x := by
  rw [List.getD_eq_getElem?_getD, List.getElem?_replicate, if_pos h]; rfl
theorem getD_rng {m q : Nat} (g : Nat → Int) (h : q < m) : ((List.range m).map g).getD q 0 = g q := by
  rw [List.getD_eq_getElem?_getD, List.getElem?_map, List.getElem?_range h]; rfl
theorem colOf_map (ra : List Int) (V : Nat → List Int) (q : Nat) : colOf (ra.map fun a => V a.toNat) q = ra.map fun a => (V a.toNat).getD q 0 := by
  unfold colOf
  rw [List.map_map]
  rfl
theorem take_step2 {xs : List Int} {k : Nat} {y : Int} (h : xs[k]? = some y) : xs.take k ++ [y] = xs.take (k + 1) := (take_step h).symm
theorem EsI.args (h : EsI p V m KD VD W w) {row : Option Nat} (g : w.grownBy w' row) (hr : ∀ k, row = some k → W.heap.size ≤ k) (h1 : KD < W.heap.size) (h2 : VD < W.heap.size) : EsI p V m KD VD W w' := by
  obtain ⟨kf, vf, r1, r2, r3⟩ := h.row
  have hne : ∀ b, b < W.heap.size → some b ≠ row := fun b hb e => by have := hr b e.symm; omega
  exact ⟨⟨g.os.trans h.kept.os, g.tape.trans h.kept.tape, g.output.trans h.kept.output, Nat.le_trans h.kept.size g.size, fun b hb hx hy => (g.block b (by have := h.kept.size; omega) (hne b hb)).trans (h.kept.block b hb hx hy)⟩,
    kf, vf, World.rowIs.of_block r1 (g.block _ (World.rowIs.lt r1) (hne _ h1)), r2.of (g.block _ r2.lt (hne _ h2)), r3⟩
theorem kept2_low {X Y : Nat} {w2 w3 : World} {row : Option Nat} (h : Kept2 X Y w w2) (g : w2.grownBy w3 row) (hr : ∀ k, row = some k → w.heap.size ≤ k) : Kept2 X Y w w3 :=
  ⟨g.os.trans h.os, g.tape.trans h.tape, g.output.trans h.output, Nat.le_trans h.size g.size, fun b hb hx hy => (g.block b (by have := h.size; omega) (fun e => by have := hr b e.symm; omega)).trans (h.block b hb hx hy)⟩
theorem FnO_any {op : Int} (h1 : 3 ≤ op) (h2 : op ≤ 7) : FnO op (if op = 3 then 1 else 2) (opW op) := by
  by_cases e : op = 3
  · subst e; rw [if_pos rfl]; exact FnO_un
  · rw [if_neg e]; exact FnO_bin (inB_iff.2 ⟨by omega, by omega⟩)
theorem sIsVariable_valE {s : ByteArray} {b : Bool} (h : isVar s = b) (w : World) : Calls Tryz.prog 63 #[.string s] w fun e w' => e = .returned (.bool b) ∧ Ext w w' := h ▸ sIsVariable_any s w
set_option maxRecDepth 100000 in
set_option maxHeartbeats 25600000 in
theorem sCalc_any (C : EsC p V B M KD VD a1 a2 oa c1 c2 oc n m pu tu f tm t W) {F : Nat} (HG : GetOk p V M KD VD a1 a2 oa c1 c2 oc n m pu tu tm t W F) (node i j : Nat) (w : World) (hr : p.rank node ≤ F) (hn : node < p.ns.length) (hi : i < n) (hj : j < n) (hI : EsI p V m KD VD W w) :
    Calls Tryz.prog 65 #[.agg #[.slice a1 p.ns.length c1, .slice a2 p.gs.length c2], .agg #[.int .i64 n, pu, .int .i64 tm, .int .i64 t.log, tu], .slice oa p.ns.length oc, .pointer (some ⟨M, 0, none⟩), .int .i64 node, .int .i64 i, .int .i64 j] w fun e w' =>
      e = .returned (.int .i64 ((V node).getD (j * n + i) 0)) ∧ EsI p V m KD VD W w' ∧ Kept2 KD VD w w' := by
  have l5 := C.k.v.len
  have hn8 := C.n8
  have hbW := C.bB
  have hkB := C.kB
  have hvB := C.vB
  have hWw := hI.kept.size
  have hklt := C.kl
  have hvlt := C.vl
  have hq := at_lt C.hm hi hj
  have hm64 : m ≤ 64 := by rw [← C.hm]; have := Nat.mul_le_mul hn8 hn8; omega
  have hBw : B ≤ w.heap.size := by omega
  have x2 : Ext w ((w.alloc (.cells #[.slice a1 p.ns.length c1, .slice a2 p.gs.length c2] 38)).alloc (.cells #[.int .i64 n, pu, .int .i64 tm, .int .i64 t.log, tu] 43)) := (by repeat (with_reducible (first | assumption | exact Ext.refl _ | apply Ext.alloc | apply Ext.drew | apply Ext.drewN)))
  have hs0 := C.same hI
  obtain ⟨b, off, op, s, num, sa, sc, ra, rfl, hb1, hbw, hget, io, inn, hII, HI, y0, y1, y2, y3⟩ := (C.nodes.same hs0).atW hn x2 hBw
  have li1 := HI.le
  have li2 := HI.cap
  have HG1 := hid hget
  have HC := hid C
  have HGG := hid HG
  have HEI := hid hI
  have HS0 := hid hs0
  have HIS := hid HI
  have lar : Hid (ra.length ≤ 3) := hid (nodeF_len (C.k.v.nd node _ hget).1)
  have hlar := lar.out
  have HSTEP := hid (C.step node _ hget)
  have hcases := nodeF_op (C.k.v.nd node _ hget).1
  obtain ⟨q, hqe⟩ : ∃ q, j * n + i = q := ⟨_, rfl⟩
  have HQE := hid hqe
  rw [hqe] at hq ⊢
  have bP2 := (Bx.made w #[.slice (some ⟨b, off, none⟩) p.ns.length c1, .slice a2 p.gs.length c2] 38).ext (show Ext _ ((w.alloc (.cells #[.slice (some ⟨b, off, none⟩) p.ns.length c1, .slice a2 p.gs.length c2] 38)).alloc (.cells #[.int .i64 n, pu, .int .i64 tm, .int .i64 t.log, tu] 43)) from (by repeat (with_reducible (first | assumption | exact Ext.refl _ | apply Ext.alloc | apply Ext.drew | apply Ext.drewN))))
  have bG2 := Bx.madeAt (B := w.heap.size + 1) (w.alloc (.cells #[.slice (some ⟨b, off, none⟩) p.ns.length c1, .slice a2 p.gs.length c2] 38)) #[.int .i64 n, pu, .int .i64 tm, .int .i64 t.log, tu] 43 (by simp)
  have x3 : Ext ((w.alloc (.cells #[.slice (some ⟨b, off, none⟩) p.ns.length c1, .slice a2 p.gs.length c2] 38)).alloc (.cells #[.int .i64 n, pu, .int .i64 tm, .int .i64 t.log, tu] 43)) (((w.alloc (.cells #[.slice (some ⟨b, off, none⟩) p.ns.length c1, .slice a2 p.gs.length c2] 38)).alloc (.cells #[.int .i64 n, pu, .int .i64 tm, .int .i64 t.log, tu] 43)).alloc (.cells #[.int .i64 op, .string s, .int .i64 num, .slice sa ra.length sc] 94)) := (by repeat (with_reducible (first | assumption | exact Ext.refl _ | apply Ext.alloc | apply Ext.drew | apply Ext.drewN)))
  have bP3 := hid (bP2.ext x3)
  have bG3 := hid (bG2.ext x3)
  have bN3 := hid (Bx.madeAt (B := w.heap.size + 1 + 1) ((w.alloc (.cells #[.slice (some ⟨b, off, none⟩) p.ns.length c1, .slice a2 p.gs.length c2] 38)).alloc (.cells #[.int .i64 n, pu, .int .i64 tm, .int .i64 t.log, tu] 43)) #[.int .i64 op, .string s, .int .i64 num, .slice sa ra.length sc] 94 (by simp))
  have HX3 := hid (x2.trans x3)
  have HEI3 := hid (hI.ext (x2.trans x3))
  have k1 : w.heap.size ≠ KD := by omega
  have k2 : w.heap.size ≠ VD := by omega
  have k3 : w.heap.size + 1 ≠ KD := by omega
  have k4 : w.heap.size + 1 ≠ VD := by omega
  have k5 : w.heap.size + 1 + 1 ≠ KD := by omega
  have k6 : w.heap.size + 1 + 1 ≠ VD := by omega
  clear hII HI hget hs0 hI C HG bP2 bG2 x2 x3 hqe
  rcases hcases with ⟨o, h2, h3⟩ | ⟨o, h3⟩ | hrest
  case inl =>
    simp only at o h2 h3
    subst o
    have HV : Hid ((V node).getD q 0 = num) := hid (by rw [HSTEP.out]; exact getD_rep num hq)
    clear HSTEP h3
    go_enter Tryz.func65, Tryz.ntmps65
    go_wp2
    go_ret
    exact ⟨ret_int HV.out.symm, HEI3.out, HX3.out.k2 _ _⟩
  case inr.inl =>
    simp only at o
    subst o
    clear h3
    cases hv : isVar s
    case true =>
      have HV : Hid ((V node).getD q 0 = varL s.toList f tm q) := hid (by rw [HSTEP.out]; simp only [evB, hv, if_true]; rw [if_neg (show ¬ (2 : Int) = 1 by decide)]; exact getD_rng _ hq)
      have HBV := hid hv
      have HPT := hid (HC.out.pts.same HS0.out)
      obtain ⟨jn, hjne⟩ : ∃ jn, (j : Int) * n = jn := ⟨_, rfl⟩
      have hjq : (j : Int) * n + i = q := by rw [← HQE.out]; simp
      have hjn : (j : Int) * n ≤ 1000 := by
        have h : ((j * n : Nat) : Int) ≤ 1000 := by have := HQE.out; omega
        simpa using h
      have hjn0 : 0 ≤ (j : Int) * n := by
        have h : (0 : Int) ≤ ((j * n : Nat) : Int) := by omega
        simpa using h
      have HJ := hid (show (j : Int) * n + i = q ∧ (j : Int) * n ≤ 1000 ∧ 0 ≤ (j : Int) * n from ⟨hjq, hjn, hjn0⟩)
      clear HSTEP hv hjq hjn hjn0 hjne
      go_enter Tryz.func65, Tryz.ntmps65
      go_wp2_with fail
      refine (sIsVariable_valE HBV.out _).mono ?_
      rintro e w4 ⟨rfl, x4⟩
      have hg4 := bG3.out.ext x4
      have hn4 := bN3.out.ext x4
      have HX4 := hid (HX3.out.trans x4)
      have HE4 := hid (HEI3.out.ext x4)
      have d := hg4.lt
      have d0 := hg4.cell 0
      simp only [List.getElem?_toArray, List.getElem?_cons_zero, List.getElem?_cons_succ] at d0
      have d1 := hg4.cell 1
      simp only [List.getElem?_toArray, List.getElem?_cons_zero, List.getElem?_cons_succ] at d1
      have d2 := hg4.cell 2
      simp only [List.getElem?_toArray, List.getElem?_cons_zero, List.getElem?_cons_succ] at d2
      have d3 := hg4.cell 3
      simp only [List.getElem?_toArray, List.getElem?_cons_zero, List.getElem?_cons_succ] at d3
      have d4 := hg4.cell 4
      simp only [List.getElem?_toArray, List.getElem?_cons_zero, List.getElem?_cons_succ] at d4
      have e := hn4.lt
      have e0 := hn4.cell 0
      simp only [List.getElem?_toArray, List.getElem?_cons_zero, List.getElem?_cons_succ] at e0
      have e1 := hn4.cell 1
      simp only [List.getElem?_toArray, List.getElem?_cons_zero, List.getElem?_cons_succ] at e1
      have e2 := hn4.cell 2
      simp only [List.getElem?_toArray, List.getElem?_cons_zero, List.getElem?_cons_succ] at e2
      have e3 := hn4.cell 3
      simp only [List.getElem?_toArray, List.getElem?_cons_zero, List.getElem?_cons_succ] at e3
      clear x4 hg4 hn4
      go_wp2_with fail
      refine (l17Variable_any 0 B n m i j q pu f tm t.log tu s _ (HPT.out.ext hBw HX4.out) (Nat.le_trans hBw HX4.out.size) HJ.out.1 hq (by omega) HJ.out.2.1 HJ.out.2.2 (by omega)).mono ?_
      rintro e w5 ⟨rfl, x5⟩
      go_wp2
      go_ret
      exact ⟨ret_int HV.out.symm, HE4.out.ext x5, (HX4.out.trans x5).k2 _ _⟩
    case false =>
      obtain ⟨ix, hix, hik⟩ := HC.out.k.name node _ HG1.out rfl hv
      simp only at hix
      obtain ⟨s', hg1, _, how, hrl⟩ := HC.out.k.root hix
      have hrk := HC.out.k.rank_name HG1.out rfl hv
      simp only at hrk
      have hlast := HC.out.k.last hix hik
      have HV : Hid (V node = V (p.rootOf s)) := hid (by rw [HSTEP.out]; simp [evB, hv])
      obtain ⟨rt, hrt⟩ : ∃ rt, p.rootOf s = rt := ⟨_, rfl⟩
      rw [hrt] at hg1 how hrl hrk HV
      have hil := (List.getElem?_eq_some_iff.1 hg1).1
      obtain ⟨_, b4, off4, ea4, _, hb4, z0, z1⟩ := (HC.out.asgs.same HS0.out).cell ix _ hg1
      simp only at z0 z1
      obtain ⟨ob, oo, oe, _, hob, oc0⟩ := (HC.out.own.same HS0.out).at (k := node) (by rw [Prg.ownL_len]; exact hn)
      have hown : p.ownL[node]'(by rw [Prg.ownL_len]; exact hn) = p.own node := ownL_at (by simp [Prg.ownL_len, hn])
      rw [hown] at oc0
      have hobd := ((HC.out.k.v.own_is hn).lt HC.out.k.v).2
      have hogl := HC.out.gl
      subst ea4 oe
      have hla := HC.out.asgs.le
      have hlc := HC.out.asgs.cap
      have hoa := HC.out.own.le
      have hoc := HC.out.own.cap
      rw [Prg.ownL_len] at hoa
      have HLA := hid hlast
      have HBV := hid hv
      have HND := hid (show Nds 0 B w (.slice (some ⟨b, off, none⟩) p.ns.length c1) p.ns from (HC.out.nodes.same HS0.out).shut)
      have HAD := hid (show Asgs 0 B w (.slice (some ⟨b4, off4, none⟩) p.gs.length c2) p.gs from (HC.out.asgs.same HS0.out).shut)
      clear HSTEP hv hix hg1 hlast hown
      go_enter Tryz.func65, Tryz.ntmps65
      go_wp2_with fail
      refine (sIsVariable_valE HBV.out _).mono ?_
      rintro e w4 ⟨rfl, x4⟩
      have hp4 := bP3.out.ext x4
      have hg4 := bG3.out.ext x4
      have hn4 := bN3.out.ext x4
      have HX4 := hid (HX3.out.trans x4)
      have HE4 := hid (HEI3.out.ext x4)
      have d := hg4.lt
      have d0 := hg4.cell 0
      simp only [List.getElem?_toArray, List.getElem?_cons_zero, List.getElem?_cons_succ] at d0
      have d1 := hg4.cell 1
      simp only [List.getElem?_toArray, List.getElem?_cons_zero, List.getElem?_cons_succ] at d1
      have d2 := hg4.cell 2
      simp only [List.getElem?_toArray, List.getElem?_cons_zero, List.getElem?_cons_succ] at d2
      have d3 := hg4.cell 3
      simp only [List.getElem?_toArray, List.getElem?_cons_zero, List.getElem?_cons_succ] at d3
      have d4 := hg4.cell 4
      simp only [List.getElem?_toArray, List.getElem?_cons_zero, List.getElem?_cons_succ] at d4
      have e := hn4.lt
      have e0 := hn4.cell 0
      simp only [List.getElem?_toArray, List.getElem?_cons_zero, List.getElem?_cons_succ] at e0
      have e1 := hn4.cell 1
      simp only [List.getElem?_toArray, List.getElem?_cons_zero, List.getElem?_cons_succ] at e1
      have e2 := hn4.cell 2
      simp only [List.getElem?_toArray, List.getElem?_cons_zero, List.getElem?_cons_succ] at e2
      have e3 := hn4.cell 3
      simp only [List.getElem?_toArray, List.getElem?_cons_zero, List.getElem?_cons_succ] at e3
      have g := hp4.lt
      have g0 := hp4.cell 0
      simp only [List.getElem?_toArray, List.getElem?_cons_zero, List.getElem?_cons_succ] at g0
      have g1 := hp4.cell 1
      simp only [List.getElem?_toArray, List.getElem?_cons_zero, List.getElem?_cons_succ] at g1
      have z0' := (HX4.out.cells.1 b4 _ (by omega)).trans z0
      have z1' := (HX4.out.cells.1 b4 _ (by omega)).trans z1
      have oc' := (HX4.out.cells.1 ob _ (by omega)).trans oc0
      have h4s := HX4.out.size
      have q1 : b4 < w4.heap.size := by omega
      have q2 : ob < w4.heap.size := by omega
      have q3 : b4 ≠ KD := by omega
      have q4 : b4 ≠ VD := by omega
      have q5 : ob ≠ KD := by omega
      have q6 : ob ≠ VD := by omega
      clear x4 hg4 hn4 hp4 z0 z1 oc0
      go_wp2_with fail
      refine wp_region_stagesS [([0, 1, 2, 3, 4, 5, 6, 7, 8, 9, 10, 11, 12, 17, 18], 13), ([14, 15, 16], 19), ([], 20)] 99 (fun w' => ∃ d, w' = low2 (w4.heap.size) (KD) (VD) _ d) (by kernel_rfl) (by kernel_rfl) ⟨_, low2_of (fun _ _ _ _ => rfl)⟩ ?_
      refine wpStagesS_cons ?_
      simp only [List.filterMap_cons, List.filterMap_nil, List.getElem?_toArray, List.getElem?_cons_zero, List.getElem?_cons_succ]
      show wpQuiet _ _ _ _ [_, _, _, _, _, _, _, _, _, _, _, _, _, _, _] _
      repeat (go_big_quiet_step (fail))
      refine wpQuiet_nil ⟨_, rfl, fun K hK => ?_⟩
      go_wp2_with fail
      refine (sAssigned_val (z := (ix : Int)) (t := p.own node) (s := s) HLA.out 0 B _ p w4.drew rfl ⟨_, _, rfl, (HND.out.ext hBw HX4.out).ext (Nat.le_trans hBw HX4.out.size) (by repeat (with_reducible (first | assumption | exact Ext.refl _ | apply Ext.alloc | apply Ext.drew | apply Ext.drewN))), (HAD.out.ext hBw HX4.out).ext (Nat.le_trans hBw HX4.out.size) (by repeat (with_reducible (first | assumption | exact Ext.refl _ | apply Ext.alloc | apply Ext.drew | apply Ext.drewN)))⟩ (Nat.le_trans hBw HX4.out.size) HC.out.gl).mono ?_
      rintro e w5 ⟨rfl, x5⟩
      have X5 : Ext w4 w5 := Ext.trans (by repeat (with_reducible (first | assumption | exact Ext.refl _ | apply Ext.alloc | apply Ext.drew | apply Ext.drewN))) x5
      have HE5 := hid (HE4.out.ext X5)
      have HK5 := hid (X5.k2 KD VD)
      clear x5 X5
      go_wp2_with fail
      refine hK _ _ (.inr ⟨_, low2_of (HK5.out.same (Nat.le_refl _))⟩) ?_
      clear hK K
      refine wpStagesS_cons ?_
      simp only [List.filterMap_cons, List.filterMap_nil, List.getElem?_toArray, List.getElem?_cons_zero, List.getElem?_cons_succ]
      show wpQuiet _ _ _ _ [_, _, _] _
      try simp only [Act.put, List.setIfInBounds_toArray, List.set_cons_succ, List.set_cons_zero]
      repeat (go_big_quiet_step (fail))
      refine wpQuiet_nil ⟨_, rfl, fun K hK => ?_⟩
      go_wp2_with fail
      refine (HGG.out rt i j _ (by omega) hrl hi hj HE5.out).mono ?_
      rintro e w6 ⟨rfl, hI6, hk6⟩
      have HK6 := hid (HK5.out.trans hk6)
      have HI6 := hid hI6
      clear hI6 hk6
      go_wp2_with fail
      refine hK _ _ (.inr ⟨_, low2_of (HK6.out.same (Nat.le_refl _))⟩) ?_
      clear hK K
      refine wpStagesS_cons ?_
      simp only [List.filterMap_nil]
      show wpQuiet _ _ _ _ [] _
      try simp only [Act.put, List.setIfInBounds_toArray, List.set_cons_succ, List.set_cons_zero]
      repeat (go_big_quiet_step (fail))
      refine wpQuiet_nil ⟨_, rfl, fun K hK => ?_⟩
      go_wp2_with fail
      go_wp2_with fail
      refine hK _ _ (.inr ⟨_, low2_of (HK6.out.same (Nat.le_refl _))⟩) ?_
      clear hK K
      refine wpStagesS_nil ?_
      go_wp2
      go_ret
      exact ⟨ret_int (by rw [HV.out, HQE.out]; simp [List.getD_eq_getElem?_getD]), HI6.out, (HX4.out.k2 _ _).trans HK6.out⟩
  case inr.inr =>
    obtain ⟨X, hX⟩ : ∃ X, (ra.map fun a => (V a.toNat).getD q 0) = X := ⟨_, rfl⟩
    have hXl : X.length = ra.length := by rw [← hX]; simp
    have hargs : ∀ a ∈ ra, p.rank a.toNat < F ∧ a.toNat < p.ns.length ∧ 0 ≤ a := fun a ha => by
      have h1 := HC.out.k.rank_arg HG1.out ha
      have h2 := (HC.out.k.v.nd node _ HG1.out).2 a ha
      exact ⟨by omega, h1.2.1, h2.1⟩
    have HAR := hid hargs
    have HX9 : Hid (∀ y ∈ X, S9 y) := hid (by
      rw [← hX]
      intro y hy
      obtain ⟨a, ha, rfl⟩ := List.mem_map.1 hy
      have hg := HC.out.good _ (HAR.out a ha).2.1
      rw [List.getD_eq_getElem?_getD]
      cases e : (V a.toNat)[q]? with
      | none => exact ⟨by simp, by simp⟩
      | some z => exact hg.2 z (List.mem_of_getElem? e))
    have HTX := hid (show TexR 0 B w (.agg #[.int .i64 t.log, tu]) t from by obtain ⟨u, k1, k2, k3⟩ := HC.out.tex; exact ⟨u, k1, k2, k3.same HS0.out⟩)
    by_cases o8 : op = 8
    case pos =>
      subst o8
      have hca := HC.out.k.call node _ HG1.out rfl
      simp only at hca
      have HCA := hid hca
      have HVC : Hid (V node = callRow n m t s.toList (ra.map fun a => V a.toNat)) := hid (by rw [HSTEP.out]; rfl)
      clear HSTEP hca hargs
      by_cases hdu : (s.toList == [100, 117]) = true
      case pos =>
        have hsl : s.toList = [100, 117] := eq_of_beq hdu
        have har : ra.length = 1 := by
          have := HCA.out.2
          unfold arity at this
          rw [hsl] at this
          have e : arityL [100, 117] = 1 := rfl
          omega
        obtain ⟨a, rfl⟩ : ∃ a, ra = [a] := by
          match ra, har with
          | [a], _ => exact ⟨a, rfl⟩
        obtain ⟨ha1, ha2, ha3⟩ := HAR.out a (by simp)
        obtain ⟨z, rfl⟩ : ∃ z : Nat, a = z := ⟨a.toNat, by omega⟩
        rw [Int.toNat_natCast] at ha1 ha2
        have HV : Hid ((V node).getD q 0 = dVal (V z) n false q) := hid (by
          rw [HVC.out, hsl]
          show (diffs (([(z : Int)].map fun a => V a.toNat).getD 0 []) n false).getD q 0 = _
          simp only [List.map_cons, List.map_nil, Int.toNat_natCast]
          unfold diffs
          rw [HC.out.hm]
          exact getD_rng _ hq)
        have HSL := hid hsl
        have HAT := hid (show IntsAt 0 B W sa sc [(z : Int)] from HIS.out.same (fun b h1 h2 => (HS0.out b h1 h2).symm))
        clear HVC hdu har hX HTX HX9 HIS hlar hXl
        have e := conc hsl
        subst e
        clear hsl
        go_enter Tryz.func65, Tryz.ntmps65
        go_wp2_with fail
        refine (sDeriv_any HC.out HGG.out false num _ sa sc z i j HSL.out _ HAT.out ha1 ha2 hi hj HEI3.out).mono ?_
        rintro e w6 ⟨rfl, hI6, hk6⟩
        go_wp2
        go_ret
        exact ⟨ret_int (by rw [HV.out, HQE.out]), hI6, (HX3.out.k2 _ _).trans hk6⟩
      by_cases hdv : (s.toList == [100, 118]) = true
      case pos =>
        have hsl : s.toList = [100, 118] := eq_of_beq hdv
        have har : ra.length = 1 := by
          have := HCA.out.2
          unfold arity at this
          rw [hsl] at this
          have e : arityL [100, 118] = 1 := rfl
          omega
        obtain ⟨a, rfl⟩ : ∃ a, ra = [a] := by
          match ra, har with
          | [a], _ => exact ⟨a, rfl⟩
        obtain ⟨ha1, ha2, ha3⟩ := HAR.out a (by simp)
        obtain ⟨z, rfl⟩ : ∃ z : Nat, a = z := ⟨a.toNat, by omega⟩
        rw [Int.toNat_natCast] at ha1 ha2
        have HV : Hid ((V node).getD q 0 = dVal (V z) n true q) := hid (by
          rw [HVC.out, hsl]
          show (diffs (([(z : Int)].map fun a => V a.toNat).getD 0 []) n true).getD q 0 = _
          simp only [List.map_cons, List.map_nil, Int.toNat_natCast]
          unfold diffs
          rw [HC.out.hm]
          exact getD_rng _ hq)
        have HSL := hid hsl
        have HAT := hid (show IntsAt 0 B W sa sc [(z : Int)] from HIS.out.same (fun b h1 h2 => (HS0.out b h1 h2).symm))
        clear HVC hdv har hX HTX HX9 HIS hlar hXl
        have e := conc hsl
        subst e
        clear hsl
        go_enter Tryz.func65, Tryz.ntmps65
        go_wp2_with fail
        refine (sDeriv_any HC.out HGG.out true num _ sa sc z i j HSL.out _ HAT.out ha1 ha2 hi hj HEI3.out).mono ?_
        rintro e w6 ⟨rfl, hI6, hk6⟩
        go_wp2
        go_ret
        exact ⟨ret_int (by rw [HV.out, HQE.out]), hI6, (HX3.out.k2 _ _).trans hk6⟩
      have hdu' : (s.toList == [100, 117]) = false := by simpa using hdu
      have hdv' : (s.toList == [100, 118]) = false := by simpa using hdv
      have HV : Hid ((V node).getD q 0 = satI (fnV t s.toList X)) := hid (by
        rw [HVC.out]
        unfold callRow
        rw [hdu', hdv']
        simp only [Bool.false_eq_true, if_false]
        rw [getD_rng _ hq, colOf_map, hX])
      clear hrest
      have HF := hid (FnS_any s n pu tm tu t X HCA.out.1 (by rw [hXl]; exact HCA.out.2.symm) HC.out.ok hdu' hdv')
      clear HVC hdu hdv
      go_enter Tryz.func65, Tryz.ntmps65
      go_wp2
      have hL0 := hid (OwnInts.lit0 (((w.alloc (.cells #[.slice (some ⟨b, off, none⟩) p.ns.length c1, .slice a2 p.gs.length c2] 38)).alloc (.cells #[.int .i64 n, pu, .int .i64 tm, .int .i64 t.log, tu] 43)).alloc (.cells #[.int .i64 8, .string s, .int .i64 num, .slice sa ra.length sc] 94)))
      have hsz3 : (((w.alloc (.cells #[.slice (some ⟨b, off, none⟩) p.ns.length c1, .slice a2 p.gs.length c2] 38)).alloc (.cells #[.int .i64 n, pu, .int .i64 tm, .int .i64 t.log, tu] 43)).alloc (.cells #[.int .i64 8, .string s, .int .i64 num, .slice sa ra.length sc] 94)).heap.size = w.heap.size + 1 + 1 + 1 := by simp
      rw [hsz3] at hL0
      have HX4 := hid (show Ext w (World.alloc (((w.alloc (.cells #[.slice (some ⟨b, off, none⟩) p.ns.length c1, .slice a2 p.gs.length c2] 38)).alloc (.cells #[.int .i64 n, pu, .int .i64 tm, .int .i64 t.log, tu] 43)).alloc (.cells #[.int .i64 8, .string s, .int .i64 num, .slice sa ra.length sc] 94)) (.cells #[] 3)) from HX3.out.alloc _)
      have HE4 := hid (HEI3.out.ext (show Ext (((w.alloc (.cells #[.slice (some ⟨b, off, none⟩) p.ns.length c1, .slice a2 p.gs.length c2] 38)).alloc (.cells #[.int .i64 n, pu, .int .i64 tm, .int .i64 t.log, tu] 43)).alloc (.cells #[.int .i64 8, .string s, .int .i64 num, .slice sa ra.length sc] 94)) (World.alloc (((w.alloc (.cells #[.slice (some ⟨b, off, none⟩) p.ns.length c1, .slice a2 p.gs.length c2] 38)).alloc (.cells #[.int .i64 n, pu, .int .i64 tm, .int .i64 t.log, tu] 43)).alloc (.cells #[.int .i64 8, .string s, .int .i64 num, .slice sa ra.length sc] 94)) (.cells #[] 3)) from (by repeat (with_reducible (first | assumption | exact Ext.refl _ | apply Ext.alloc | apply Ext.drew | apply Ext.drewN)))))
      have HP4 := hid (bP3.out.ext (show Ext (((w.alloc (.cells #[.slice (some ⟨b, off, none⟩) p.ns.length c1, .slice a2 p.gs.length c2] 38)).alloc (.cells #[.int .i64 n, pu, .int .i64 tm, .int .i64 t.log, tu] 43)).alloc (.cells #[.int .i64 8, .string s, .int .i64 num, .slice sa ra.length sc] 94)) (World.alloc (((w.alloc (.cells #[.slice (some ⟨b, off, none⟩) p.ns.length c1, .slice a2 p.gs.length c2] 38)).alloc (.cells #[.int .i64 n, pu, .int .i64 tm, .int .i64 t.log, tu] 43)).alloc (.cells #[.int .i64 8, .string s, .int .i64 num, .slice sa ra.length sc] 94)) (.cells #[] 3)) from (by repeat (with_reducible (first | assumption | exact Ext.refl _ | apply Ext.alloc | apply Ext.drew | apply Ext.drewN)))))
      have HG4 := hid (bG3.out.ext (show Ext (((w.alloc (.cells #[.slice (some ⟨b, off, none⟩) p.ns.length c1, .slice a2 p.gs.length c2] 38)).alloc (.cells #[.int .i64 n, pu, .int .i64 tm, .int .i64 t.log, tu] 43)).alloc (.cells #[.int .i64 8, .string s, .int .i64 num, .slice sa ra.length sc] 94)) (World.alloc (((w.alloc (.cells #[.slice (some ⟨b, off, none⟩) p.ns.length c1, .slice a2 p.gs.length c2] 38)).alloc (.cells #[.int .i64 n, pu, .int .i64 tm, .int .i64 t.log, tu] 43)).alloc (.cells #[.int .i64 8, .string s, .int .i64 num, .slice sa ra.length sc] 94)) (.cells #[] 3)) from (by repeat (with_reducible (first | assumption | exact Ext.refl _ | apply Ext.alloc | apply Ext.drew | apply Ext.drewN)))))
      have HN4 := hid (bN3.out.ext (show Ext (((w.alloc (.cells #[.slice (some ⟨b, off, none⟩) p.ns.length c1, .slice a2 p.gs.length c2] 38)).alloc (.cells #[.int .i64 n, pu, .int .i64 tm, .int .i64 t.log, tu] 43)).alloc (.cells #[.int .i64 8, .string s, .int .i64 num, .slice sa ra.length sc] 94)) (World.alloc (((w.alloc (.cells #[.slice (some ⟨b, off, none⟩) p.ns.length c1, .slice a2 p.gs.length c2] 38)).alloc (.cells #[.int .i64 n, pu, .int .i64 tm, .int .i64 t.log, tu] 43)).alloc (.cells #[.int .i64 8, .string s, .int .i64 num, .slice sa ra.length sc] 94)) (.cells #[] 3)) from (by repeat (with_reducible (first | assumption | exact Ext.refl _ | apply Ext.alloc | apply Ext.drew | apply Ext.drewN)))))
      go_loopw [16, 83] (fun sv iv wr => ∃ k : Nat, k ≤ ra.length ∧ iv = .int .i64 k ∧ OwnInts (w.heap.size + 1 + 1 + 1) wr sv (X.take k) ∧ EsI p V m KD VD W wr ∧ Kept2 KD VD w wr ∧ Bx wr w.heap.size #[.slice (some ⟨b, off, none⟩) p.ns.length c1, .slice a2 p.gs.length c2] 38 ∧ Bx wr (w.heap.size + 1) #[.int .i64 n, pu, .int .i64 tm, .int .i64 t.log, tu] 43 ∧ Bx wr (w.heap.size + 1 + 1) #[.int .i64 8, .string s, .int .i64 num, .slice sa ra.length sc] 94) (fun _ iv _ => ra.length - (intOf iv).toNat)
      case atStart => exact ⟨0, by omega, rfl, hL0.out, HE4.out, HX4.out.k2 _ _, HP4.out, HG4.out, HN4.out⟩
      case round =>
        clear hL0 hsz3 HX4 HE4 HP4 HG4 HN4 y0 y1 y2 y3
        obtain ⟨k, hk, rfl, hO, hE, hK, hP, hGx, hN⟩ := hrel
        have HO := hid hO
        have HE := hid hE
        have HK := hid hK
        have HP := hid hP
        have HGB := hid hGx
        have HN := hid hN
        have hKs := hK.size
        obtain ⟨va, vc, rfl, _⟩ := hO.form
        have hl2 : (X.take k).length = k := by rw [List.length_take, hXl]; omega
        rw [hl2] at hO ⊢
        have HLN := hid hl2
        by_cases hlk : k < ra.length
        · skip
          obtain ⟨b3, off3, y, rfl, hb3, hy, _, hc3⟩ := (HIS.out.same (show Same 0 B w wr from fun b h1 h2 => hK.block b (by omega) (by omega) (by omega))).atE hlk (Ext.refl wr) (by omega)
          obtain ⟨ha1, ha2, ha3⟩ := HAR.out y (List.mem_of_getElem? hy)
          obtain ⟨z, rfl⟩ : ∃ z : Nat, y = z := ⟨y.toNat, by omega⟩
          rw [Int.toNat_natCast] at ha1 ha2
          have hXk : X[k]? = some ((V z).getD q 0) := by rw [← hX, List.getElem?_map, hy]; rfl
          have hs9 := HX9.out _ (List.mem_of_getElem? hXk)
          obtain ⟨x, hx⟩ : ∃ x, (V z).getD q 0 = x := ⟨_, rfl⟩
          rw [hx] at hXk hs9
          have HXK := hid hXk
          have HS9 := hid hs9
          have HXE := hid hx
          have hp4 := HP.out
          have hg4 := HGB.out
          have g := hp4.lt
          have g0 := hp4.cell 0
          simp only [List.getElem?_toArray, List.getElem?_cons_zero, List.getElem?_cons_succ] at g0
          have g1 := hp4.cell 1
          simp only [List.getElem?_toArray, List.getElem?_cons_zero, List.getElem?_cons_succ] at g1
          have d := hg4.lt
          have d0 := hg4.cell 0
          simp only [List.getElem?_toArray, List.getElem?_cons_zero, List.getElem?_cons_succ] at d0
          have d1 := hg4.cell 1
          simp only [List.getElem?_toArray, List.getElem?_cons_zero, List.getElem?_cons_succ] at d1
          have d2 := hg4.cell 2
          simp only [List.getElem?_toArray, List.getElem?_cons_zero, List.getElem?_cons_succ] at d2
          have d3 := hg4.cell 3
          simp only [List.getElem?_toArray, List.getElem?_cons_zero, List.getElem?_cons_succ] at d3
          have d4 := hg4.cell 4
          simp only [List.getElem?_toArray, List.getElem?_cons_zero, List.getElem?_cons_succ] at d4
          clear hO hE hK hP hGx hN hy hXk hs9 hx hp4 hg4
          go_wp2_with fail
          refine (HGG.out z i j _ ha1 ha2 hi hj HE.out).mono ?_
          rintro e w5 ⟨rfl, hI5, hk5⟩
          rw [HQE.out, HXE.out]
          have hs5 := hk5.size
          have hO5 := HO.out.kept (show Same (w.heap.size + 1 + 1 + 1) wr.heap.size wr w5 from fun b h1 h2 => hk5.block b h2 (by omega) (by omega))
          have HO5 := hid (hO5.alloc (.cells #[.int .i64 x] 3))
          have HE5 := hid (hI5.ext (show Ext w5 (w5.alloc (.cells #[.int .i64 x] 3)) from (by repeat (with_reducible (first | assumption | exact Ext.refl _ | apply Ext.alloc | apply Ext.drew | apply Ext.drewN)))))
          have HK5 := hid ((HK.out.trans hk5).trans ((show Ext w5 (w5.alloc (.cells #[.int .i64 x] 3)) from (by repeat (with_reducible (first | assumption | exact Ext.refl _ | apply Ext.alloc | apply Ext.drew | apply Ext.drewN)))).k2 _ _))
          have HP5 := hid (show Bx (w5.alloc (.cells #[.int .i64 x] 3)) _ _ _ from Bx.ext ((hk5.block _ HP.out.lt k1 k2).trans HP.out) (by repeat (with_reducible (first | assumption | exact Ext.refl _ | apply Ext.alloc | apply Ext.drew | apply Ext.drewN))))
          have HG5 := hid (show Bx (w5.alloc (.cells #[.int .i64 x] 3)) _ _ _ from Bx.ext ((hk5.block _ HGB.out.lt k3 k4).trans HGB.out) (by repeat (with_reducible (first | assumption | exact Ext.refl _ | apply Ext.alloc | apply Ext.drew | apply Ext.drewN))))
          have HN5 := hid (show Bx (w5.alloc (.cells #[.int .i64 x] 3)) _ _ _ from Bx.ext ((hk5.block _ HN.out.lt k5 k6).trans HN.out) (by repeat (with_reducible (first | assumption | exact Ext.refl _ | apply Ext.alloc | apply Ext.drew | apply Ext.drewN))))
          rw [HLN.out] at HO5
          have hgl := HN.out.lt
          clear hO5 hI5 hk5 HO HE HK HP HGB HN g g0 g1 d d0 d1 d2 d3 d4
          go_wp2_with (at_builtin; refine wpList_append1 _ rfl _ _ rfl (w.heap.size + 1 + 1 + 1) _ (X.take k) rfl HO5.out x ⟨by have := HS9.out.1; omega, by have := HS9.out.2; omega⟩ w5.heap.size rfl (by simp [go_sem]) (by rw [HLN.out]; omega) (by simp; omega) ?_; intro v6 w6 hO6 hg6)
          have hob : ∀ kk, (Value.slice va k vc).ownBlock = some kk → w.heap.size + 1 + 1 + 1 ≤ kk ∧ kk < (w5.alloc (.cells #[.int .i64 x] 3)).heap.size := fun kk h => HO5.out.lt kk h
          rw [take_step2 HXK.out] at hO6
          have hE6 := HE5.out.args hg6 (fun kk e => by have := (hob kk e).1; omega) hklt hvlt
          have hK6 := kept2_low HK5.out hg6 (fun kk e => by have := (hob kk e).1; omega)
          have hne : ∀ bb, bb < w.heap.size + 1 + 1 + 1 → some bb ≠ (Value.slice va k vc).ownBlock := fun bb h e => by have := (hob bb e.symm).1; omega
          have hP6 : Bx w6 _ _ _ := (hg6.block _ HP5.out.lt (hne _ (by omega))).trans HP5.out
          have hG6 : Bx w6 _ _ _ := (hg6.block _ HG5.out.lt (hne _ (by omega))).trans HG5.out
          have hN6 : Bx w6 _ _ _ := (hg6.block _ HN5.out.lt (hne _ (by omega))).trans HN5.out
          have HO6 := hid hO6
          have HE6 := hid hE6
          have HK6 := hid hK6
          have HP6 := hid hP6
          have HG6 := hid hG6
          have HN6 := hid hN6
          clear hO6 hE6 hK6 hP6 hG6 hN6 hg6 hob hne
          go_wp2
          go_roundw
          case rel => exact ⟨k + 1, by omega, by go_num, HO6.out, HE6.out, HK6.out, HP6.out, HG6.out, HN6.out⟩
          case measure => simp [intOf]; omega
        · skip
          obtain rfl : k = ra.length := by omega
          rw [List.take_of_length_le (by omega)] at hO
          have hIn := hid hO.ints
          have hn4 := HN.out
          have hg4 := HGB.out
          have d := hg4.lt
          have d0 := hg4.cell 0
          simp only [List.getElem?_toArray, List.getElem?_cons_zero, List.getElem?_cons_succ] at d0
          have d1 := hg4.cell 1
          simp only [List.getElem?_toArray, List.getElem?_cons_zero, List.getElem?_cons_succ] at d1
          have d2 := hg4.cell 2
          simp only [List.getElem?_toArray, List.getElem?_cons_zero, List.getElem?_cons_succ] at d2
          have d3 := hg4.cell 3
          simp only [List.getElem?_toArray, List.getElem?_cons_zero, List.getElem?_cons_succ] at d3
          have d4 := hg4.cell 4
          simp only [List.getElem?_toArray, List.getElem?_cons_zero, List.getElem?_cons_succ] at d4
          have e := hn4.lt
          have e0 := hn4.cell 0
          simp only [List.getElem?_toArray, List.getElem?_cons_zero, List.getElem?_cons_succ] at e0
          have e1 := hn4.cell 1
          simp only [List.getElem?_toArray, List.getElem?_cons_zero, List.getElem?_cons_succ] at e1
          have e2 := hn4.cell 2
          simp only [List.getElem?_toArray, List.getElem?_cons_zero, List.getElem?_cons_succ] at e2
          have e3 := hn4.cell 3
          simp only [List.getElem?_toArray, List.getElem?_cons_zero, List.getElem?_cons_succ] at e3
          have HSW := hid (show Same 0 B w wr from fun b h1 h2 => hK.block b (by omega) (by omega) (by omega))
          clear hO hE hK hP hGx hN hg4 hn4 HO
          go_wp2_with fail
          refine (HF.out (w.heap.size + 1 + 1 + 1) wr.heap.size 0 B _ X wr rfl HX9.out hIn.out (Nat.le_refl _) (by obtain ⟨u, k1, k2, k3⟩ := HTX.out; exact ⟨u, k1, k2, k3.same HSW.out⟩) (by omega)).mono ?_
          rintro e w5 ⟨rfl, x5⟩
          go_wp2_with fail
          refine (sSaturate_val HV.out.symm _).mono ?_
          rintro e w6 ⟨rfl, rfl⟩
          go_wp2
          go_ret
          exact ⟨by first | rfl | simp [List.getD_eq_getElem?_getD], HE.out.ext x5, HK.out.trans (x5.k2 _ _)⟩
    case neg =>
      have ho : 3 ≤ op ∧ op ≤ 7 ∧ ra.length = if op = 3 then 1 else 2 := by
        rcases hrest with ⟨o, h⟩ | ⟨o, o', h⟩ | ⟨o, h⟩
        · simp only at o h; subst o; exact ⟨by omega, by omega, by rw [if_pos rfl]; exact h⟩
        · simp only at o o' h; exact ⟨by omega, by omega, by rw [if_neg (by omega)]; exact h⟩
        · simp only at o; exact absurd o o8
      have q1' : (op == 1) = false := beq_eq_false_iff_ne.2 (by omega)
      have q2' : (op == 2) = false := beq_eq_false_iff_ne.2 (by omega)
      have q8' : (op == 8) = false := beq_eq_false_iff_ne.2 o8
      have HV : Hid ((V node).getD q 0 = satI (opW op X)) := hid (by
        have h1 : 0 < ra.length := by split at ho <;> omega
        have h2 : (if op = 3 then 0 else 1) < ra.length := by split at ho <;> split <;> omega
        have hg0 := HC.out.good _ (HAR.out _ (List.getElem_mem h1)).2.1
        have hg1 := HC.out.good _ (HAR.out _ (List.getElem_mem h2)).2.1
        rw [HSTEP.out]
        unfold evB
        rw [if_neg (show ¬ op = 1 by omega), if_neg (show ¬ op = 2 by omega), if_neg o8]
        simp only
        rw [getD_map _ _ h1, getD_map _ _ h2]
        rw [← op_rowE (m := m) (num := op) (S := ra.map fun a => V a.toNat) (by simp [h1]) (by rw [List.getElem?_map, List.getElem?_eq_getElem h2]; rfl) hg0.1 hg1.1]
        rw [getD_rng _ hq, colOf_map, hX])
      have HF := hid (FnO_any ho.1 ho.2.1)
      have HXO : Hid (X.length = if op = 3 then 1 else 2) := hid (by rw [hXl]; exact ho.2.2)
      have ho1 := ho.1
      have ho2 := ho.2.1
      clear HSTEP hargs ho hrest o8
      go_enter Tryz.func65, Tryz.ntmps65
      go_wp2
      have hL0 := hid (OwnInts.lit0 (((w.alloc (.cells #[.slice (some ⟨b, off, none⟩) p.ns.length c1, .slice a2 p.gs.length c2] 38)).alloc (.cells #[.int .i64 n, pu, .int .i64 tm, .int .i64 t.log, tu] 43)).alloc (.cells #[.int .i64 op, .string s, .int .i64 num, .slice sa ra.length sc] 94)))
      have hsz3 : (((w.alloc (.cells #[.slice (some ⟨b, off, none⟩) p.ns.length c1, .slice a2 p.gs.length c2] 38)).alloc (.cells #[.int .i64 n, pu, .int .i64 tm, .int .i64 t.log, tu] 43)).alloc (.cells #[.int .i64 op, .string s, .int .i64 num, .slice sa ra.length sc] 94)).heap.size = w.heap.size + 1 + 1 + 1 := by simp
      rw [hsz3] at hL0
      have HX4 := hid (show Ext w (World.alloc (((w.alloc (.cells #[.slice (some ⟨b, off, none⟩) p.ns.length c1, .slice a2 p.gs.length c2] 38)).alloc (.cells #[.int .i64 n, pu, .int .i64 tm, .int .i64 t.log, tu] 43)).alloc (.cells #[.int .i64 op, .string s, .int .i64 num, .slice sa ra.length sc] 94)) (.cells #[] 3)) from HX3.out.alloc _)
      have HE4 := hid (HEI3.out.ext (show Ext (((w.alloc (.cells #[.slice (some ⟨b, off, none⟩) p.ns.length c1, .slice a2 p.gs.length c2] 38)).alloc (.cells #[.int .i64 n, pu, .int .i64 tm, .int .i64 t.log, tu] 43)).alloc (.cells #[.int .i64 op, .string s, .int .i64 num, .slice sa ra.length sc] 94)) (World.alloc (((w.alloc (.cells #[.slice (some ⟨b, off, none⟩) p.ns.length c1, .slice a2 p.gs.length c2] 38)).alloc (.cells #[.int .i64 n, pu, .int .i64 tm, .int .i64 t.log, tu] 43)).alloc (.cells #[.int .i64 op, .string s, .int .i64 num, .slice sa ra.length sc] 94)) (.cells #[] 3)) from (by repeat (with_reducible (first | assumption | exact Ext.refl _ | apply Ext.alloc | apply Ext.drew | apply Ext.drewN)))))
      have HP4 := hid (bP3.out.ext (show Ext (((w.alloc (.cells #[.slice (some ⟨b, off, none⟩) p.ns.length c1, .slice a2 p.gs.length c2] 38)).alloc (.cells #[.int .i64 n, pu, .int .i64 tm, .int .i64 t.log, tu] 43)).alloc (.cells #[.int .i64 op, .string s, .int .i64 num, .slice sa ra.length sc] 94)) (World.alloc (((w.alloc (.cells #[.slice (some ⟨b, off, none⟩) p.ns.length c1, .slice a2 p.gs.length c2] 38)).alloc (.cells #[.int .i64 n, pu, .int .i64 tm, .int .i64 t.log, tu] 43)).alloc (.cells #[.int .i64 op, .string s, .int .i64 num, .slice sa ra.length sc] 94)) (.cells #[] 3)) from (by repeat (with_reducible (first | assumption | exact Ext.refl _ | apply Ext.alloc | apply Ext.drew | apply Ext.drewN)))))
      have HG4 := hid (bG3.out.ext (show Ext (((w.alloc (.cells #[.slice (some ⟨b, off, none⟩) p.ns.length c1, .slice a2 p.gs.length c2] 38)).alloc (.cells #[.int .i64 n, pu, .int .i64 tm, .int .i64 t.log, tu] 43)).alloc (.cells #[.int .i64 op, .string s, .int .i64 num, .slice sa ra.length sc] 94)) (World.alloc (((w.alloc (.cells #[.slice (some ⟨b, off, none⟩) p.ns.length c1, .slice a2 p.gs.length c2] 38)).alloc (.cells #[.int .i64 n, pu, .int .i64 tm, .int .i64 t.log, tu] 43)).alloc (.cells #[.int .i64 op, .string s, .int .i64 num, .slice sa ra.length sc] 94)) (.cells #[] 3)) from (by repeat (with_reducible (first | assumption | exact Ext.refl _ | apply Ext.alloc | apply Ext.drew | apply Ext.drewN)))))
      have HN4 := hid (bN3.out.ext (show Ext (((w.alloc (.cells #[.slice (some ⟨b, off, none⟩) p.ns.length c1, .slice a2 p.gs.length c2] 38)).alloc (.cells #[.int .i64 n, pu, .int .i64 tm, .int .i64 t.log, tu] 43)).alloc (.cells #[.int .i64 op, .string s, .int .i64 num, .slice sa ra.length sc] 94)) (World.alloc (((w.alloc (.cells #[.slice (some ⟨b, off, none⟩) p.ns.length c1, .slice a2 p.gs.length c2] 38)).alloc (.cells #[.int .i64 n, pu, .int .i64 tm, .int .i64 t.log, tu] 43)).alloc (.cells #[.int .i64 op, .string s, .int .i64 num, .slice sa ra.length sc] 94)) (.cells #[] 3)) from (by repeat (with_reducible (first | assumption | exact Ext.refl _ | apply Ext.alloc | apply Ext.drew | apply Ext.drewN)))))
      go_loopw [16, 83] (fun sv iv wr => ∃ k : Nat, k ≤ ra.length ∧ iv = .int .i64 k ∧ OwnInts (w.heap.size + 1 + 1 + 1) wr sv (X.take k) ∧ EsI p V m KD VD W wr ∧ Kept2 KD VD w wr ∧ Bx wr w.heap.size #[.slice (some ⟨b, off, none⟩) p.ns.length c1, .slice a2 p.gs.length c2] 38 ∧ Bx wr (w.heap.size + 1) #[.int .i64 n, pu, .int .i64 tm, .int .i64 t.log, tu] 43 ∧ Bx wr (w.heap.size + 1 + 1) #[.int .i64 op, .string s, .int .i64 num, .slice sa ra.length sc] 94) (fun _ iv _ => ra.length - (intOf iv).toNat)
      case atStart => exact ⟨0, by omega, rfl, hL0.out, HE4.out, HX4.out.k2 _ _, HP4.out, HG4.out, HN4.out⟩
      case round =>
        clear hL0 hsz3 HX4 HE4 HP4 HG4 HN4 y0 y1 y2 y3
        obtain ⟨k, hk, rfl, hO, hE, hK, hP, hGx, hN⟩ := hrel
        have HO := hid hO
        have HE := hid hE
        have HK := hid hK
        have HP := hid hP
        have HGB := hid hGx
        have HN := hid hN
        have hKs := hK.size
        obtain ⟨va, vc, rfl, _⟩ := hO.form
        have hl2 : (X.take k).length = k := by rw [List.length_take, hXl]; omega
        rw [hl2] at hO ⊢
        have HLN := hid hl2
        by_cases hlk : k < ra.length
        · skip
          obtain ⟨b3, off3, y, rfl, hb3, hy, _, hc3⟩ := (HIS.out.same (show Same 0 B w wr from fun b h1 h2 => hK.block b (by omega) (by omega) (by omega))).atE hlk (Ext.refl wr) (by omega)
          obtain ⟨ha1, ha2, ha3⟩ := HAR.out y (List.mem_of_getElem? hy)
          obtain ⟨z, rfl⟩ : ∃ z : Nat, y = z := ⟨y.toNat, by omega⟩
          rw [Int.toNat_natCast] at ha1 ha2
          have hXk : X[k]? = some ((V z).getD q 0) := by rw [← hX, List.getElem?_map, hy]; rfl
          have hs9 := HX9.out _ (List.mem_of_getElem? hXk)
          obtain ⟨x, hx⟩ : ∃ x, (V z).getD q 0 = x := ⟨_, rfl⟩
          rw [hx] at hXk hs9
          have HXK := hid hXk
          have HS9 := hid hs9
          have HXE := hid hx
          have hp4 := HP.out
          have hg4 := HGB.out
          have g := hp4.lt
          have g0 := hp4.cell 0
          simp only [List.getElem?_toArray, List.getElem?_cons_zero, List.getElem?_cons_succ] at g0
          have g1 := hp4.cell 1
          simp only [List.getElem?_toArray, List.getElem?_cons_zero, List.getElem?_cons_succ] at g1
          have d := hg4.lt
          have d0 := hg4.cell 0
          simp only [List.getElem?_toArray, List.getElem?_cons_zero, List.getElem?_cons_succ] at d0
          have d1 := hg4.cell 1
          simp only [List.getElem?_toArray, List.getElem?_cons_zero, List.getElem?_cons_succ] at d1
          have d2 := hg4.cell 2
          simp only [List.getElem?_toArray, List.getElem?_cons_zero, List.getElem?_cons_succ] at d2
          have d3 := hg4.cell 3
          simp only [List.getElem?_toArray, List.getElem?_cons_zero, List.getElem?_cons_succ] at d3
          have d4 := hg4.cell 4
          simp only [List.getElem?_toArray, List.getElem?_cons_zero, List.getElem?_cons_succ] at d4
          clear hO hE hK hP hGx hN hy hXk hs9 hx hp4 hg4
          go_wp2_with fail
          refine (HGG.out z i j _ ha1 ha2 hi hj HE.out).mono ?_
          rintro e w5 ⟨rfl, hI5, hk5⟩
          rw [HQE.out, HXE.out]
          have hs5 := hk5.size
          have hO5 := HO.out.kept (show Same (w.heap.size + 1 + 1 + 1) wr.heap.size wr w5 from fun b h1 h2 => hk5.block b h2 (by omega) (by omega))
          have HO5 := hid (hO5.alloc (.cells #[.int .i64 x] 3))
          have HE5 := hid (hI5.ext (show Ext w5 (w5.alloc (.cells #[.int .i64 x] 3)) from (by repeat (with_reducible (first | assumption | exact Ext.refl _ | apply Ext.alloc | apply Ext.drew | apply Ext.drewN)))))
          have HK5 := hid ((HK.out.trans hk5).trans ((show Ext w5 (w5.alloc (.cells #[.int .i64 x] 3)) from (by repeat (with_reducible (first | assumption | exact Ext.refl _ | apply Ext.alloc | apply Ext.drew | apply Ext.drewN)))).k2 _ _))
          have HP5 := hid (show Bx (w5.alloc (.cells #[.int .i64 x] 3)) _ _ _ from Bx.ext ((hk5.block _ HP.out.lt k1 k2).trans HP.out) (by repeat (with_reducible (first | assumption | exact Ext.refl _ | apply Ext.alloc | apply Ext.drew | apply Ext.drewN))))
          have HG5 := hid (show Bx (w5.alloc (.cells #[.int .i64 x] 3)) _ _ _ from Bx.ext ((hk5.block _ HGB.out.lt k3 k4).trans HGB.out) (by repeat (with_reducible (first | assumption | exact Ext.refl _ | apply Ext.alloc | apply Ext.drew | apply Ext.drewN))))
          have HN5 := hid (show Bx (w5.alloc (.cells #[.int .i64 x] 3)) _ _ _ from Bx.ext ((hk5.block _ HN.out.lt k5 k6).trans HN.out) (by repeat (with_reducible (first | assumption | exact Ext.refl _ | apply Ext.alloc | apply Ext.drew | apply Ext.drewN))))
          rw [HLN.out] at HO5
          have hgl := HN.out.lt
          clear hO5 hI5 hk5 HO HE HK HP HGB HN g g0 g1 d d0 d1 d2 d3 d4
          go_wp2_with (at_builtin; refine wpList_append1 _ rfl _ _ rfl (w.heap.size + 1 + 1 + 1) _ (X.take k) rfl HO5.out x ⟨by have := HS9.out.1; omega, by have := HS9.out.2; omega⟩ w5.heap.size rfl (by simp [go_sem]) (by rw [HLN.out]; omega) (by simp; omega) ?_; intro v6 w6 hO6 hg6)
          have hob : ∀ kk, (Value.slice va k vc).ownBlock = some kk → w.heap.size + 1 + 1 + 1 ≤ kk ∧ kk < (w5.alloc (.cells #[.int .i64 x] 3)).heap.size := fun kk h => HO5.out.lt kk h
          rw [take_step2 HXK.out] at hO6
          have hE6 := HE5.out.args hg6 (fun kk e => by have := (hob kk e).1; omega) hklt hvlt
          have hK6 := kept2_low HK5.out hg6 (fun kk e => by have := (hob kk e).1; omega)
          have hne : ∀ bb, bb < w.heap.size + 1 + 1 + 1 → some bb ≠ (Value.slice va k vc).ownBlock := fun bb h e => by have := (hob bb e.symm).1; omega
          have hP6 : Bx w6 _ _ _ := (hg6.block _ HP5.out.lt (hne _ (by omega))).trans HP5.out
          have hG6 : Bx w6 _ _ _ := (hg6.block _ HG5.out.lt (hne _ (by omega))).trans HG5.out
          have hN6 : Bx w6 _ _ _ := (hg6.block _ HN5.out.lt (hne _ (by omega))).trans HN5.out
          have HO6 := hid hO6
          have HE6 := hid hE6
          have HK6 := hid hK6
          have HP6 := hid hP6
          have HG6 := hid hG6
          have HN6 := hid hN6
          clear hO6 hE6 hK6 hP6 hG6 hN6 hg6 hob hne
          go_wp2
          go_roundw
          case rel => exact ⟨k + 1, by omega, by go_num, HO6.out, HE6.out, HK6.out, HP6.out, HG6.out, HN6.out⟩
          case measure => simp [intOf]; omega
        · skip
          obtain rfl : k = ra.length := by omega
          rw [List.take_of_length_le (by omega)] at hO
          have hIn := hid hO.ints
          have hn4 := HN.out
          have hg4 := HGB.out
          have d := hg4.lt
          have d0 := hg4.cell 0
          simp only [List.getElem?_toArray, List.getElem?_cons_zero, List.getElem?_cons_succ] at d0
          have d1 := hg4.cell 1
          simp only [List.getElem?_toArray, List.getElem?_cons_zero, List.getElem?_cons_succ] at d1
          have d2 := hg4.cell 2
          simp only [List.getElem?_toArray, List.getElem?_cons_zero, List.getElem?_cons_succ] at d2
          have d3 := hg4.cell 3
          simp only [List.getElem?_toArray, List.getElem?_cons_zero, List.getElem?_cons_succ] at d3
          have d4 := hg4.cell 4
          simp only [List.getElem?_toArray, List.getElem?_cons_zero, List.getElem?_cons_succ] at d4
          have e := hn4.lt
          have e0 := hn4.cell 0
          simp only [List.getElem?_toArray, List.getElem?_cons_zero, List.getElem?_cons_succ] at e0
          have e1 := hn4.cell 1
          simp only [List.getElem?_toArray, List.getElem?_cons_zero, List.getElem?_cons_succ] at e1
          have e2 := hn4.cell 2
          simp only [List.getElem?_toArray, List.getElem?_cons_zero, List.getElem?_cons_succ] at e2
          have e3 := hn4.cell 3
          simp only [List.getElem?_toArray, List.getElem?_cons_zero, List.getElem?_cons_succ] at e3
          have HSW := hid (show Same 0 B w wr from fun b h1 h2 => hK.block b (by omega) (by omega) (by omega))
          clear hO hE hK hP hGx hN hg4 hn4 HO
          go_wp2_with fail
          refine (HF.out (w.heap.size + 1 + 1 + 1) wr.heap.size _ X wr HXO.out HX9.out hIn.out (Nat.le_refl _)).mono ?_
          rintro e w5 ⟨rfl, x5⟩
          go_wp2_with fail
          refine (sSaturate_val HV.out.symm _).mono ?_
          rintro e w6 ⟨rfl, rfl⟩
          go_wp2
          go_ret
          exact ⟨by first | rfl | simp [List.getD_eq_getElem?_getD], HE.out.ext x5, HK.out.trans (x5.k2 _ _)⟩
end
end Go.Proofs.YtjfcngbepjdfnaaGreat
end

section
/- This text proves that the reference's memo hands back the values of nodes. -/
namespace Go.Proofs.YtjfcngbepjdfnaaGreat
open Go.RowKit

section
variable {p : Prg} {V : Nat → List Int} {B M KD VD : Nat} {a1 a2 oa : Option Addr} {c1 c2 oc n m : Nat} {pu tu : Value} {f : Nat → Int} {tm : Int} {t : Tex} {W w w' : World}
set_option maxRecDepth 100000 in
set_option maxHeartbeats 25600000 in
theorem sGet_any (C : EsC p V B M KD VD a1 a2 oa c1 c2 oc n m pu tu f tm t W) : ∀ F, GetOk p V M KD VD a1 a2 oa c1 c2 oc n m pu tu tm t W F := by
  intro F
  induction F with
  | zero => intro node i j w h; omega
  | succ F ih =>
    intro node i j w hr hn hi hj hI
    have l5 := C.k.v.len
    have hn8 := C.n8
    have hq := at_lt C.hm hi hj
    have hm64 : m ≤ 64 := by rw [← C.hm]; have := Nat.mul_le_mul hn8 hn8; omega
    have x2 : Ext w ((w.alloc (.cells #[.slice a1 p.ns.length c1, .slice a2 p.gs.length c2] 38)).alloc (.cells #[.int .i64 n, pu, .int .i64 tm, .int .i64 t.log, tu] 43)) := (by repeat (with_reducible (first | assumption | exact Ext.refl _ | apply Ext.alloc | apply Ext.drew | apply Ext.drewN)))
    have hI2 := hI.ext x2
    obtain ⟨q, hqe⟩ : ∃ q, j * n + i = q := ⟨_, rfl⟩
    have HQE := hid hqe
    obtain ⟨kk, hkk⟩ : ∃ kk, node * m + q = kk := ⟨_, rfl⟩
    rw [hqe] at hq ⊢
    have hkl := ix_lt hn hq
    rw [hkk] at hkl
    have hsz : p.ns.length * m ≤ 3840 := Nat.mul_le_mul (show p.ns.length ≤ 60 from l5) hm64
    obtain ⟨P1, hP1⟩ : ∃ P1 : Nat, node * n = P1 := ⟨_, rfl⟩
    obtain ⟨P3, hP3⟩ : ∃ P3 : Nat, (P1 + j) * n = P3 := ⟨_, rfl⟩
    have hkk2 : P3 + i = kk := by
      rw [← hP3, ← hP1, ← hkk, ← hqe, ← C.hm, Nat.add_mul, Nat.mul_assoc]
      omega
    have i1 : (node : Int) * n = P1 := by rw [← hP1]; simp
    have i3 : ((P1 : Int) + j) * n = P3 := by rw [← hP3]; simp
    have i4 : (P3 : Int) + i = kk := by rw [← hkk2]; simp
    have b1 : P1 ≤ 480 := by rw [← hP1]; exact Nat.mul_le_mul (show node ≤ 60 by omega) hn8
    have b3 : P3 ≤ 3840 := by omega
    obtain ⟨g1, g2, kb, x, y, g3, g4, g5, g6, g7⟩ := hI2.load hn hq
    rw [hkk] at g3 g4 g5 g6
    have hBE := C.boxE hI2
    have bP2 := (Bx.made w #[.slice a1 p.ns.length c1, .slice a2 p.gs.length c2] 38).ext (show Ext _ ((w.alloc (.cells #[.slice a1 p.ns.length c1, .slice a2 p.gs.length c2] 38)).alloc (.cells #[.int .i64 n, pu, .int .i64 tm, .int .i64 t.log, tu] 43)) from (by repeat (with_reducible (first | assumption | exact Ext.refl _ | apply Ext.alloc | apply Ext.drew | apply Ext.drewN))))
    have HC := hid C
    have HIH := hid ih
    have HI2 := hid hI2
    have HX2 := hid x2
    have HKK := hid hkk
    have hmk := C.mK
    have hmv := C.mV
    have hkv := C.kv
    have d := hBE.lt
    have d0 := hBE.cell 0
    simp only [List.getElem?_toArray, List.getElem?_cons_zero, List.getElem?_cons_succ] at d0
    have d1 := hBE.cell 1
    simp only [List.getElem?_toArray, List.getElem?_cons_zero, List.getElem?_cons_succ] at d1
    clear C ih hI hI2 x2 hqe hkk hP1 hP3 hkk2 hBE bP2 hsz
    cases kb
    case true =>
      have HV := hid (g7 rfl)
      clear g7
      go_enter Tryz.func41, Tryz.ntmps41
      go_wp2
      go_ret
      exact ⟨ret_int HV.out, HI2.out, HX2.out.k2 _ _⟩
    case false =>
      obtain ⟨v, hv⟩ : ∃ v, (V node).getD q 0 = v := ⟨_, rfl⟩
      have HV := hid hv
      rw [hv]
      clear hv
      go_enter Tryz.func41, Tryz.ntmps41
      go_wp2_with fail
      refine (sCalc_any HC.out HIH.out node i j _ (by omega) hn hi hj HI2.out).mono ?_
      rintro e w4 ⟨rfl, hI4, hk4⟩
      rw [HQE.out, HV.out]
      obtain ⟨s1, s2, kb', x', y', s3, s4, s5, s6, _⟩ := hI4.load hn hq
      rw [HKK.out] at s3 s4 s5 s6
      obtain ⟨hS, hK⟩ := hI4.store hkv hn hq
      rw [HKK.out, HV.out] at hS hK
      have hB4 := HC.out.boxE hI4
      have e := hB4.lt
      have e0 := hB4.cell 0
      simp only [List.getElem?_toArray, List.getElem?_cons_zero, List.getElem?_cons_succ] at e0
      have e1 := hB4.cell 1
      simp only [List.getElem?_toArray, List.getElem?_cons_zero, List.getElem?_cons_succ] at e1
      have HS := hid hS
      have HK := hid ((HX2.out.k2 _ _).trans (hk4.trans hK))
      have hvk := Ne.symm hkv
      have hkm := Ne.symm hmk
      have hvm := Ne.symm hmv
      clear g7 g3 g4 g5 g6 hS hK hI4 hk4 hB4 d d0 d1
      go_wp2
      go_ret
      exact ⟨by first | rfl | simp, HS.out, HK.out⟩
end
/-- the texts of the checks in front of an evaluation -/
theorem sIsValidGrid_valE {g : Grd} {b : Bool} (h : g.okB = b) (lo hi : Nat) (v : Value) (w : World) (hv : g.R lo hi w v) (hh : hi ≤ w.heap.size) : Calls Tryz.prog 40 #[v] w fun e w' => e = .returned (.bool b) ∧ Ext w w' := h ▸ sIsValidGrid_any lo hi v g w hv hh
set_option maxRecDepth 20000 in
set_option maxHeartbeats 6400000 in
theorem sOk_any (lo hi lo' hi' : Nat) (v u : Value) (p : Prg) (g : Grd) (i j : Int) (w : World) (hv : p.R lo hi w v) (hh : hi ≤ w.heap.size) (hu : g.R lo' hi' w u) (hh' : hi' ≤ w.heap.size) (hb : p.bd) (hnl : p.ns.length ≤ 1048576) (hgl : p.gs.length ≤ 1048576) :
    Calls Tryz.prog 19 #[v, u, .int .i64 i, .int .i64 j] w fun e w' => e = .returned (.bool (evOk p g i j)) ∧ Ext w w' := by
  have HV := hid hv
  have HU := hid hu
  obtain ⟨a1, c1, a2, c2, rfl, -, -⟩ := hv.form
  obtain ⟨pu, tu, rfl, n64, -, -, -, -⟩ := hu
  have HB := hid hb
  clear hv hb
  have x0 : Ext w ((w.alloc (.cells #[.slice a1 p.ns.length c1, .slice a2 p.gs.length c2] 38)).alloc (.cells #[.int .i64 g.n, pu, .int .i64 g.tm, .int .i64 g.t.log, tu] 43)) := (by repeat (with_reducible (first | assumption | exact Ext.refl _ | apply Ext.alloc | apply Ext.drew | apply Ext.drewN)))
  have bG := Bx.madeAt (B := w.heap.size + 1) (w.alloc (.cells #[.slice a1 p.ns.length c1, .slice a2 p.gs.length c2] 38)) #[.int .i64 g.n, pu, .int .i64 g.tm, .int .i64 g.t.log, tu] 43 (by simp)
  obtain ⟨bo, hbo⟩ : ∃ b, evOk p g i j = b := ⟨_, rfl⟩
  have HBO := hid hbo
  rw [hbo]
  unfold evOk at hbo
  cases h1 : p.chkB
  · have H1 := hid h1
    obtain rfl : bo = false := by rw [← hbo, h1]; rfl
    clear hbo h1 n64
    go_enter Tryz.func19, Tryz.ntmps19
    go_wp2_with fail
    refine (sCheck_any lo hi _ p _ (HV.out.ext hh x0) (Nat.le_trans hh x0.size) HB.out hnl hgl).mono ?_
    rintro e w1 ⟨⟨c, k, rfl, hc⟩, x1⟩
    rw [H1.out] at hc
    have X1 := x0.trans x1
    go_wp2
    go_ret
    exact ⟨rfl, X1⟩
  cases h2 : g.okB
  · have H1 := hid h1
    have H2 := hid h2
    obtain rfl : bo = false := by rw [← hbo, h2]; simp
    clear hbo h1 h2 n64
    go_enter Tryz.func19, Tryz.ntmps19
    go_wp2_with fail
    refine (sCheck_any lo hi _ p _ (HV.out.ext hh x0) (Nat.le_trans hh x0.size) HB.out hnl hgl).mono ?_
    rintro e w1 ⟨⟨c, k, rfl, hc⟩, x1⟩
    rw [H1.out] at hc
    have X1 := x0.trans x1
    have bG1 := bG.ext x1
    have q := bG1.lt
    have q0 := bG1.cell 0
    simp only [List.getElem?_toArray, List.getElem?_cons_zero, List.getElem?_cons_succ] at q0
    have q1 := bG1.cell 1
    simp only [List.getElem?_toArray, List.getElem?_cons_zero, List.getElem?_cons_succ] at q1
    have q2 := bG1.cell 2
    simp only [List.getElem?_toArray, List.getElem?_cons_zero, List.getElem?_cons_succ] at q2
    have q3 := bG1.cell 3
    simp only [List.getElem?_toArray, List.getElem?_cons_zero, List.getElem?_cons_succ] at q3
    have q4 := bG1.cell 4
    simp only [List.getElem?_toArray, List.getElem?_cons_zero, List.getElem?_cons_succ] at q4
    go_wp2_with fail
    refine (sIsValidGrid_valE H2.out lo' hi' _ _ (HU.out.ext2 hh' X1) (Nat.le_trans hh' X1.size)).mono ?_
    rintro e w2 ⟨rfl, x2⟩
    have X2 := X1.trans x2
    go_wp2
    go_ret
    exact ⟨rfl, X2⟩
  obtain ⟨n, hn, hnn, n1, n8, hok, htm9, hf9⟩ := Grd.partsE h2
  have H1 := hid h1
  have H2 := hid h2
  rw [h1, h2] at hbo
  simp only [Bool.true_and] at hbo
  rw [hn] at hbo x0 bG HU ⊢
  obtain ⟨bi, hbi⟩ : ∃ b, inB i 0 ((n : Int) - 1) = b := ⟨_, rfl⟩
  obtain ⟨bj, hbj⟩ : ∃ b, inB j 0 ((n : Int) - 1) = b := ⟨_, rfl⟩
  rw [hbi, hbj] at hbo
  have HI := hid hbi
  have HJ := hid hbj
  subst hbo
  clear h1 h2 hnn hok htm9 hf9 hbi hbj hn n64
  go_enter Tryz.func19, Tryz.ntmps19
  go_wp2_with fail
  refine (sCheck_any lo hi _ p _ (HV.out.ext hh x0) (Nat.le_trans hh x0.size) HB.out hnl hgl).mono ?_
  rintro e w1 ⟨⟨c, k, rfl, hc⟩, x1⟩
  rw [H1.out] at hc
  have X1 := x0.trans x1
  have bG1 := bG.ext x1
  have q := bG1.lt
  have q0 := bG1.cell 0
  simp only [List.getElem?_toArray, List.getElem?_cons_zero, List.getElem?_cons_succ] at q0
  have q1 := bG1.cell 1
  simp only [List.getElem?_toArray, List.getElem?_cons_zero, List.getElem?_cons_succ] at q1
  have q2 := bG1.cell 2
  simp only [List.getElem?_toArray, List.getElem?_cons_zero, List.getElem?_cons_succ] at q2
  have q3 := bG1.cell 3
  simp only [List.getElem?_toArray, List.getElem?_cons_zero, List.getElem?_cons_succ] at q3
  have q4 := bG1.cell 4
  simp only [List.getElem?_toArray, List.getElem?_cons_zero, List.getElem?_cons_succ] at q4
  go_wp2_with fail
  refine (sIsValidGrid_valE H2.out lo' hi' _ _ (HU.out.ext2 hh' X1) (Nat.le_trans hh' X1.size)).mono ?_
  rintro e w2 ⟨rfl, x2⟩
  have X2 := X1.trans x2
  have bG2 := bG1.ext x2
  have d := bG2.lt
  have d0 := bG2.cell 0
  simp only [List.getElem?_toArray, List.getElem?_cons_zero, List.getElem?_cons_succ] at d0
  have d1 := bG2.cell 1
  simp only [List.getElem?_toArray, List.getElem?_cons_zero, List.getElem?_cons_succ] at d1
  have d2 := bG2.cell 2
  simp only [List.getElem?_toArray, List.getElem?_cons_zero, List.getElem?_cons_succ] at d2
  have d3 := bG2.cell 3
  simp only [List.getElem?_toArray, List.getElem?_cons_zero, List.getElem?_cons_succ] at d3
  have d4 := bG2.cell 4
  simp only [List.getElem?_toArray, List.getElem?_cons_zero, List.getElem?_cons_succ] at d4
  go_wp2_with fail
  refine (l01In_val HI.out _).mono ?_
  rintro e w3 ⟨rfl, rfl⟩
  cases bi
  · go_wp2
    go_ret
    exact ⟨rfl, X2⟩
  go_wp2_with fail
  refine (l01In_val HJ.out _).mono ?_
  rintro e w3 ⟨rfl, rfl⟩
  go_wp2
  go_ret
  exact ⟨by first | rfl | simp, X2⟩
end Go.Proofs.YtjfcngbepjdfnaaGreat
end

section
/- This text proves the reference's evaluation of a node with a fresh memo. -/
namespace Go.Proofs.YtjfcngbepjdfnaaGreat
open Go.RowKit

theorem info_bool : (Tryz.prog.info? 4).map (fun i => (i.zero, i.size, i.bytes)) = some (some (.bool false), 1, 1) := by kernel_rfl
theorem made_one (z : Value) (n : Nat) : ∀ i, i < n → (madeCells #[z] n)[i]? = some z := by
  intro i hi
  simp [madeCells, hi]
  rw [Nat.mod_one]
  rfl
theorem ownsRow_row1 {w : World} {lo : Nat} {e : TypeId} {n g : Nat} {z : Value} (h : w.ownsRow lo e 1 (.slice (some ⟨g, 0, none⟩) n n) n (madeCells #[z] n).toList) : w.rowIs g e n (fun _ => z) := by
  have := ownsRow_rowIs (size := 1) (z := #[z]) (f := fun _ => z) (fun i hi => made_one z (n * 1) i hi) (by rw [Nat.mul_one]; exact h)
  rwa [Nat.mul_one] at this
theorem IntsAt.at0 {lo hi B : Nat} {w w' : World} {a : Option Addr} {cap : Nat} {xs : List Int} (h : IntsAt lo hi w a cap xs) (hB : hi ≤ B) (hw : B ≤ w.heap.size) (e : Ext w w') : IntsAt 0 B w' a cap xs := by
  have h1 := ((h.shut).wide (Nat.zero_le _) hB).ext hw e
  obtain ⟨a', c', e, H⟩ := h1.open
  simp only [Value.slice.injEq, true_and] at e
  obtain ⟨rfl, rfl⟩ := e
  exact H
set_option maxRecDepth 100000 in
set_option maxHeartbeats 12800000 in
theorem sEval_any (lo hi' lo' hi2 lo3 hi3 : Nat) (a1 a2 oa : Option Addr) (c1 c2 oc : Nat) (pu tu : Value) (p : Prg) (g : Grd) (n node i j : Nat) (w : World) (HN : NdsAt lo hi' w a1 c1 p.ns) (HG : AsgsAt lo hi' w a2 c2 p.gs) (hh : hi' ≤ w.heap.size)
    (hpt : Flats 5 lo' hi2 w pu g.m g.f) (htx : TexR lo' hi2 w (.agg #[.int .i64 g.t.log, tu]) g.t) (hh2 : hi2 ≤ w.heap.size) (HO : IntsAt lo3 hi3 w oa oc p.ownL) (hh3 : hi3 ≤ w.heap.size) (hb : p.bd) (hK : p.K) (hgl : p.gs.length ≤ 1048576) (hg : g.okB = true) (hgn : g.n = n) (hn : node < p.ns.length) (hi : i < n) (hj : j < n) :
    Calls Tryz.prog 21 #[.agg #[.slice a1 p.ns.length c1, .slice a2 p.gs.length c2], .agg #[.int .i64 n, pu, .int .i64 g.tm, .int .i64 g.t.log, tu], .slice oa p.ns.length oc, .int .i64 node, .int .i64 i, .int .i64 j] w fun e w' => e = .returned (.int .i64 ((p.ev n g.m g.f g.tm g.t node).getD (j * n + i) 0)) ∧ Ext w w' := by
  obtain ⟨i0, hi0, hz0, hz1, hz2⟩ := info_parts info_int
  obtain ⟨k0, hk0, kz0, kz1, kz2⟩ := info_parts info_bool
  obtain ⟨n', hn', hnn, n1, n8, hok, htm9, hf9⟩ := Grd.partsE hg
  obtain rfl : n = n' := by omega
  have l1 := HN.le
  have l2 := HN.cap
  have l5 := hK.v.len
  have hm64 : g.m ≤ 64 := by rw [← hnn]; have := Nat.mul_le_mul n8 n8; omega
  obtain ⟨sz, hsz⟩ : ∃ sz, p.ns.length * g.m = sz := ⟨_, rfl⟩
  have hsz2 : sz ≤ 3840 := by rw [← hsz]; exact Nat.mul_le_mul (show p.ns.length ≤ 60 from l5) hm64
  obtain ⟨S1, hS1⟩ : ∃ S1 : Nat, p.ns.length * n = S1 := ⟨_, rfl⟩
  have e1 : (p.ns.length : Int) * n = S1 := by rw [← hS1]; simp
  have e2 : (S1 : Int) * n = sz := by rw [← hsz, ← hnn, ← hS1, ← Nat.mul_assoc]; simp
  have s1b : S1 ≤ 480 := by rw [← hS1]; exact Nat.mul_le_mul (show p.ns.length ≤ 60 from l5) n8
  have HSZ := hid hsz
  have HMK : Hid (∀ (W : World) (M KD VD : Nat), Ext w W → Bx W M #[.slice (some ⟨KD, 0, none⟩) sz sz, .slice (some ⟨VD, 0, none⟩) sz sz] 93 → w.heap.size ≤ KD → w.heap.size ≤ VD → KD < W.heap.size → VD < W.heap.size → KD ≠ VD → M ≠ KD → M ≠ VD → EsC p (p.ev n g.m g.f g.tm g.t) w.heap.size M KD VD a1 a2 oa c1 c2 oc n g.m pu tu g.f g.tm g.t W) := hid (fun W M KD VD hX hbox h1 h2 h3 h4 h5 h6 h7 =>
    { nodes := Nds.at0 HN hh (Nat.le_refl _) hX, asgs := Asgs.at0 HG hh (Nat.le_refl _) hX, own := HO.at0 hh3 (Nat.le_refl _) hX, bd := hb, k := hK, gl := hgl,
       pts := (hpt.wide (Nat.zero_le _) hh2).ext (Nat.le_refl _) hX, tex := (htx.wide (Nat.zero_le _) hh2).ext (Nat.le_refl _) hX,
       hm := hnn, n1 := n1, n8 := n8, ok := hok, tm9 := htm9, f9 := hf9, step := fun j x hx => hK.ev_step hx, good := fun j hj => hK.ev_good hnn hf9 htm9 _ j (Nat.lt_succ_self _) hj,
       bB := hX.size, box := by rw [hsz]; exact hbox, kB := h1, vB := h2, kl := h3, vl := h4, kv := h5, mK := h6, mV := h7 })
  have x2 : Ext w ((w.alloc (.cells #[.slice a1 p.ns.length c1, .slice a2 p.gs.length c2] 38)).alloc (.cells #[.int .i64 n, pu, .int .i64 g.tm, .int .i64 g.t.log, tu] 43)) := (by repeat (with_reducible (first | assumption | exact Ext.refl _ | apply Ext.alloc | apply Ext.drew | apply Ext.drewN)))
  have bG := Bx.madeAt (B := w.heap.size + 1) (w.alloc (.cells #[.slice a1 p.ns.length c1, .slice a2 p.gs.length c2] 38)) #[.int .i64 n, pu, .int .i64 g.tm, .int .i64 g.t.log, tu] 43 (by simp)
  have bP := (Bx.made w #[.slice a1 p.ns.length c1, .slice a2 p.gs.length c2] 38).ext (show Ext _ ((w.alloc (.cells #[.slice a1 p.ns.length c1, .slice a2 p.gs.length c2] 38)).alloc (.cells #[.int .i64 n, pu, .int .i64 g.tm, .int .i64 g.t.log, tu] 43)) from (by repeat (with_reducible (first | assumption | exact Ext.refl _ | apply Ext.alloc | apply Ext.drew | apply Ext.drewN))))
  clear HN HG HO hpt htx hsz hS1 hnn hok htm9 hf9 hn' hgn
  go_enter Tryz.func21, Tryz.ntmps21
  go_upto_region 2 with fail
  generalize ((w.alloc (.cells #[.slice a1 p.ns.length c1, .slice a2 p.gs.length c2] 38)).alloc (.cells #[.int .i64 n, pu, .int .i64 g.tm, .int .i64 g.t.log, tu] 43)) = w2 at x2 bG bP ⊢
  have hw2 := x2.size
  have b := bP.lt
  have b0 := bP.cell 0
  simp only [List.getElem?_toArray, List.getElem?_cons_zero, List.getElem?_cons_succ] at b0
  have b1 := bP.cell 1
  simp only [List.getElem?_toArray, List.getElem?_cons_zero, List.getElem?_cons_succ] at b1
  have d := bG.lt
  have d0 := bG.cell 0
  simp only [List.getElem?_toArray, List.getElem?_cons_zero, List.getElem?_cons_succ] at d0
  have d1 := bG.cell 1
  simp only [List.getElem?_toArray, List.getElem?_cons_zero, List.getElem?_cons_succ] at d1
  have d2 := bG.cell 2
  simp only [List.getElem?_toArray, List.getElem?_cons_zero, List.getElem?_cons_succ] at d2
  have d3 := bG.cell 3
  simp only [List.getElem?_toArray, List.getElem?_cons_zero, List.getElem?_cons_succ] at d3
  have d4 := bG.cell 4
  simp only [List.getElem?_toArray, List.getElem?_cons_zero, List.getElem?_cons_succ] at d4
  refine wp_region_Z 13 w2.heap.size (by kernel_rfl) ?_
  refine wpZ_stage (fuel := 5) [0, 1, 2, 3, 5, 9, 10, 11] [4, 6] (by kernel_rfl) (fun b _ hb => rfl) ?_
  try simp only [Act.put, List.setIfInBounds_toArray, List.set_cons_succ, List.set_cons_zero]
  simp only [List.filterMap_cons, List.filterMap_nil, List.getElem?_toArray, List.getElem?_cons_zero, List.getElem?_cons_succ]
  show wpQuiet _ _ _ _ [_, _, _, _, _, _, _, _] _
  repeat (go_big_quiet_step (fail))
  refine wpQuiet_nil ?_
  intro e he
  simp only [List.mem_cons, List.not_mem_nil, or_false] at he
  rcases he with rfl | rfl
  · skip
    (unfold wpComes; simp only [List.getElem?_toArray, List.getElem?_cons_succ, List.getElem?_cons_zero, Option.some.injEq]; refine ⟨_, rfl, fun K hK => ?_⟩)
    go_wp2_with (at_make; refine wpList_make_full _ rfl _ _ 91 rfl w2.heap.size 4 k0 (.bool false) 1 Tryz.underlying91 hk0 kz0 kz1 _ _ _ _ sz rfl rfl rfl rfl (by rw [kz2]; omega) (by unfold maxLen; omega) (Nat.le_refl _) ?_)
    intro w3 hownk hgrowk
    have HRK := hid (ownsRow_row1 hownk)
    clear hownk
    have y3 : Ext w2 w3 := Ext.grown (by repeat (with_reducible (first | assumption | exact Ext.refl _ | apply Ext.alloc | apply Ext.drew | apply Ext.drewN))) hgrowk (fun k h => by cases h)
    go_wp2_with fail
    refine hK _ _ (.inr (fun b _ hb => y3.block (by omega))) ?_
    clear hK K
    refine wpZ_stage (fuel := 4) [] [6] (by kernel_rfl) (fun b _ hb => y3.block (by omega)) ?_
    refine wpQuiet_nil ?_
    intro e he
    simp only [List.mem_cons, List.not_mem_nil, or_false] at he
    subst he
    (unfold wpComes; simp only [List.getElem?_toArray, List.getElem?_cons_succ, List.getElem?_cons_zero, Option.some.injEq]; refine ⟨_, rfl, fun K hK => ?_⟩)
    go_wp2_with (at_make; refine wpList_make_full _ rfl _ _ 27 rfl w3.heap.size 3 i0 (.int .i64 0) 1 Tryz.underlying27 hi0 hz0 hz1 _ _ _ _ sz rfl rfl rfl rfl (by rw [hz2]; omega) (by unfold maxLen; omega) (Nat.le_refl _) ?_)
    intro w5 hownv hgrowv
    have HRV := hid (ownsRow_row1 hownv)
    clear hownv
    have hkl := World.rowIs.lt HRK.out
    have x35 : Ext w3 w5 := Ext.grown (Ext.refl _) hgrowv (fun k h => by cases h)
    have y5 : Ext w2 w5 := y3.trans x35
    go_wp2_with fail
    refine hK _ _ (.inr (fun b _ hb => y5.block (by omega))) ?_
    clear hK K
    replace HRK := hid (World.rowIs.of_block HRK.out (x35.block hkl))
    have hvl := World.rowIs.lt HRV.out
    have hs35 := x35.size
    clear hgrowk hgrowv y3 x35
    have hkb : w.heap.size ≤ w2.heap.size := by omega
    have hvb : w.heap.size ≤ w3.heap.size := by omega
    refine wpZ_stage (fuel := 2) [7] [8] (by kernel_rfl) (fun b _ hb => y5.block (by omega)) ?_
    try simp only [Act.put, List.setIfInBounds_toArray, List.set_cons_succ, List.set_cons_zero]
    simp only [List.filterMap_cons, List.filterMap_nil, List.getElem?_toArray, List.getElem?_cons_zero, List.getElem?_cons_succ]
    show wpQuiet _ _ _ _ [_] _
    repeat (go_big_quiet_step (fail))
    refine wpQuiet_nil ?_
    intro e he
    simp only [List.mem_cons, List.not_mem_nil, or_false] at he
    subst he
    (unfold wpComes; simp only [List.getElem?_toArray, List.getElem?_cons_succ, List.getElem?_cons_zero, Option.some.injEq]; refine ⟨_, rfl, fun K hK => ?_⟩)
    go_wp2_with fail
    have y6 : Ext w2 (w5.alloc (.cells #[.slice (some ⟨w2.heap.size, 0, none⟩) sz sz, .slice (some ⟨w3.heap.size, 0, none⟩) sz sz] 93)) := y5.alloc _
    have hbm := Bx.made w5 #[.slice (some ⟨w2.heap.size, 0, none⟩) sz sz, .slice (some ⟨w3.heap.size, 0, none⟩) sz sz] 93
    refine hK _ _ (.inr (fun b _ hb => y6.block (by omega))) ?_
    clear hK K
    refine wpZ_stage (fuel := 1) [] [12] (by kernel_rfl) (fun b _ hb => y6.block (by omega)) ?_
    refine wpQuiet_nil ?_
    intro e he
    simp only [List.mem_cons, List.not_mem_nil, or_false] at he
    subst he
    (unfold wpComes; simp only [List.getElem?_toArray, List.getElem?_cons_succ, List.getElem?_cons_zero, Option.some.injEq]; refine ⟨_, rfl, fun K hK => ?_⟩)
    have HEC := hid (HMK.out (w5.alloc (.cells #[.slice (some ⟨w2.heap.size, 0, none⟩) sz sz, .slice (some ⟨w3.heap.size, 0, none⟩) sz sz] 93)) w5.heap.size (w2.heap.size) (w3.heap.size) (x2.trans y6) hbm hkb hvb (by simp; omega) (by simp; omega) (by omega) (by omega) (by omega))
    have HEI := hid (show EsI p (p.ev n g.m g.f g.tm g.t) g.m w2.heap.size w3.heap.size (w5.alloc (.cells #[.slice (some ⟨w2.heap.size, 0, none⟩) sz sz, .slice (some ⟨w3.heap.size, 0, none⟩) sz sz] 93)) (w5.alloc (.cells #[.slice (some ⟨w2.heap.size, 0, none⟩) sz sz, .slice (some ⟨w3.heap.size, 0, none⟩) sz sz] 93)) from ⟨Kept2.refl _ _ _, fun _ => false, fun _ => 0, by rw [HSZ.out]; exact World.rowIs.alloc HRK.out _, by rw [HSZ.out]; exact World.rowIs.alloc HRV.out _, fun _ _ _ _ h => by cases h⟩)
    have HX6 := hid (x2.trans y6)
    clear hbm
    go_wp2_with fail
    refine (sGet_any HEC.out (p.rank node + 1) node i j _ (Nat.lt_succ_self _) hn hi hj HEI.out).mono ?_
    rintro e w7 ⟨rfl, hI7, hk7⟩
    have X7 := Kept2.ext HX6.out hk7 hkb hvb
    have hk8 := hk7.size
    simp only [World.size_alloc] at hk8
    go_wp2_with fail
    have y7 : ∀ b, b < w2.heap.size → w7.heap[b]? = w2.heap[b]? := fun b hb => (hk7.block b (by simp; omega) (by omega) (by omega)).trans (y6.block (by omega))
    refine hK _ _ (.inr (fun b _ hb => y7 b (by omega))) ?_
    clear hK K
    refine wpZ_stage (fuel := 0) [] [13] (by kernel_rfl) (fun b _ hb => y7 b (by omega)) ?_
    refine wpQuiet_nil ?_
    intro e he
    simp only [List.mem_cons, List.not_mem_nil, or_false] at he
    subst he
    (unfold wpComes; simp only [List.getElem?_toArray, List.getElem?_cons_succ, List.getElem?_cons_zero, Option.some.injEq]; refine ⟨_, rfl, fun K hK => ?_⟩)
    go_wp2_with fail
    refine hK _ _ (.inl (by trivial)) ?_
    clear hK K
    refine wpZ_end (by kernel_rfl) ?_
    go_wp2
    go_ret
    exact ⟨by first | rfl | simp [List.getD_eq_getElem?_getD], X7⟩
  · skip
    (unfold wpComes; simp only [List.getElem?_toArray, List.getElem?_cons_succ, List.getElem?_cons_zero, Option.some.injEq]; refine ⟨_, rfl, fun K hK => ?_⟩)
    go_wp2_with (at_make; refine wpList_make_full _ rfl _ _ 27 rfl w2.heap.size 3 i0 (.int .i64 0) 1 Tryz.underlying27 hi0 hz0 hz1 _ _ _ _ sz rfl rfl rfl rfl (by rw [hz2]; omega) (by unfold maxLen; omega) (Nat.le_refl _) ?_)
    intro w3 hownv hgrowv
    have HRV := hid (ownsRow_row1 hownv)
    clear hownv
    have y3 : Ext w2 w3 := Ext.grown (by repeat (with_reducible (first | assumption | exact Ext.refl _ | apply Ext.alloc | apply Ext.drew | apply Ext.drewN))) hgrowv (fun k h => by cases h)
    go_wp2_with fail
    refine hK _ _ (.inr (fun b _ hb => y3.block (by omega))) ?_
    clear hK K
    refine wpZ_stage (fuel := 4) [] [4] (by kernel_rfl) (fun b _ hb => y3.block (by omega)) ?_
    refine wpQuiet_nil ?_
    intro e he
    simp only [List.mem_cons, List.not_mem_nil, or_false] at he
    subst he
    (unfold wpComes; simp only [List.getElem?_toArray, List.getElem?_cons_succ, List.getElem?_cons_zero, Option.some.injEq]; refine ⟨_, rfl, fun K hK => ?_⟩)
    go_wp2_with (at_make; refine wpList_make_full _ rfl _ _ 91 rfl w3.heap.size 4 k0 (.bool false) 1 Tryz.underlying91 hk0 kz0 kz1 _ _ _ _ sz rfl rfl rfl rfl (by rw [kz2]; omega) (by unfold maxLen; omega) (Nat.le_refl _) ?_)
    intro w5 hownk hgrowk
    have HRK := hid (ownsRow_row1 hownk)
    clear hownk
    have hkl := World.rowIs.lt HRV.out
    have x35 : Ext w3 w5 := Ext.grown (Ext.refl _) hgrowk (fun k h => by cases h)
    have y5 : Ext w2 w5 := y3.trans x35
    go_wp2_with fail
    refine hK _ _ (.inr (fun b _ hb => y5.block (by omega))) ?_
    clear hK K
    replace HRV := hid (World.rowIs.of_block HRV.out (x35.block hkl))
    have hvl := World.rowIs.lt HRK.out
    have hs35 := x35.size
    clear hgrowk hgrowv y3 x35
    have hkb : w.heap.size ≤ w3.heap.size := by omega
    have hvb : w.heap.size ≤ w2.heap.size := by omega
    refine wpZ_stage (fuel := 2) [7] [8] (by kernel_rfl) (fun b _ hb => y5.block (by omega)) ?_
    try simp only [Act.put, List.setIfInBounds_toArray, List.set_cons_succ, List.set_cons_zero]
    simp only [List.filterMap_cons, List.filterMap_nil, List.getElem?_toArray, List.getElem?_cons_zero, List.getElem?_cons_succ]
    show wpQuiet _ _ _ _ [_] _
    repeat (go_big_quiet_step (fail))
    refine wpQuiet_nil ?_
    intro e he
    simp only [List.mem_cons, List.not_mem_nil, or_false] at he
    subst he
    (unfold wpComes; simp only [List.getElem?_toArray, List.getElem?_cons_succ, List.getElem?_cons_zero, Option.some.injEq]; refine ⟨_, rfl, fun K hK => ?_⟩)
    go_wp2_with fail
    have y6 : Ext w2 (w5.alloc (.cells #[.slice (some ⟨w3.heap.size, 0, none⟩) sz sz, .slice (some ⟨w2.heap.size, 0, none⟩) sz sz] 93)) := y5.alloc _
    have hbm := Bx.made w5 #[.slice (some ⟨w3.heap.size, 0, none⟩) sz sz, .slice (some ⟨w2.heap.size, 0, none⟩) sz sz] 93
    refine hK _ _ (.inr (fun b _ hb => y6.block (by omega))) ?_
    clear hK K
    refine wpZ_stage (fuel := 1) [] [12] (by kernel_rfl) (fun b _ hb => y6.block (by omega)) ?_
    refine wpQuiet_nil ?_
    intro e he
    simp only [List.mem_cons, List.not_mem_nil, or_false] at he
    subst he
    (unfold wpComes; simp only [List.getElem?_toArray, List.getElem?_cons_succ, List.getElem?_cons_zero, Option.some.injEq]; refine ⟨_, rfl, fun K hK => ?_⟩)
    have HEC := hid (HMK.out (w5.alloc (.cells #[.slice (some ⟨w3.heap.size, 0, none⟩) sz sz, .slice (some ⟨w2.heap.size, 0, none⟩) sz sz] 93)) w5.heap.size (w3.heap.size) (w2.heap.size) (x2.trans y6) hbm hkb hvb (by simp; omega) (by simp; omega) (by omega) (by omega) (by omega))
    have HEI := hid (show EsI p (p.ev n g.m g.f g.tm g.t) g.m w3.heap.size w2.heap.size (w5.alloc (.cells #[.slice (some ⟨w3.heap.size, 0, none⟩) sz sz, .slice (some ⟨w2.heap.size, 0, none⟩) sz sz] 93)) (w5.alloc (.cells #[.slice (some ⟨w3.heap.size, 0, none⟩) sz sz, .slice (some ⟨w2.heap.size, 0, none⟩) sz sz] 93)) from ⟨Kept2.refl _ _ _, fun _ => false, fun _ => 0, by rw [HSZ.out]; exact World.rowIs.alloc HRK.out _, by rw [HSZ.out]; exact World.rowIs.alloc HRV.out _, fun _ _ _ _ h => by cases h⟩)
    have HX6 := hid (x2.trans y6)
    clear hbm
    go_wp2_with fail
    refine (sGet_any HEC.out (p.rank node + 1) node i j _ (Nat.lt_succ_self _) hn hi hj HEI.out).mono ?_
    rintro e w7 ⟨rfl, hI7, hk7⟩
    have X7 := Kept2.ext HX6.out hk7 hkb hvb
    have hk8 := hk7.size
    simp only [World.size_alloc] at hk8
    go_wp2_with fail
    have y7 : ∀ b, b < w2.heap.size → w7.heap[b]? = w2.heap[b]? := fun b hb => (hk7.block b (by simp; omega) (by omega) (by omega)).trans (y6.block (by omega))
    refine hK _ _ (.inr (fun b _ hb => y7 b (by omega))) ?_
    clear hK K
    refine wpZ_stage (fuel := 0) [] [13] (by kernel_rfl) (fun b _ hb => y7 b (by omega)) ?_
    refine wpQuiet_nil ?_
    intro e he
    simp only [List.mem_cons, List.not_mem_nil, or_false] at he
    subst he
    (unfold wpComes; simp only [List.getElem?_toArray, List.getElem?_cons_succ, List.getElem?_cons_zero, Option.some.injEq]; refine ⟨_, rfl, fun K hK => ?_⟩)
    go_wp2_with fail
    refine hK _ _ (.inl (by trivial)) ?_
    clear hK K
    refine wpZ_end (by kernel_rfl) ?_
    go_wp2
    go_ret
    exact ⟨by first | rfl | simp [List.getD_eq_getElem?_getD], X7⟩
end Go.Proofs.YtjfcngbepjdfnaaGreat
end

section
/- This text proves the reference's EvalNode and ShadePoint. -/
namespace Go.Proofs.YtjfcngbepjdfnaaGreat
open Go.RowKit

theorem sOk_val {p : Prg} {g : Grd} {i j : Int} {b : Bool} (h : evOk p g i j = b) (lo hi lo' hi' : Nat) (v u : Value) (w : World) (hv : p.R lo hi w v) (hh : hi ≤ w.heap.size) (hu : g.R lo' hi' w u) (hh' : hi' ≤ w.heap.size) (hb : p.bd) (hnl : p.ns.length ≤ 1048576) (hgl : p.gs.length ≤ 1048576) :
    Calls Tryz.prog 19 #[v, u, .int .i64 i, .int .i64 j] w fun e w' => e = .returned (.bool b) ∧ Ext w w' := h ▸ sOk_any lo hi lo' hi' v u p g i j w hv hh hu hh' hb hnl hgl
set_option maxRecDepth 20000 in
set_option maxHeartbeats 12800000 in
theorem sEvalNode_any (lo hi lo' hi' : Nat) (v u : Value) (p : Prg) (g : Grd) (node i j : Int) (w : World) (hv : p.R lo hi w v) (hh : hi ≤ w.heap.size) (hu : g.R lo' hi' w u) (hh' : hi' ≤ w.heap.size) (hb : p.bd) (hnl : p.ns.length ≤ 1048576) (hgl : p.gs.length ≤ 1048576) :
    Calls Tryz.prog 7 #[v, u, .int .i64 node, .int .i64 i, .int .i64 j] w fun e w' => e = .returned (.int .i64 (evN p g node i j)) ∧ Ext w w' := by
  have HV := hid hv
  have HU := hid hu
  obtain ⟨a1, c1, a2, c2, rfl, HN, HAS⟩ := hv.form
  have l1 := HN.le
  have l2 := HN.cap
  obtain ⟨pu, tu, rfl, n64, t64, l64, hp, ht⟩ := hu
  have HB := hid hb
  have HPT := hid hp
  have HTX := hid (show TexR lo' hi' w (.agg #[.int .i64 g.t.log, tu]) g.t from ⟨tu, rfl, l64, ht⟩)
  have HNN := hid HN
  have HAA := hid HAS
  clear hv hp ht t64 l64 HN HAS hb
  have x0 : Ext w ((w.alloc (.cells #[.slice a1 p.ns.length c1, .slice a2 p.gs.length c2] 38)).alloc (.cells #[.int .i64 g.n, pu, .int .i64 g.tm, .int .i64 g.t.log, tu] 43)) := (by repeat (with_reducible (first | assumption | exact Ext.refl _ | apply Ext.alloc | apply Ext.drew | apply Ext.drewN)))
  cases hok : evOk p g i j
  · have HOK := hid hok
    have HE : Hid (evN p g node i j = 0) := hid (by unfold evN; rw [hok]; rfl)
    clear hok n64
    go_enter Tryz.func7, Tryz.ntmps7
    go_wp2_with fail
    refine (sOk_val HOK.out lo hi lo' hi' _ _ _ (HV.out.ext hh x0) (Nat.le_trans hh x0.size) (HU.out.ext2 hh' x0) (Nat.le_trans hh' x0.size) HB.out hnl hgl).mono ?_
    rintro e w1 ⟨rfl, x1⟩
    have X1 := x0.trans x1
    go_wp2
    go_ret
    exact ⟨by rw [HE.out]; rfl, X1⟩
  obtain ⟨n, i', j', hn, rfl, rfl, hi2, hj2, hn8, hnm⟩ := evOk_parts hok
  have hgok : g.okB = true := by unfold evOk at hok; simp only [Bool.and_eq_true] at hok; exact hok.1.1.2
  have hchk : p.chkB = true := by unfold evOk at hok; simp only [Bool.and_eq_true] at hok; exact hok.1.1.1
  have HGOK := hid hgok
  have HK := hid (Prg.chkB_K hchk)
  have bP := (Bx.made w #[.slice a1 p.ns.length c1, .slice a2 p.gs.length c2] 38).ext (show Ext _ ((w.alloc (.cells #[.slice a1 p.ns.length c1, .slice a2 p.gs.length c2] 38)).alloc (.cells #[.int .i64 g.n, pu, .int .i64 g.tm, .int .i64 g.t.log, tu] 43)) from (by repeat (with_reducible (first | assumption | exact Ext.refl _ | apply Ext.alloc | apply Ext.drew | apply Ext.drewN))))
  have bG := Bx.madeAt (B := w.heap.size + 1) (w.alloc (.cells #[.slice a1 p.ns.length c1, .slice a2 p.gs.length c2] 38)) #[.int .i64 g.n, pu, .int .i64 g.tm, .int .i64 g.t.log, tu] 43 (by simp)
  have hEV : evV p g = p.ev n g.m g.f g.tm g.t := by unfold evV; rw [hn]; rfl
  have hqi : ((j' : Int) * n + i').toNat = j' * n + i' := by
    have : (j' : Int) * n + i' = ((j' * n + i' : Nat) : Int) := by simp
    rw [this]; exact Int.toNat_natCast _
  have HEN : Hid (∀ nd : Nat, evN p g nd i' j' = if inB (nd : Int) 0 ((p.ns.length : Int) - 1) = true then (p.ev n g.m g.f g.tm g.t nd).getD (j' * n + i') 0 else 0) := hid (fun nd => by
    unfold evN
    rw [hok, Bool.true_and, hEV, hn, hqi]
    simp)
  have HEN0 : Hid (∀ nd : Int, inB nd 0 ((p.ns.length : Int) - 1) = false → evN p g nd i' j' = 0) := hid (fun nd h => by
    unfold evN
    rw [h, Bool.and_false]
    rfl)
  have HOK := hid hok
  have HGN := hid hn
  rw [hn] at bG bP HU x0 ⊢
  clear hok hn n64 hEV hqi hgok hchk hnm
  obtain ⟨bn, hbn⟩ : ∃ b, inB node 0 ((p.ns.length : Int) - 1) = b := ⟨_, rfl⟩
  have HBN := hid hbn
  clear hbn
  go_enter Tryz.func7, Tryz.ntmps7
  go_wp2_with fail
  refine (sOk_val HOK.out lo hi lo' hi' _ _ _ (HV.out.ext hh x0) (Nat.le_trans hh x0.size) (HU.out.ext2 hh' x0) (Nat.le_trans hh' x0.size) HB.out hnl hgl).mono ?_
  rintro e w1 ⟨rfl, x1⟩
  have X1 := x0.trans x1
  have bP1 := bP.ext x1
  have bG1 := bG.ext x1
  have b := bP1.lt
  have b0 := bP1.cell 0
  simp only [List.getElem?_toArray, List.getElem?_cons_zero, List.getElem?_cons_succ] at b0
  have b1 := bP1.cell 1
  simp only [List.getElem?_toArray, List.getElem?_cons_zero, List.getElem?_cons_succ] at b1
  have d := bG1.lt
  have d0 := bG1.cell 0
  simp only [List.getElem?_toArray, List.getElem?_cons_zero, List.getElem?_cons_succ] at d0
  have d1 := bG1.cell 1
  simp only [List.getElem?_toArray, List.getElem?_cons_zero, List.getElem?_cons_succ] at d1
  have d2 := bG1.cell 2
  simp only [List.getElem?_toArray, List.getElem?_cons_zero, List.getElem?_cons_succ] at d2
  have d3 := bG1.cell 3
  simp only [List.getElem?_toArray, List.getElem?_cons_zero, List.getElem?_cons_succ] at d3
  have d4 := bG1.cell 4
  simp only [List.getElem?_toArray, List.getElem?_cons_zero, List.getElem?_cons_succ] at d4
  clear x0 x1 bP bG bP1 bG1
  go_wp2_with fail
  refine (l01In_val HBN.out _).mono ?_
  rintro e w2 ⟨rfl, rfl⟩
  cases bn
  · go_wp2
    go_ret
    exact ⟨by rw [HEN0.out _ HBN.out]; rfl, X1⟩
  have hnd := inB_iff.1 HBN.out
  obtain ⟨nd, rfl⟩ : ∃ nd : Nat, node = nd := ⟨node.toNat, by omega⟩
  have hndl : nd < p.ns.length := by omega
  clear hnd
  go_wp2_with fail
  refine wp_region_stages [([0, 1, 2, 4, 5, 6], 3), ([], 7), ([], 8)] 99 w1.heap.size (by kernel_rfl) (by kernel_rfl) ?_
  refine wpStages_cons ?_
  simp only [List.filterMap_cons, List.filterMap_nil, List.getElem?_toArray, List.getElem?_cons_zero, List.getElem?_cons_succ]
  show wpQuiet _ _ _ _ [_, _, _, _, _, _] _
  repeat (go_big_quiet_step (fail))
  refine wpQuiet_nil ⟨_, rfl, fun K hK => ?_⟩
  go_wp2_with fail
  refine (sOwners_any lo hi _ p w1.drew ((HV.out.ext hh X1).ext (Nat.le_trans hh X1.size) (by repeat (with_reducible (first | assumption | exact Ext.refl _ | apply Ext.alloc | apply Ext.drew | apply Ext.drewN)))) (Nat.le_trans hh X1.size) HK.out.v hgl).mono ?_
  rintro e w3 ⟨⟨oa, oc, rfl, hO⟩, x3⟩
  have X3 : Ext w1 w3 := Ext.trans (by repeat (with_reducible (first | assumption | exact Ext.refl _ | apply Ext.alloc | apply Ext.drew | apply Ext.drewN))) x3
  have HO3 := hid hO.ints
  clear hO
  go_wp2_with fail
  refine hK _ _ (.inr (fun k _ hk => X3.block (by first | omega | (simp; omega)))) ?_
  clear hK K
  refine wpStages_cons ?_
  simp only [List.filterMap_nil]
  show wpQuiet _ _ _ _ [] _
  try simp only [Act.put, List.setIfInBounds_toArray, List.set_cons_succ, List.set_cons_zero]
  repeat (go_big_quiet_step (fail))
  refine wpQuiet_nil ⟨_, rfl, fun K hK => ?_⟩
  go_wp2_with fail
  have X4 := X1.trans X3
  obtain ⟨oa', oc', e9, HOI⟩ := HO3.out.open
  rw [Prg.ownL_len] at e9
  simp only [Value.slice.injEq, true_and] at e9
  obtain ⟨rfl, rfl⟩ := e9
  refine (sEval_any 0 w.heap.size 0 w.heap.size _ w3.heap.size a1 a2 oa c1 c2 oc pu tu p g n nd i' j' w3 (Nds.at0 HNN.out hh (Nat.le_refl _) X4) (Asgs.at0 HAA.out hh (Nat.le_refl _) X4) X4.size ((HPT.out.wide (Nat.zero_le _) hh').ext (Nat.le_refl _) X4) ((HTX.out.wide (Nat.zero_le _) hh').ext (Nat.le_refl _) X4) X4.size HOI (Nat.le_refl _) HB.out HK.out hgl HGOK.out HGN.out hndl hi2 hj2).mono ?_
  rintro e w5 ⟨rfl, x5⟩
  have X5 := X3.trans x5
  have hR := HEN.out nd
  rw [if_pos HBN.out] at hR
  rw [← hR]
  have HX5 := hid (X1.trans X5)
  clear hR
  go_wp2_with fail
  refine hK _ _ (.inr (fun k _ hk => X5.block (by first | omega | (simp; omega)))) ?_
  clear hK K
  refine wpStages_cons ?_
  simp only [List.filterMap_nil]
  show wpQuiet _ _ _ _ [] _
  try simp only [Act.put, List.setIfInBounds_toArray, List.set_cons_succ, List.set_cons_zero]
  repeat (go_big_quiet_step (fail))
  refine wpQuiet_nil ⟨_, rfl, fun K hK => ?_⟩
  go_wp2_with fail
  go_wp2_with fail
  refine hK _ _ (.inr (fun k _ hk => X5.block (by first | omega | (simp; omega)))) ?_
  clear hK K
  refine wpStages_nil ?_
  go_wp2
  go_ret
  exact ⟨by first | rfl | simp, HX5.out⟩
set_option maxRecDepth 20000 in
set_option maxHeartbeats 12800000 in
/-- the value of a name that is known; 256 of one that is not -/
theorem sResult_any (lo hi lo' hi' : Nat) (a1 a2 : Option Addr) (c1 c2 : Nat) (pu tu : Value) (p : Prg) (g : Grd) (n i j : Nat) (s : ByteArray) (l : List UInt8) (z : Int) (w : World) (hv : p.R lo hi w (.agg #[.slice a1 p.ns.length c1, .slice a2 p.gs.length c2])) (hh : hi ≤ w.heap.size) (hu : g.R lo' hi' w (.agg #[.int .i64 n, pu, .int .i64 g.tm, .int .i64 g.t.log, tu])) (hh' : hi' ≤ w.heap.size) (hb : p.bd) (hgl : p.gs.length ≤ 1048576)
    (hK : p.K) (hg : g.okB = true) (hgn : g.n = n) (hi2 : i < n) (hj2 : j < n) (hs : s.toList = l) (hz : clampI (named p g (j * n + i) l) 0 256 = z) :
    Calls Tryz.prog 34 #[.agg #[.slice a1 p.ns.length c1, .slice a2 p.gs.length c2], .agg #[.int .i64 n, pu, .int .i64 g.tm, .int .i64 g.t.log, tu], .string s, .int .i64 i, .int .i64 j] w fun e w' => e = .returned (.int .i64 z) ∧ Ext w w' := by
  have HV := hid hv
  obtain ⟨a1', c1', a2', c2', e1, HN, HG⟩ := hv.form
  simp only [Value.agg.injEq, Array.mk.injEq, List.cons.injEq, Value.slice.injEq, true_and, and_true] at e1
  obtain ⟨⟨rfl, rfl⟩, rfl, rfl⟩ := e1
  obtain ⟨pu', tu', e2, n64, t64, l64, hp, ht⟩ := hu
  simp only [Value.agg.injEq, Array.mk.injEq, List.cons.injEq, true_and, and_true] at e2
  obtain ⟨-, rfl, rfl⟩ := e2
  have l3 := HG.le
  have l4 := HG.cap
  have HPT := hid hp
  have HTX := hid (show TexR lo' hi' w (.agg #[.int .i64 g.t.log, tu]) g.t from ⟨tu, rfl, l64, ht⟩)
  have HNN := hid HN
  have HAA := hid HG
  have HB := hid hb
  have HKK := hid hK
  have HGOK := hid hg
  have HGN := hid hgn
  have hEV : evV p g = p.ev n g.m g.f g.tm g.t := by unfold evV; rw [hgn]; rfl
  have HEV := hid hEV
  have x0 : Ext w ((w.alloc (.cells #[.slice a1 p.ns.length c1, .slice a2 p.gs.length c2] 38)).alloc (.cells #[.int .i64 n, pu, .int .i64 g.tm, .int .i64 g.t.log, tu] 43)) := (by repeat (with_reducible (first | assumption | exact Ext.refl _ | apply Ext.alloc | apply Ext.drew | apply Ext.drewN)))
  have HZ := hid hz
  have HS := hid hs
  clear hv hp ht t64 l64 n64 HN hb hK hg hgn hEV hz hs
  cases hf : frst p.gs p.gs.length l with
  | none =>
    have hlt : lastTo p.gs (p.gs.length : Nat) s.toList p.gs.length < 0 := by
      have := lastTo_asg p.gs p.gs.length s.toList
      rw [HS.out, frst_no hf, decide_eq_false_iff_not] at this
      rw [HS.out]
      omega
    obtain ⟨lz, hlz⟩ : ∃ lz, lastTo p.gs (p.gs.length : Nat) s.toList p.gs.length = lz := ⟨_, rfl⟩
    rw [hlz] at hlt
    have HLZ := hid hlz
    have HZ2 : Hid (z = 256) := hid (by rw [← HZ.out, named_none hf]; rfl)
    clear hlz hf
    go_enter Tryz.func34, Tryz.ntmps34
    go_wp2_with fail
    refine (sAssigned_val HLZ.out lo hi _ p _ rfl (HV.out.ext hh x0) (Nat.le_trans hh x0.size) hgl).mono ?_
    rintro e w1 ⟨rfl, x1⟩
    go_wp2
    go_ret
    exact ⟨by rw [HZ2.out]; rfl, x0.trans x1⟩
  | some k =>
    obtain ⟨sk, r, hgk, hr, hkl, hskl⟩ := HKK.out.asg hf
    have hlast := HKK.out.last (t := p.gs.length) hf hkl
    have HLZ : Hid (lastTo p.gs (p.gs.length : Nat) s.toList p.gs.length = (k : Int)) := hid (by rw [HS.out]; exact hlast)
    have HNV : Hid (clampI ((p.ev n g.m g.f g.tm g.t r).getD (j * n + i) 0) 0 256 = z) := hid (by rw [← HZ.out, named_some hf hgk, HEV.out])
    obtain ⟨_, b4, off4, ea4, _, hb4, z0, z1⟩ := HAA.out.cell k _ hgk
    simp only at z0 z1
    subst ea4
    have bP := (Bx.made w #[.slice a1 p.ns.length c1, .slice (some ⟨b4, off4, none⟩) p.gs.length c2] 38).ext (show Ext _ ((w.alloc (.cells #[.slice a1 p.ns.length c1, .slice (some ⟨b4, off4, none⟩) p.gs.length c2] 38)).alloc (.cells #[.int .i64 n, pu, .int .i64 g.tm, .int .i64 g.t.log, tu] 43)) from (by repeat (with_reducible (first | assumption | exact Ext.refl _ | apply Ext.alloc | apply Ext.drew | apply Ext.drewN))))
    have bG := Bx.madeAt (B := w.heap.size + 1) (w.alloc (.cells #[.slice a1 p.ns.length c1, .slice (some ⟨b4, off4, none⟩) p.gs.length c2] 38)) #[.int .i64 n, pu, .int .i64 g.tm, .int .i64 g.t.log, tu] 43 (by simp)
    clear hf hgk hlast
    go_enter Tryz.func34, Tryz.ntmps34
    go_wp2_with fail
    refine (sAssigned_val HLZ.out lo hi _ p _ rfl (HV.out.ext hh x0) (Nat.le_trans hh x0.size) hgl).mono ?_
    rintro e w1 ⟨rfl, x1⟩
    have X1 := x0.trans x1
    have bP1 := bP.ext x1
    have bG1 := bG.ext x1
    have b := bP1.lt
    have b0 := bP1.cell 0
    simp only [List.getElem?_toArray, List.getElem?_cons_zero, List.getElem?_cons_succ] at b0
    have b1 := bP1.cell 1
    simp only [List.getElem?_toArray, List.getElem?_cons_zero, List.getElem?_cons_succ] at b1
    have d := bG1.lt
    have d0 := bG1.cell 0
    simp only [List.getElem?_toArray, List.getElem?_cons_zero, List.getElem?_cons_succ] at d0
    have d1 := bG1.cell 1
    simp only [List.getElem?_toArray, List.getElem?_cons_zero, List.getElem?_cons_succ] at d1
    have d2 := bG1.cell 2
    simp only [List.getElem?_toArray, List.getElem?_cons_zero, List.getElem?_cons_succ] at d2
    have d3 := bG1.cell 3
    simp only [List.getElem?_toArray, List.getElem?_cons_zero, List.getElem?_cons_succ] at d3
    have d4 := bG1.cell 4
    simp only [List.getElem?_toArray, List.getElem?_cons_zero, List.getElem?_cons_succ] at d4
    have z1' := (X1.cells.1 b4 _ (by omega)).trans z1
    have hb4w : b4 < w1.heap.size := by have := X1.size; omega
    clear x0 x1 bP bG bP1 bG1 z0 z1
    go_wp2_with fail
    refine wp_region_stages [([0, 1, 2, 4, 5, 6, 7, 8, 9, 10, 11], 3), ([], 12), ([], 13), ([], 14)] 99 w1.heap.size (by kernel_rfl) (by kernel_rfl) ?_
    refine wpStages_cons ?_
    simp only [List.filterMap_cons, List.filterMap_nil, List.getElem?_toArray, List.getElem?_cons_zero, List.getElem?_cons_succ]
    show wpQuiet _ _ _ _ [_, _, _, _, _, _, _, _, _, _, _] _
    repeat (go_big_quiet_step (fail))
    refine wpQuiet_nil ⟨_, rfl, fun K hK => ?_⟩
    go_wp2_with fail
    refine (sOwners_any lo hi _ p w1.drew ((HV.out.ext hh X1).ext (Nat.le_trans hh X1.size) (by repeat (with_reducible (first | assumption | exact Ext.refl _ | apply Ext.alloc | apply Ext.drew | apply Ext.drewN)))) (Nat.le_trans hh X1.size) HKK.out.v hgl).mono ?_
    rintro e w3 ⟨⟨oa, oc, rfl, hO⟩, x3⟩
    have X3 : Ext w1 w3 := Ext.trans (by repeat (with_reducible (first | assumption | exact Ext.refl _ | apply Ext.alloc | apply Ext.drew | apply Ext.drewN))) x3
    have HO3 := hid hO.ints
    clear hO
    go_wp2_with fail
    refine hK _ _ (.inr (fun k _ hk => X3.block (by first | omega | (simp; omega)))) ?_
    clear hK K
    refine wpStages_cons ?_
    simp only [List.filterMap_nil]
    show wpQuiet _ _ _ _ [] _
    try simp only [Act.put, List.setIfInBounds_toArray, List.set_cons_succ, List.set_cons_zero]
    repeat (go_big_quiet_step (fail))
    refine wpQuiet_nil ⟨_, rfl, fun K hK => ?_⟩
    go_wp2_with fail
    have X4 := X1.trans X3
    obtain ⟨oa', oc', e9, HOI⟩ := HO3.out.open
    rw [Prg.ownL_len] at e9
    simp only [Value.slice.injEq, true_and] at e9
    obtain ⟨rfl, rfl⟩ := e9
    refine (sEval_any 0 w.heap.size 0 w.heap.size _ w3.heap.size a1 (some ⟨b4, off4, none⟩) oa c1 c2 oc pu tu p g n r i j w3 (Nds.at0 HNN.out hh (Nat.le_refl _) X4) (Asgs.at0 HAA.out hh (Nat.le_refl _) X4) X4.size ((HPT.out.wide (Nat.zero_le _) hh').ext (Nat.le_refl _) X4) ((HTX.out.wide (Nat.zero_le _) hh').ext (Nat.le_refl _) X4) X4.size HOI (Nat.le_refl _) HB.out HKK.out hgl HGOK.out HGN.out hr hi2 hj2).mono ?_
    rintro e w5 ⟨rfl, x5⟩
    have X5 := X3.trans x5
    have HX5 := hid (X1.trans X5)
    go_wp2_with fail
    refine hK _ _ (.inr (fun k _ hk => X5.block (by first | omega | (simp; omega)))) ?_
    clear hK K
    refine wpStages_cons ?_
    simp only [List.filterMap_nil]
    show wpQuiet _ _ _ _ [] _
    try simp only [Act.put, List.setIfInBounds_toArray, List.set_cons_succ, List.set_cons_zero]
    repeat (go_big_quiet_step (fail))
    refine wpQuiet_nil ⟨_, rfl, fun K hK => ?_⟩
    go_wp2_with fail
    refine (sClamp_val HNV.out _).mono ?_
    rintro e w6 ⟨rfl, rfl⟩
    go_wp2_with fail
    refine hK _ _ (.inr (fun k _ hk => X5.block (by first | omega | (simp; omega)))) ?_
    clear hK K
    refine wpStages_cons ?_
    simp only [List.filterMap_nil]
    show wpQuiet _ _ _ _ [] _
    try simp only [Act.put, List.setIfInBounds_toArray, List.set_cons_succ, List.set_cons_zero]
    repeat (go_big_quiet_step (fail))
    refine wpQuiet_nil ⟨_, rfl, fun K hK => ?_⟩
    go_wp2_with fail
    go_wp2_with fail
    refine hK _ _ (.inr (fun k _ hk => X5.block (by first | omega | (simp; omega)))) ?_
    clear hK K
    refine wpStages_nil ?_
    go_wp2
    go_ret
    exact ⟨by first | rfl | simp, HX5.out⟩
set_option maxRecDepth 20000 in
set_option maxHeartbeats 12800000 in
theorem sShadePoint_any (lo hi lo' hi' : Nat) (v u : Value) (p : Prg) (g : Grd) (i j : Int) (w : World) (hv : p.R lo hi w v) (hh : hi ≤ w.heap.size) (hu : g.R lo' hi' w u) (hh' : hi' ≤ w.heap.size) (hb : p.bd) (hnl : p.ns.length ≤ 1048576) (hgl : p.gs.length ≤ 1048576) :
    Calls Tryz.prog 13 #[v, u, .int .i64 i, .int .i64 j] w fun e w' => e = .returned (.tuple #[.int .i64 (shC p g i j), .int .i64 (shA p g i j), .bool (evOk p g i j)]) ∧ Ext w w' := by
  have HV := hid hv
  have HU := hid hu
  obtain ⟨a1, c1, a2, c2, rfl, -, -⟩ := hv.form
  obtain ⟨pu, tu, rfl, n64, -, -, -, -⟩ := hu
  have HB := hid hb
  clear hv hb
  have x0 : Ext w ((w.alloc (.cells #[.slice a1 p.ns.length c1, .slice a2 p.gs.length c2] 38)).alloc (.cells #[.int .i64 g.n, pu, .int .i64 g.tm, .int .i64 g.t.log, tu] 43)) := (by repeat (with_reducible (first | assumption | exact Ext.refl _ | apply Ext.alloc | apply Ext.drew | apply Ext.drewN)))
  cases hok : evOk p g i j
  · have HOK := hid hok
    have HE : Hid (shC p g i j = 0 ∧ shA p g i j = 0) := hid (by unfold shC shA; rw [hok]; exact ⟨rfl, rfl⟩)
    clear hok n64
    go_enter Tryz.func13, Tryz.ntmps13
    go_wp2_with fail
    refine (sOk_val HOK.out lo hi lo' hi' _ _ _ (HV.out.ext hh x0) (Nat.le_trans hh x0.size) (HU.out.ext2 hh' x0) (Nat.le_trans hh' x0.size) HB.out hnl hgl).mono ?_
    rintro e w1 ⟨rfl, x1⟩
    have X1 := x0.trans x1
    go_wp2
    refine bodyPost_ret (v := .tuple #[.int .i64 0, .int .i64 0, .bool false]) (by simp [results, Tryz.results13, go_sem]) rfl ⟨by rw [HE.out.1, HE.out.2], X1⟩
  obtain ⟨n, i', j', hn, rfl, rfl, hi2, hj2, hn8, hnm⟩ := evOk_parts hok
  have hgok : g.okB = true := by unfold evOk at hok; simp only [Bool.and_eq_true] at hok; exact hok.1.1.2
  have hchk : p.chkB = true := by unfold evOk at hok; simp only [Bool.and_eq_true] at hok; exact hok.1.1.1
  have HGOK := hid hgok
  have HK := hid (Prg.chkB_K hchk)
  have bP := (Bx.made w #[.slice a1 p.ns.length c1, .slice a2 p.gs.length c2] 38).ext (show Ext _ ((w.alloc (.cells #[.slice a1 p.ns.length c1, .slice a2 p.gs.length c2] 38)).alloc (.cells #[.int .i64 g.n, pu, .int .i64 g.tm, .int .i64 g.t.log, tu] 43)) from (by repeat (with_reducible (first | assumption | exact Ext.refl _ | apply Ext.alloc | apply Ext.drew | apply Ext.drewN))))
  have bG := Bx.madeAt (B := w.heap.size + 1) (w.alloc (.cells #[.slice a1 p.ns.length c1, .slice a2 p.gs.length c2] 38)) #[.int .i64 g.n, pu, .int .i64 g.tm, .int .i64 g.t.log, tu] 43 (by simp)
  have hqi : ((j' : Int) * n + i').toNat = j' * n + i' := by
    have : (j' : Int) * n + i' = ((j' * n + i' : Nat) : Int) := by simp
    rw [this]; exact Int.toNat_natCast _
  have HC : Hid (clampI (named p g (j' * n + i') [99, 111, 108, 111, 114]) 0 256 = shC p g i' j') := hid (by unfold shC; rw [hok, if_pos rfl, hn, hqi])
  have HA : Hid (clampI (named p g (j' * n + i') [97, 108, 112, 104, 97]) 0 256 = shA p g i' j') := hid (by unfold shA; rw [hok, if_pos rfl, hn, hqi])
  have HOK := hid hok
  have HGN := hid hn
  rw [hn] at bG bP HU x0 ⊢
  clear hok hn n64 hqi hgok hchk hnm
  go_enter Tryz.func13, Tryz.ntmps13
  go_wp2_with fail
  refine (sOk_val HOK.out lo hi lo' hi' _ _ _ (HV.out.ext hh x0) (Nat.le_trans hh x0.size) (HU.out.ext2 hh' x0) (Nat.le_trans hh' x0.size) HB.out hnl hgl).mono ?_
  rintro e w1 ⟨rfl, x1⟩
  have X1 := x0.trans x1
  have bP1 := bP.ext x1
  have bG1 := bG.ext x1
  have b := bP1.lt
  have b0 := bP1.cell 0
  simp only [List.getElem?_toArray, List.getElem?_cons_zero, List.getElem?_cons_succ] at b0
  have b1 := bP1.cell 1
  simp only [List.getElem?_toArray, List.getElem?_cons_zero, List.getElem?_cons_succ] at b1
  have d := bG1.lt
  have d0 := bG1.cell 0
  simp only [List.getElem?_toArray, List.getElem?_cons_zero, List.getElem?_cons_succ] at d0
  have d1 := bG1.cell 1
  simp only [List.getElem?_toArray, List.getElem?_cons_zero, List.getElem?_cons_succ] at d1
  have d2 := bG1.cell 2
  simp only [List.getElem?_toArray, List.getElem?_cons_zero, List.getElem?_cons_succ] at d2
  have d3 := bG1.cell 3
  simp only [List.getElem?_toArray, List.getElem?_cons_zero, List.getElem?_cons_succ] at d3
  have d4 := bG1.cell 4
  simp only [List.getElem?_toArray, List.getElem?_cons_zero, List.getElem?_cons_succ] at d4
  clear x0 x1 bP bG bP1 bG1
  go_wp2_with fail
  refine wp_region_stages [([0, 1, 2, 3, 5, 6, 7, 8], 4), ([], 9), ([10, 11], 12)] 99 w1.heap.size (by kernel_rfl) (by kernel_rfl) ?_
  refine wpStages_cons ?_
  simp only [List.filterMap_cons, List.filterMap_nil, List.getElem?_toArray, List.getElem?_cons_zero, List.getElem?_cons_succ]
  show wpQuiet _ _ _ _ [_, _, _, _, _, _, _, _] _
  repeat (go_big_quiet_step (fail))
  refine wpQuiet_nil ⟨_, rfl, fun K hK => ?_⟩
  go_wp2_with fail
  refine (sResult_any lo hi lo' hi' a1 a2 c1 c2 pu tu p g n i' j' _ _ _ w1.drew ((HV.out.ext hh X1).ext (Nat.le_trans hh X1.size) (by repeat (with_reducible (first | assumption | exact Ext.refl _ | apply Ext.alloc | apply Ext.drew | apply Ext.drewN)))) (Nat.le_trans hh X1.size) ((HU.out.ext2 hh' X1).ext2 (Nat.le_trans hh' X1.size) (by repeat (with_reducible (first | assumption | exact Ext.refl _ | apply Ext.alloc | apply Ext.drew | apply Ext.drewN)))) (Nat.le_trans hh' X1.size) HB.out hgl HK.out HGOK.out HGN.out hi2 hj2 colS HC.out).mono ?_
  rintro e w3 ⟨rfl, x3⟩
  have X3 : Ext w1 w3 := Ext.trans (by repeat (with_reducible (first | assumption | exact Ext.refl _ | apply Ext.alloc | apply Ext.drew | apply Ext.drewN))) x3
  go_wp2_with fail
  refine hK _ _ (.inr (fun k _ hk => X3.block (by first | omega | (simp; omega)))) ?_
  clear hK K
  refine wpStages_cons ?_
  simp only [List.filterMap_nil]
  show wpQuiet _ _ _ _ [] _
  try simp only [Act.put, List.setIfInBounds_toArray, List.set_cons_succ, List.set_cons_zero]
  repeat (go_big_quiet_step (fail))
  refine wpQuiet_nil ⟨_, rfl, fun K hK => ?_⟩
  go_wp2_with fail
  have X4 := X1.trans X3
  refine (sResult_any lo hi lo' hi' a1 a2 c1 c2 pu tu p g n i' j' _ _ _ w3 (HV.out.ext hh X4) (Nat.le_trans hh X4.size) (HU.out.ext2 hh' X4) (Nat.le_trans hh' X4.size) HB.out hgl HK.out HGOK.out HGN.out hi2 hj2 alphaS HA.out).mono ?_
  rintro e w5 ⟨rfl, x5⟩
  have X5 := X3.trans x5
  have HX5 := hid (X1.trans X5)
  go_wp2_with fail
  refine hK _ _ (.inr (fun k _ hk => X5.block (by first | omega | (simp; omega)))) ?_
  clear hK K
  refine wpStages_cons ?_
  simp only [List.filterMap_cons, List.filterMap_nil, List.getElem?_toArray, List.getElem?_cons_zero, List.getElem?_cons_succ]
  show wpQuiet _ _ _ _ [_, _] _
  try simp only [Act.put, List.setIfInBounds_toArray, List.set_cons_succ, List.set_cons_zero]
  repeat (go_big_quiet_step (fail))
  refine wpQuiet_nil ⟨_, rfl, fun K hK => ?_⟩
  go_wp2_with fail
  go_wp2_with fail
  refine hK _ _ (.inr (fun k _ hk => X5.block (by first | omega | (simp; omega)))) ?_
  clear hK K
  refine wpStages_nil ?_
  go_wp2
  refine bodyPost_ret (v := .tuple #[.int .i64 (shC p g i' j'), .int .i64 (shA p g i' j'), .bool true]) (by simp [results, Tryz.results13, go_sem]) rfl ⟨rfl, HX5.out⟩
end Go.Proofs.YtjfcngbepjdfnaaGreat
end

section
/- This text gathers what the laws on EvalNode and ShadePoint need of programs and of both sides. -/
namespace Go.Proofs.YtjfcngbepjdfnaaGreat
open Go.RowKit

theorem szGrid_oneE (lo hi : Nat) (v : Value) (g : Grd) (left : Int) (w : World) (hv : g.R lo hi w v) (hh : hi ≤ w.heap.size) (h1 : 0 ≤ left) (h2 : left ≤ 1048576) :
    Calls Tryz.prog 6 #[v, .int .i64 left] w fun e w' => (∃ r, e = .returned (.int .i64 r) ∧ (r = -1 ∨ (0 ≤ r ∧ r ≤ left ∧ g.small))) ∧ Ext w w' := by
  refine (szGrid_val rfl lo hi v w hv hh h1 h2).mono ?_
  rintro e w' ⟨rfl, x⟩
  refine ⟨⟨_, rfl, ?_⟩, x⟩
  by_cases h : g.sz left < 0
  · left
    unfold Grd.sz szRes at *
    by_cases h3 : left - (g.m : Int) < 0
    · simp only [if_pos h3] at h ⊢
      simp
    · simp only [if_neg h3] at h ⊢
      by_cases h4 : left - (g.m : Int) - (g.t.px.length : Int) < 0
      · rw [if_pos h4]
      · rw [if_neg h4] at h
        exact absurd h h4
  · have := Grd.sz_small h1 h2 h
    exact .inr ⟨this.2.2, this.2.1, this.1⟩
/-- a copy of a program in the blocks from lo up to hi -/
def Prg.O (p : Prg) (lo hi : Nat) (w : World) (v : Value) : Prop := p.R lo hi w v
theorem Prg.O.R {p : Prg} {lo hi : Nat} {w : World} {v : Value} (h : p.O lo hi w v) : p.R lo hi w v := h
theorem Prg.O.kp {p : Prg} {lo hi : Nat} {w w' : World} {v : Value} (h : p.O lo hi w v) (k : Kp lo hi w w') : p.O lo hi w' v := Prg.R.kp h k
theorem Prg.O.form {p : Prg} {lo hi : Nat} {w : World} {v : Value} (h : p.O lo hi w v) : ∃ a1 c1 a2 c2, v = .agg #[.slice a1 p.ns.length c1, .slice a2 p.gs.length c2] := Prg.R.form2 h
theorem toProgramO_any (lo hi : Nat) (v : Value) (p : Prg) (w : World) (hv : p.R lo hi w v) (hh : hi ≤ w.heap.size) (hsz : p.small) :
    Calls Tryz.prog 8 #[v] w fun e w' => ∃ v', e = .returned v' ∧ p.O w.heap.size w'.heap.size w' v' ∧ Ext w w' := toProgram_any lo hi v p w hv hh hsz
theorem sEvalNode_val (lo hi lo' hi' : Nat) (v u : Value) (p : Prg) (g : Grd) (node i j : Int) {z : Int} (w : World) (hz : evN p g node i j = z) (hv : p.R lo hi w v) (hh : hi ≤ w.heap.size) (hu : g.R lo' hi' w u) (hh' : hi' ≤ w.heap.size) (hb : p.bd) (hnl : p.ns.length ≤ 1048576) (hgl : p.gs.length ≤ 1048576) :
    Calls Tryz.prog 7 #[v, u, .int .i64 node, .int .i64 i, .int .i64 j] w fun e w' => e = .returned (.int .i64 z) ∧ Ext w w' := hz ▸ sEvalNode_any lo hi lo' hi' v u p g node i j w hv hh hu hh' hb hnl hgl
theorem iEvalNode_val (lo hi lo' hi' : Nat) (v u : Value) (p : Prg) (g : Grd) (node i j : Int) {z : Int} (w : World) (hz : evN p g node i j = z) (hv : p.R lo hi w v) (hh : hi ≤ w.heap.size) (hu : g.R lo' hi' w u) (hh' : hi' ≤ w.heap.size) (hb : p.bd) (hgl : p.gs.length ≤ 1048576) :
    Calls Tryz.prog 10 #[v, u, .int .i64 node, .int .i64 i, .int .i64 j] w fun e w' => e = .returned (.int .i64 z) ∧ Ext w w' := hz ▸ iEvalNode_any lo hi lo' hi' v u p g node i j w hv hh hu hh' hb hgl
theorem sShadePoint_val (lo hi lo' hi' : Nat) (v u : Value) (p : Prg) (g : Grd) (i j : Int) {z y : Int} {b : Bool} (w : World) (hz : shC p g i j = z ∧ shA p g i j = y ∧ evOk p g i j = b) (hv : p.R lo hi w v) (hh : hi ≤ w.heap.size) (hu : g.R lo' hi' w u) (hh' : hi' ≤ w.heap.size) (hb : p.bd) (hnl : p.ns.length ≤ 1048576) (hgl : p.gs.length ≤ 1048576) :
    Calls Tryz.prog 13 #[v, u, .int .i64 i, .int .i64 j] w fun e w' => e = .returned (.tuple #[.int .i64 z, .int .i64 y, .bool b]) ∧ Ext w w' := by
  obtain ⟨rfl, rfl, rfl⟩ := hz
  exact sShadePoint_any lo hi lo' hi' v u p g i j w hv hh hu hh' hb hnl hgl
theorem iShadePoint_val (lo hi lo' hi' : Nat) (v u : Value) (p : Prg) (g : Grd) (i j : Int) {z y : Int} {b : Bool} (w : World) (hz : shC p g i j = z ∧ shA p g i j = y ∧ evOk p g i j = b) (hv : p.R lo hi w v) (hh : hi ≤ w.heap.size) (hu : g.R lo' hi' w u) (hh' : hi' ≤ w.heap.size) (hb : p.bd) (hgl : p.gs.length ≤ 1048576) :
    Calls Tryz.prog 14 #[v, u, .int .i64 i, .int .i64 j] w fun e w' => e = .returned (.tuple #[.int .i64 z, .int .i64 y, .bool b]) ∧ Ext w w' := by
  obtain ⟨rfl, rfl, rfl⟩ := hz
  exact iShadePoint_any lo hi lo' hi' v u p g i j w hv hh hu hh' hb hgl
end Go.Proofs.YtjfcngbepjdfnaaGreat
end

section
/- This text proves that the law on ShadePoint returns true, whatever its arguments (printed by gen_Law.py). -/
namespace Go.Proofs.YtjfcngbepjdfnaaGreat
open Go.RowKit

set_option maxRecDepth 20000 in
set_option maxHeartbeats 6400000 in
theorem lawShp (vp : Value) (p : Prg) (vg : Value) (g : Grd) (i : Int) (j : Int) (W : World) (hp : p.R 0 W.heap.size W vp) (hbp : p.bd) (hg : g.R 0 W.heap.size W vg) (hi : I64 i) (hj : I64 j) :
    Calls Tryz.prog 4 #[vp, vg, .int .i64 i, .int .i64 j] W fun e w' => e = .returned (.bool true) ∧ Ext W w' := by
  obtain ⟨z, y, b, hz⟩ : ∃ z y b, shC p g i j = z ∧ shA p g i j = y ∧ evOk p g i j = b := ⟨_, _, _, rfl, rfl, rfl⟩
  have HQ := hid hz
  have Hp := hid hp
  have HBp := hid hbp
  have Hg := hid hg
  obtain ⟨pu, pl, rfl, _⟩ := hp
  obtain ⟨gp, gt, rfl, _⟩ := hg
  clear hbp hz
  go_enter Tryz.func4, Tryz.ntmps4
  go_wp2_with fail
  refine (szProgram_any 0 W.heap.size _ p 1048576 _ (Hp.out.ext (Nat.le_refl _) (by repeat (with_reducible (first | assumption | exact Ext.refl _ | apply Ext.alloc | apply Ext.drew | apply Ext.drewN)))) (by simp <;> omega) HBp.out (by decide) (by decide)).mono ?_
  rintro e w1 ⟨⟨rp, rfl, hrp⟩, x1⟩
  have BPp := hid (((Bx.made W #[pu, pl] _).ext ((Ext.refl _).alloc _)).ext x1)
  have BPg := hid ((Bx.madeAt (B := W.heap.size + 1) (W.alloc _) #[.int .i64 g.n, gp, .int .i64 g.tm, .int .i64 g.t.log, gt] _ (by simp)).ext x1)
  have E : Ext W w1 := Ext.trans (by repeat (with_reducible (first | assumption | exact Ext.refl _ | apply Ext.alloc | apply Ext.drew | apply Ext.drewN))) x1
  clear x1
  have pp := BPp.out.lt
  have pp0 := BPp.out.cell 0
  simp only [List.getElem?_toArray, List.getElem?_cons_zero, List.getElem?_cons_succ] at pp0
  have pp1 := BPp.out.cell 1
  simp only [List.getElem?_toArray, List.getElem?_cons_zero, List.getElem?_cons_succ] at pp1
  have pg := BPg.out.lt
  have pg0 := BPg.out.cell 0
  simp only [List.getElem?_toArray, List.getElem?_cons_zero, List.getElem?_cons_succ] at pg0
  have pg1 := BPg.out.cell 1
  simp only [List.getElem?_toArray, List.getElem?_cons_zero, List.getElem?_cons_succ] at pg1
  have pg2 := BPg.out.cell 2
  simp only [List.getElem?_toArray, List.getElem?_cons_zero, List.getElem?_cons_succ] at pg2
  have pg3 := BPg.out.cell 3
  simp only [List.getElem?_toArray, List.getElem?_cons_zero, List.getElem?_cons_succ] at pg3
  have pg4 := BPg.out.cell 4
  simp only [List.getElem?_toArray, List.getElem?_cons_zero, List.getElem?_cons_succ] at pg4
  rcases hrp with rfl | ⟨rap, rbp, hsp⟩
  · go_wp2_with fail
    go_ret
    exact ⟨rfl, E⟩
  have HSp := hid hsp
  clear hsp
  go_wp2_with fail
  refine (szGrid_oneE 0 W.heap.size _ g rp _ (Hg.out.ext (Nat.le_refl _) E) E.size (by omega) (by omega)).mono ?_
  rintro e w2 ⟨⟨rg, rfl, hrg⟩, x2⟩
  have z2 := x2.size
  replace BPp := hid (BPp.out.kp (x2.kp BPp.out.lt))
  replace BPg := hid (BPg.out.kp (x2.kp BPg.out.lt))
  replace E := E.trans x2
  clear x2 pp pp0 pp1 pg pg0 pg1 pg2 pg3 pg4
  have pp := BPp.out.lt
  have pp0 := BPp.out.cell 0
  simp only [List.getElem?_toArray, List.getElem?_cons_zero, List.getElem?_cons_succ] at pp0
  have pp1 := BPp.out.cell 1
  simp only [List.getElem?_toArray, List.getElem?_cons_zero, List.getElem?_cons_succ] at pp1
  have pg := BPg.out.lt
  have pg0 := BPg.out.cell 0
  simp only [List.getElem?_toArray, List.getElem?_cons_zero, List.getElem?_cons_succ] at pg0
  have pg1 := BPg.out.cell 1
  simp only [List.getElem?_toArray, List.getElem?_cons_zero, List.getElem?_cons_succ] at pg1
  have pg2 := BPg.out.cell 2
  simp only [List.getElem?_toArray, List.getElem?_cons_zero, List.getElem?_cons_succ] at pg2
  have pg3 := BPg.out.cell 3
  simp only [List.getElem?_toArray, List.getElem?_cons_zero, List.getElem?_cons_succ] at pg3
  have pg4 := BPg.out.cell 4
  simp only [List.getElem?_toArray, List.getElem?_cons_zero, List.getElem?_cons_succ] at pg4
  rcases hrg with rfl | ⟨rag, rbg, hsg⟩
  · go_wp2_with fail
    go_ret
    exact ⟨rfl, E⟩
  have HSg := hid hsg
  clear hsg
  have pW := BPg.out.lt
  go_wp2_with fail
  have zE := E.size
  refine wp_region_stages [([0, 2, 4, 5], 1), ([], 3), ([], 6), ([7, 8, 9, 10, 11, 12], 13)] 99 w2.heap.size (by kernel_rfl) (by kernel_rfl) ?_
  refine wpStages_cons ?_
  simp only [List.filterMap_cons, List.filterMap_nil, List.getElem?_toArray, List.getElem?_cons_zero, List.getElem?_cons_succ]
  show wpQuiet _ _ _ _ [_, _, _, _] _
  repeat (go_big_quiet_step (fail))
  refine wpQuiet_nil ⟨_, rfl, fun K hK => ?_⟩
  go_wp2_with fail
  refine (toProgramO_any 0 W.heap.size _ p w2.drew (Hp.out.ext (Nat.le_refl _) E.drew) zE HSp.out).mono ?_
  rintro e w3 ⟨v3, rfl, O3, x3⟩
  have y3 : Ext w2 w3 := Ext.trans (by repeat (with_reducible (first | assumption | exact Ext.refl _ | apply Ext.alloc | apply Ext.drew | apply Ext.drewN))) x3
  have z3 := y3.size
  go_wp2_with fail
  refine hK _ _ (.inr (y3.same (Nat.le_refl _))) ?_
  clear hK K
  refine wpStages_cons ?_
  simp only [List.filterMap_nil]
  show wpQuiet _ _ _ _ [] _
  try simp only [Act.put, List.setIfInBounds_toArray, List.set_cons_succ, List.set_cons_zero]
  repeat (go_big_quiet_step (fail))
  refine wpQuiet_nil ⟨_, rfl, fun K hK => ?_⟩
  go_wp2_with fail
  refine (toGrid_any 0 W.heap.size _ g _ (Hg.out.ext (Nat.le_refl _) (E.trans y3)) (by omega) HSg.out).mono ?_
  rintro e w4 ⟨v4, rfl, O4, x4⟩
  have y4 : Ext w2 w4 := y3.trans x4
  have z4 := x4.size
  go_wp2_with fail
  refine hK _ _ (.inr (y4.same (Nat.le_refl _))) ?_
  clear hK K
  refine wpStages_cons ?_
  simp only [List.filterMap_nil]
  show wpQuiet _ _ _ _ [] _
  try simp only [Act.put, List.setIfInBounds_toArray, List.set_cons_succ, List.set_cons_zero]
  repeat (go_big_quiet_step (fail))
  refine wpQuiet_nil ⟨_, rfl, fun K hK => ?_⟩
  go_wp2_with fail
  refine (sShadePoint_val _ _ _ _ _ _ p g i j _ HQ.out (O3.kp (x4.kp (by first | exact Nat.le_refl _ | omega))).R (by omega) O4.R (Nat.le_refl _) HBp.out HSp.out.1.1 HSp.out.2).mono ?_
  rintro e w5 ⟨rfl, x5⟩
  have y5 : Ext w2 w5 := y4.trans x5
  have z5 := x5.size
  go_wp2_with fail
  refine hK _ _ (.inr (y5.same (Nat.le_refl _))) ?_
  clear hK K
  refine wpStages_cons ?_
  simp only [List.filterMap_cons, List.filterMap_nil, List.getElem?_toArray, List.getElem?_cons_zero, List.getElem?_cons_succ]
  show wpQuiet _ _ _ _ [_, _, _, _, _, _] _
  try simp only [Act.put, List.setIfInBounds_toArray, List.set_cons_succ, List.set_cons_zero]
  repeat (go_big_quiet_step (fail))
  refine wpQuiet_nil ⟨_, rfl, fun K hK => ?_⟩
  go_wp2_with fail
  refine hK _ _ (.inr (y5.same (Nat.le_refl _))) ?_
  clear hK K
  refine wpStages_nil ?_
  replace BPp := hid (BPp.out.kp (y5.kp BPp.out.lt))
  replace BPg := hid (BPg.out.kp (y5.kp BPg.out.lt))
  replace E := E.trans y5
  clear x3 y3 x4 y4 x5 y5 O3 O4 
  clear pp pp0 pp1 pg pg0 pg1 pg2 pg3 pg4
  have pp := BPp.out.lt
  have pp0 := BPp.out.cell 0
  simp only [List.getElem?_toArray, List.getElem?_cons_zero, List.getElem?_cons_succ] at pp0
  have pp1 := BPp.out.cell 1
  simp only [List.getElem?_toArray, List.getElem?_cons_zero, List.getElem?_cons_succ] at pp1
  have pg := BPg.out.lt
  have pg0 := BPg.out.cell 0
  simp only [List.getElem?_toArray, List.getElem?_cons_zero, List.getElem?_cons_succ] at pg0
  have pg1 := BPg.out.cell 1
  simp only [List.getElem?_toArray, List.getElem?_cons_zero, List.getElem?_cons_succ] at pg1
  have pg2 := BPg.out.cell 2
  simp only [List.getElem?_toArray, List.getElem?_cons_zero, List.getElem?_cons_succ] at pg2
  have pg3 := BPg.out.cell 3
  simp only [List.getElem?_toArray, List.getElem?_cons_zero, List.getElem?_cons_succ] at pg3
  have pg4 := BPg.out.cell 4
  simp only [List.getElem?_toArray, List.getElem?_cons_zero, List.getElem?_cons_succ] at pg4
  go_wp2_with fail
  have zE := E.size
  refine (toProgramO_any 0 W.heap.size _ p _ (Hp.out.ext (Nat.le_refl _) E) zE HSp.out).mono ?_
  rintro e w6 ⟨v6, rfl, O6, x6⟩
  have z6 := x6.size
  replace BPp := hid (BPp.out.kp (x6.kp BPp.out.lt))
  replace BPg := hid (BPg.out.kp (x6.kp BPg.out.lt))
  replace E := E.trans x6
  have OXp := hid O6
  obtain ⟨cpa, cpb, cpc, cpd, rfl⟩ := O6.form
  clear x6 O6 pp pp0 pp1 pg pg0 pg1 pg2 pg3 pg4
  have pp := BPp.out.lt
  have pp0 := BPp.out.cell 0
  simp only [List.getElem?_toArray, List.getElem?_cons_zero, List.getElem?_cons_succ] at pp0
  have pp1 := BPp.out.cell 1
  simp only [List.getElem?_toArray, List.getElem?_cons_zero, List.getElem?_cons_succ] at pp1
  have pg := BPg.out.lt
  have pg0 := BPg.out.cell 0
  simp only [List.getElem?_toArray, List.getElem?_cons_zero, List.getElem?_cons_succ] at pg0
  have pg1 := BPg.out.cell 1
  simp only [List.getElem?_toArray, List.getElem?_cons_zero, List.getElem?_cons_succ] at pg1
  have pg2 := BPg.out.cell 2
  simp only [List.getElem?_toArray, List.getElem?_cons_zero, List.getElem?_cons_succ] at pg2
  have pg3 := BPg.out.cell 3
  simp only [List.getElem?_toArray, List.getElem?_cons_zero, List.getElem?_cons_succ] at pg3
  have pg4 := BPg.out.cell 4
  simp only [List.getElem?_toArray, List.getElem?_cons_zero, List.getElem?_cons_succ] at pg4
  go_wp2_with fail
  refine (toGrid_any 0 W.heap.size _ g _ (Hg.out.ext (Nat.le_refl _) (by repeat (with_reducible (first | assumption | exact Ext.refl _ | apply Ext.alloc | apply Ext.drew | apply Ext.drewN)))) (by simp; omega) HSg.out).mono ?_
  rintro e w7 ⟨v7, rfl, O7, x7⟩
  have BXp := hid ((Bx.made w6 #[.slice cpa p.ns.length cpb, .slice cpc p.gs.length cpd] _).ext x7)
  have y7 : Ext w6 w7 := Ext.trans (by repeat (with_reducible (first | assumption | exact Ext.refl _ | apply Ext.alloc | apply Ext.drew | apply Ext.drewN))) x7
  have z7 := x7.size
  simp only [World.size_alloc] at z7 O7
  replace BPp := hid (BPp.out.kp (y7.kp BPp.out.lt))
  replace BPg := hid (BPg.out.kp (y7.kp BPg.out.lt))
  replace OXp := hid (OXp.out.kp (y7.kp (by first | omega | (simp; omega))))
  replace E := E.trans y7
  have OXg := hid O7
  obtain ⟨cgf, cgg, cgh, rfl⟩ := O7.form
  clear x7 y7 O7 pp pp0 pp1 pg pg0 pg1 pg2 pg3 pg4
  have pp := BPp.out.lt
  have pp0 := BPp.out.cell 0
  simp only [List.getElem?_toArray, List.getElem?_cons_zero, List.getElem?_cons_succ] at pp0
  have pp1 := BPp.out.cell 1
  simp only [List.getElem?_toArray, List.getElem?_cons_zero, List.getElem?_cons_succ] at pp1
  have pg := BPg.out.lt
  have pg0 := BPg.out.cell 0
  simp only [List.getElem?_toArray, List.getElem?_cons_zero, List.getElem?_cons_succ] at pg0
  have pg1 := BPg.out.cell 1
  simp only [List.getElem?_toArray, List.getElem?_cons_zero, List.getElem?_cons_succ] at pg1
  have pg2 := BPg.out.cell 2
  simp only [List.getElem?_toArray, List.getElem?_cons_zero, List.getElem?_cons_succ] at pg2
  have pg3 := BPg.out.cell 3
  simp only [List.getElem?_toArray, List.getElem?_cons_zero, List.getElem?_cons_succ] at pg3
  have pg4 := BPg.out.cell 4
  simp only [List.getElem?_toArray, List.getElem?_cons_zero, List.getElem?_cons_succ] at pg4
  have xp := BXp.out.lt
  have xp0 := BXp.out.cell 0
  simp only [List.getElem?_toArray, List.getElem?_cons_zero, List.getElem?_cons_succ] at xp0
  have xp1 := BXp.out.cell 1
  simp only [List.getElem?_toArray, List.getElem?_cons_zero, List.getElem?_cons_succ] at xp1
  go_wp2_with fail
  refine (iShadePoint_val _ _ _ _ _ _ p g i j _ HQ.out (OXp.out.kp (Ext.kp (by repeat (with_reducible (first | assumption | exact Ext.refl _ | apply Ext.alloc | apply Ext.drew | apply Ext.drewN))) (by omega))).R (by simp <;> omega) (OXg.out.kp (Ext.kp (by repeat (with_reducible (first | assumption | exact Ext.refl _ | apply Ext.alloc | apply Ext.drew | apply Ext.drewN))) (by omega))).R (by simp <;> omega) HBp.out HSp.out.2).mono ?_
  rintro e w8 ⟨rfl, x8⟩
  have BXg := hid ((Bx.made w7 #[.int .i64 g.n, .slice (some ⟨cgf, 0, none⟩) g.m g.m, .int .i64 g.tm, .int .i64 g.t.log, .slice cgg g.t.px.length cgh] _).ext x8)
  have y8 : Ext w7 w8 := Ext.trans (by repeat (with_reducible (first | assumption | exact Ext.refl _ | apply Ext.alloc | apply Ext.drew | apply Ext.drewN))) x8
  have z8 := x8.size
  simp only [World.size_alloc] at z8  
  replace BPp := hid (BPp.out.kp (y8.kp BPp.out.lt))
  replace BPg := hid (BPg.out.kp (y8.kp BPg.out.lt))
  replace BXp := hid (BXp.out.kp (y8.kp BXp.out.lt))
  replace OXp := hid (OXp.out.kp (y8.kp (by first | omega | (simp; omega))))
  replace OXg := hid (OXg.out.kp (y8.kp (by first | omega | (simp; omega))))
  replace E := E.trans y8
  clear x8 y8  pp pp0 pp1 pg pg0 pg1 pg2 pg3 pg4 xp xp0 xp1
  have pp := BPp.out.lt
  have pp0 := BPp.out.cell 0
  simp only [List.getElem?_toArray, List.getElem?_cons_zero, List.getElem?_cons_succ] at pp0
  have pp1 := BPp.out.cell 1
  simp only [List.getElem?_toArray, List.getElem?_cons_zero, List.getElem?_cons_succ] at pp1
  have pg := BPg.out.lt
  have pg0 := BPg.out.cell 0
  simp only [List.getElem?_toArray, List.getElem?_cons_zero, List.getElem?_cons_succ] at pg0
  have pg1 := BPg.out.cell 1
  simp only [List.getElem?_toArray, List.getElem?_cons_zero, List.getElem?_cons_succ] at pg1
  have pg2 := BPg.out.cell 2
  simp only [List.getElem?_toArray, List.getElem?_cons_zero, List.getElem?_cons_succ] at pg2
  have pg3 := BPg.out.cell 3
  simp only [List.getElem?_toArray, List.getElem?_cons_zero, List.getElem?_cons_succ] at pg3
  have pg4 := BPg.out.cell 4
  simp only [List.getElem?_toArray, List.getElem?_cons_zero, List.getElem?_cons_succ] at pg4
  have xp := BXp.out.lt
  have xp0 := BXp.out.cell 0
  simp only [List.getElem?_toArray, List.getElem?_cons_zero, List.getElem?_cons_succ] at xp0
  have xp1 := BXp.out.cell 1
  simp only [List.getElem?_toArray, List.getElem?_cons_zero, List.getElem?_cons_succ] at xp1
  have xg := BXg.out.lt
  have xg0 := BXg.out.cell 0
  simp only [List.getElem?_toArray, List.getElem?_cons_zero, List.getElem?_cons_succ] at xg0
  have xg1 := BXg.out.cell 1
  simp only [List.getElem?_toArray, List.getElem?_cons_zero, List.getElem?_cons_succ] at xg1
  have xg2 := BXg.out.cell 2
  simp only [List.getElem?_toArray, List.getElem?_cons_zero, List.getElem?_cons_succ] at xg2
  have xg3 := BXg.out.cell 3
  simp only [List.getElem?_toArray, List.getElem?_cons_zero, List.getElem?_cons_succ] at xg3
  have xg4 := BXg.out.cell 4
  simp only [List.getElem?_toArray, List.getElem?_cons_zero, List.getElem?_cons_succ] at xg4
  go_wp2_with fail
  have zE := E.size
  refine wp_region_stages [([0, 1], 2), ([], 3), ([], 4)] 99 w8.heap.size (by kernel_rfl) (by kernel_rfl) ?_
  refine wpStages_cons ?_
  simp only [List.filterMap_cons, List.filterMap_nil, List.getElem?_toArray, List.getElem?_cons_zero, List.getElem?_cons_succ]
  show wpQuiet _ _ _ _ [_, _] _
  repeat (go_big_quiet_step (fail))
  refine wpQuiet_nil ⟨_, rfl, fun K hK => ?_⟩
  go_wp2_with fail
  refine (toProgramO_any 0 W.heap.size _ p w8.drew (Hp.out.ext (Nat.le_refl _) E.drew) zE HSp.out).mono ?_
  rintro e w9 ⟨v9, rfl, O9, x9⟩
  have y9 : Ext w8 w9 := Ext.trans (by repeat (with_reducible (first | assumption | exact Ext.refl _ | apply Ext.alloc | apply Ext.drew | apply Ext.drewN))) x9
  have z9 := y9.size
  go_wp2_with fail
  refine hK _ _ (.inr (y9.same (Nat.le_refl _))) ?_
  clear hK K
  refine wpStages_cons ?_
  simp only [List.filterMap_nil]
  show wpQuiet _ _ _ _ [] _
  try simp only [Act.put, List.setIfInBounds_toArray, List.set_cons_succ, List.set_cons_zero]
  repeat (go_big_quiet_step (fail))
  refine wpQuiet_nil ⟨_, rfl, fun K hK => ?_⟩
  go_wp2_with fail
  refine (eqProgram_same _ _ _ _ _ _ p _ (OXp.out.kp (y9.kp (by omega))).R (by omega) O9.R (Nat.le_refl _)).mono ?_
  rintro e w10 ⟨rfl, x10⟩
  have y10 : Ext w8 w10 := y9.trans x10
  have z10 := x10.size
  go_wp2_with fail
  refine hK _ _ (.inr (y10.same (Nat.le_refl _))) ?_
  clear hK K
  refine wpStages_cons ?_
  simp only [List.filterMap_nil]
  show wpQuiet _ _ _ _ [] _
  try simp only [Act.put, List.setIfInBounds_toArray, List.set_cons_succ, List.set_cons_zero]
  repeat (go_big_quiet_step (fail))
  refine wpQuiet_nil ⟨_, rfl, fun K hK => ?_⟩
  go_wp2_with fail
  refine hK _ _ (.inr (y10.same (Nat.le_refl _))) ?_
  clear hK K
  refine wpStages_nil ?_
  replace BPp := hid (BPp.out.kp (y10.kp BPp.out.lt))
  replace BPg := hid (BPg.out.kp (y10.kp BPg.out.lt))
  replace BXp := hid (BXp.out.kp (y10.kp BXp.out.lt))
  replace BXg := hid (BXg.out.kp (y10.kp BXg.out.lt))
  replace OXp := hid (OXp.out.kp (y10.kp (by first | omega | (simp; omega))))
  replace OXg := hid (OXg.out.kp (y10.kp (by first | omega | (simp; omega))))
  replace E := E.trans y10
  clear x9 y9 x10 y10 O9 pp pp0 pp1 pg pg0 pg1 pg2 pg3 pg4 xp xp0 xp1 xg xg0 xg1 xg2 xg3 xg4
  have pp := BPp.out.lt
  have pp0 := BPp.out.cell 0
  simp only [List.getElem?_toArray, List.getElem?_cons_zero, List.getElem?_cons_succ] at pp0
  have pp1 := BPp.out.cell 1
  simp only [List.getElem?_toArray, List.getElem?_cons_zero, List.getElem?_cons_succ] at pp1
  have pg := BPg.out.lt
  have pg0 := BPg.out.cell 0
  simp only [List.getElem?_toArray, List.getElem?_cons_zero, List.getElem?_cons_succ] at pg0
  have pg1 := BPg.out.cell 1
  simp only [List.getElem?_toArray, List.getElem?_cons_zero, List.getElem?_cons_succ] at pg1
  have pg2 := BPg.out.cell 2
  simp only [List.getElem?_toArray, List.getElem?_cons_zero, List.getElem?_cons_succ] at pg2
  have pg3 := BPg.out.cell 3
  simp only [List.getElem?_toArray, List.getElem?_cons_zero, List.getElem?_cons_succ] at pg3
  have pg4 := BPg.out.cell 4
  simp only [List.getElem?_toArray, List.getElem?_cons_zero, List.getElem?_cons_succ] at pg4
  have xp := BXp.out.lt
  have xp0 := BXp.out.cell 0
  simp only [List.getElem?_toArray, List.getElem?_cons_zero, List.getElem?_cons_succ] at xp0
  have xp1 := BXp.out.cell 1
  simp only [List.getElem?_toArray, List.getElem?_cons_zero, List.getElem?_cons_succ] at xp1
  have xg := BXg.out.lt
  have xg0 := BXg.out.cell 0
  simp only [List.getElem?_toArray, List.getElem?_cons_zero, List.getElem?_cons_succ] at xg0
  have xg1 := BXg.out.cell 1
  simp only [List.getElem?_toArray, List.getElem?_cons_zero, List.getElem?_cons_succ] at xg1
  have xg2 := BXg.out.cell 2
  simp only [List.getElem?_toArray, List.getElem?_cons_zero, List.getElem?_cons_succ] at xg2
  have xg3 := BXg.out.cell 3
  simp only [List.getElem?_toArray, List.getElem?_cons_zero, List.getElem?_cons_succ] at xg3
  have xg4 := BXg.out.cell 4
  simp only [List.getElem?_toArray, List.getElem?_cons_zero, List.getElem?_cons_succ] at xg4
  go_wp2_with fail
  have zE := E.size
  refine wp_region_stages [([0, 1], 2), ([], 3), ([], 4)] 99 w10.heap.size (by kernel_rfl) (by kernel_rfl) ?_
  refine wpStages_cons ?_
  simp only [List.filterMap_cons, List.filterMap_nil, List.getElem?_toArray, List.getElem?_cons_zero, List.getElem?_cons_succ]
  show wpQuiet _ _ _ _ [_, _] _
  repeat (go_big_quiet_step (fail))
  refine wpQuiet_nil ⟨_, rfl, fun K hK => ?_⟩
  go_wp2_with fail
  refine (toGrid_any 0 W.heap.size _ g w10.drew (Hg.out.ext (Nat.le_refl _) E.drew) zE HSg.out).mono ?_
  rintro e w11 ⟨v11, rfl, O11, x11⟩
  have y11 : Ext w10 w11 := Ext.trans (by repeat (with_reducible (first | assumption | exact Ext.refl _ | apply Ext.alloc | apply Ext.drew | apply Ext.drewN))) x11
  have z11 := y11.size
  go_wp2_with fail
  refine hK _ _ (.inr (y11.same (Nat.le_refl _))) ?_
  clear hK K
  refine wpStages_cons ?_
  simp only [List.filterMap_nil]
  show wpQuiet _ _ _ _ [] _
  try simp only [Act.put, List.setIfInBounds_toArray, List.set_cons_succ, List.set_cons_zero]
  repeat (go_big_quiet_step (fail))
  refine wpQuiet_nil ⟨_, rfl, fun K hK => ?_⟩
  go_wp2_with fail
  refine (eqGrid_same _ _ _ _ _ _ g _ (OXg.out.kp (y11.kp (by omega))).R (by omega) O11.R (Nat.le_refl _)).mono ?_
  rintro e w12 ⟨rfl, x12⟩
  have y12 : Ext w10 w12 := y11.trans x12
  have z12 := x12.size
  go_wp2_with fail
  refine hK _ _ (.inr (y12.same (Nat.le_refl _))) ?_
  clear hK K
  refine wpStages_cons ?_
  simp only [List.filterMap_nil]
  show wpQuiet _ _ _ _ [] _
  try simp only [Act.put, List.setIfInBounds_toArray, List.set_cons_succ, List.set_cons_zero]
  repeat (go_big_quiet_step (fail))
  refine wpQuiet_nil ⟨_, rfl, fun K hK => ?_⟩
  go_wp2_with fail
  refine hK _ _ (.inr (y12.same (Nat.le_refl _))) ?_
  clear hK K
  refine wpStages_nil ?_
  replace BPp := hid (BPp.out.kp (y12.kp BPp.out.lt))
  replace BPg := hid (BPg.out.kp (y12.kp BPg.out.lt))
  replace BXp := hid (BXp.out.kp (y12.kp BXp.out.lt))
  replace BXg := hid (BXg.out.kp (y12.kp BXg.out.lt))
  replace OXp := hid (OXp.out.kp (y12.kp (by first | omega | (simp; omega))))
  replace OXg := hid (OXg.out.kp (y12.kp (by first | omega | (simp; omega))))
  replace E := E.trans y12
  clear x11 y11 x12 y12 O11 pp pp0 pp1 pg pg0 pg1 pg2 pg3 pg4 xp xp0 xp1 xg xg0 xg1 xg2 xg3 xg4
  have pp := BPp.out.lt
  have pp0 := BPp.out.cell 0
  simp only [List.getElem?_toArray, List.getElem?_cons_zero, List.getElem?_cons_succ] at pp0
  have pp1 := BPp.out.cell 1
  simp only [List.getElem?_toArray, List.getElem?_cons_zero, List.getElem?_cons_succ] at pp1
  have pg := BPg.out.lt
  have pg0 := BPg.out.cell 0
  simp only [List.getElem?_toArray, List.getElem?_cons_zero, List.getElem?_cons_succ] at pg0
  have pg1 := BPg.out.cell 1
  simp only [List.getElem?_toArray, List.getElem?_cons_zero, List.getElem?_cons_succ] at pg1
  have pg2 := BPg.out.cell 2
  simp only [List.getElem?_toArray, List.getElem?_cons_zero, List.getElem?_cons_succ] at pg2
  have pg3 := BPg.out.cell 3
  simp only [List.getElem?_toArray, List.getElem?_cons_zero, List.getElem?_cons_succ] at pg3
  have pg4 := BPg.out.cell 4
  simp only [List.getElem?_toArray, List.getElem?_cons_zero, List.getElem?_cons_succ] at pg4
  have xp := BXp.out.lt
  have xp0 := BXp.out.cell 0
  simp only [List.getElem?_toArray, List.getElem?_cons_zero, List.getElem?_cons_succ] at xp0
  have xp1 := BXp.out.cell 1
  simp only [List.getElem?_toArray, List.getElem?_cons_zero, List.getElem?_cons_succ] at xp1
  have xg := BXg.out.lt
  have xg0 := BXg.out.cell 0
  simp only [List.getElem?_toArray, List.getElem?_cons_zero, List.getElem?_cons_succ] at xg0
  have xg1 := BXg.out.cell 1
  simp only [List.getElem?_toArray, List.getElem?_cons_zero, List.getElem?_cons_succ] at xg1
  have xg2 := BXg.out.cell 2
  simp only [List.getElem?_toArray, List.getElem?_cons_zero, List.getElem?_cons_succ] at xg2
  have xg3 := BXg.out.cell 3
  simp only [List.getElem?_toArray, List.getElem?_cons_zero, List.getElem?_cons_succ] at xg3
  have xg4 := BXg.out.cell 4
  simp only [List.getElem?_toArray, List.getElem?_cons_zero, List.getElem?_cons_succ] at xg4
  go_wp2_with fail
  go_ret
  exact ⟨rfl, E⟩
end Go.Proofs.YtjfcngbepjdfnaaGreat
end

section
/- This text reads the laws' arguments off the data that the row speaks of: integers, slices of integers, textures. -/
namespace Go.Proofs.YtjfcngbepjdfnaaGreat
open Go.ChangeShapes Go.WideShapes Go.ChangeAt Go.RowKit

theorem laidOut : laidOutB Tryz.prog = true := by kernel_rfl

section
variable {H : Type} {enc : TypeId × Value → H} {W : World} {base b0 : Nat} {sp : Nat → Bool} {held : Bool}

theorem wf_I64 {n : Int} (h : (Lit.int .i64 n).wf = true) : I64 n := by
  simp [Lit.wf, IntKind.min, IntKind.max, IntKind.signed, IntKind.bits] at h
  exact ⟨by omega, by omega⟩
set_option maxRecDepth 100000 in
theorem argInt {v : Value} {d : DataW H} {p : List MemPlace} (hv : Value.okWide Tryz.prog W .any b0 3 v) (h : DataW.Trod enc Tryz.prog W base sp held 3 v d p) : ∃ n, v = .int .i64 n ∧ I64 n := by
  obtain ⟨n, rfl, _, _, hw⟩ := open_int Tryz.underlying3 hv h
  exact ⟨n, rfl, wf_I64 hw⟩
set_option maxRecDepth 100000 in
/-- what lies behind the cell of a slice of integers -/
theorem cellInts {fuel : Nat} {c : Value} {y : DataW H × List MemPlace} (h : DataW.trod enc Tryz.prog W base sp held fuel 27 [c] = some y) : ∃ xs, Ints 0 W.heap.size W c xs := by
  rcases open_ints Tryz.underlying27 Tryz.underlying3 (by kernel_rfl) h with ⟨hcs, _⟩ | ⟨a, len, cap, zs, hcs, _, hl, hm, hz, _, hcell, hwz⟩
  · obtain rfl : c = .slice none 0 0 := by simpa using hcs
    exact ⟨[], none, 0, rfl, Nat.le_refl _, by unfold maxLen; omega, fun i x hx => by simp at hx⟩
  · obtain rfl : c = .slice (some a) len cap := by simpa using hcs
    have hlen : (zs.take len).length = len := by
      rw [List.length_take, hz]
      split <;> omega
    refine ⟨zs.take len, some a, cap, by rw [hlen], by omega, hm, fun i x hx => ?_⟩
    have hi : i < len := by have := (List.getElem?_eq_some_iff.1 hx).1; omega
    rw [List.getElem?_take, if_pos hi] at hx
    have hzi := (List.getElem?_eq_some_iff.1 hx).1
    have hxx : zs.getD i 0 = x := by simp [List.getD, hx]
    obtain ⟨b, o, s⟩ := a
    obtain rfl : s = none := by
      cases s with
      | none => rfl
      | some s =>
        have h0 := hcell 0 (by omega)
        simp only [World.cell?, Addr.add, if_true] at h0
        split at h0 <;> simp at h0
    have hc := hcell i hzi
    rw [hxx] at hc
    have ha : (⟨b, o, none⟩ : Addr).add i = ⟨b, o + i, none⟩ := by
      unfold Addr.add
      split
      · rename_i e; subst e; rfl
      · rfl
    rw [ha] at hc
    refine ⟨wf_I64 (hwz x (List.mem_of_getElem? hx)), b, o, rfl, Nat.zero_le _, ?_, hc⟩
    simp only [World.cell?] at hc
    split at hc
    · rename_i e; exact (Array.getElem?_eq_some_iff.1 e).1
    · cases hc
set_option maxRecDepth 100000 in
theorem argTex {v : Value} {d : DataW H} {p : List MemPlace} (hv : Value.okWide Tryz.prog W .any b0 29 v) (h : DataW.Trod enc Tryz.prog W base sp held 29 v d p) :
    ∃ t, TexR 0 W.heap.size W v t := by
  obtain ⟨v0, v1, y0, y1, n, rfl, rfl, rfl, h0, h1⟩ := Go.Joins.open_agg2 Tryz.underlying29 (by kernel_rfl) (by kernel_rfl) hv h
  obtain ⟨k, e0, _, hw⟩ := DataW.trod_int Tryz.underlying3 h0
  obtain rfl : v0 = .int .i64 k := by simpa using e0
  obtain ⟨xs, hx⟩ := cellInts h1
  exact ⟨⟨k, xs⟩, _, rfl, wf_I64 hw, hx⟩
end

end Go.Proofs.YtjfcngbepjdfnaaGreat
end

section
/- This text reads the cells of nested structs and arrays off the data that a row speaks of: which type each cell has, and what lies behind it. -/
namespace Go.Proofs.YtjfcngbepjdfnaaGreat
open Go.ChangeShapes Go.WideShapes Go.ChangeAt Go.RowKit

/-- the type of cell i of a value of type t, through structs and arrays -/
def leafAt (P : Program) : Nat → TypeId → Nat → Option TypeId
  | 0, _, _ => none
  | d + 1, t, i =>
    match P.underlying t with
    | some (.struct fs) =>
      match fs.toList.find? (fun f => decide (f.offset ≤ i) && decide (i < f.offset + P.cellsOf f.type)) with
      | some f =>
        match leafAt P d f.type (i - f.offset) with
        | some u => if (i - f.offset) + P.cellsOf u ≤ P.cellsOf f.type then some u else none
        | none => none
      | none => none
    | some (.array n e) =>
      if i / P.cellsOf e < n then
        match leafAt P d e (i % P.cellsOf e) with
        | some u => if (i % P.cellsOf e) + P.cellsOf u ≤ P.cellsOf e then some u else none
        | none => none
      else none
    | some _ => if i = 0 then some t else none
    | none => none

section
variable {H : Type} {enc : TypeId × Value → H} {P : Program} {W : World} {base : Nat} {sp : Nat → Bool} {held : Bool}

theorem take_drop_in {α : Type} (l : List α) (o k i c : Nat) (h1 : o ≤ i) (h2 : i - o + c ≤ k) : ((((l.drop o).take k).drop (i - o)).take c) = (l.drop i).take c := by
  rw [List.drop_take, List.take_take, List.drop_drop, Nat.min_eq_left (by omega)]
  congr 2
  omega

theorem trod_leaf (d : Nat) : ∀ {t u : TypeId} {i fuel : Nat} {cs : List Value} {x : DataW H × List MemPlace}, leafAt P d t i = some u → DataW.trod enc P W base sp held fuel t cs = some x →
    (i = 0 ∧ t = u) ∨ ∃ (m : Nat) (y : DataW H × List MemPlace), DataW.trod enc P W base sp held m u ((cs.drop i).take (P.cellsOf u)) = some y := by
  induction d with
  | zero => intro t u i fuel cs x h; simp [leafAt] at h
  | succ d ih =>
    intro t u i fuel cs x h hx
    unfold leafAt at h
    split at h
    · rename_i fs hfs
      split at h
      · rename_i f hf
        have hp := List.find?_some hf
        simp only [Bool.and_eq_true, decide_eq_true_eq] at hp
        have hm := List.mem_of_find?_eq_some hf
        split at h
        · rename_i u' hu
          split at h
          · rename_i hfit
            simp only [Option.some.injEq] at h
            subst h
            obtain ⟨xs, n, _, _, hl, hlen, hg⟩ := DataW.trod_struct hfs hx
            obtain ⟨j, hj⟩ := List.getElem?_of_mem hm
            have hj' : fs[j]? = some f := by simpa using hj
            have h1 := hg j f hj'
            have hjl : j < xs.length := by rw [hlen]; exact (Array.getElem?_eq_some_iff.1 hj').1
            rw [List.getElem?_eq_getElem hjl] at h1
            refine .inr ?_
            rcases ih hu h1 with ⟨h2, rfl⟩ | ⟨m, y, hy⟩
            · refine ⟨n, xs[j], ?_⟩
              have : f.offset = i := by omega
              rw [← this]
              exact h1
            · rw [take_drop_in _ _ _ _ _ hp.1 hfit] at hy
              exact ⟨m, y, hy⟩
          · cases h
        · cases h
      · cases h
    · rename_i n e hfs
      split at h
      · rename_i hn
        split at h
        · rename_i u' hu
          split at h
          · rename_i hfit
            simp only [Option.some.injEq] at h
            subst h
            obtain ⟨xs, m', _, _, hl, hlen, hg⟩ := DataW.trod_array hfs hx
            have h1 := hg _ hn
            rw [List.getElem?_eq_getElem (by omega)] at h1
            have hdm := Nat.div_add_mod i (P.cellsOf e)
            rw [Nat.mul_comm] at hdm
            refine .inr ?_
            rcases ih hu h1 with ⟨h2, rfl⟩ | ⟨m, y, hy⟩
            · refine ⟨m', xs[i / P.cellsOf e]'(by omega), ?_⟩
              have : i / P.cellsOf e * P.cellsOf e = i := by omega
              rw [this] at h1
              exact h1
            · have h3 : i % P.cellsOf e = i - i / P.cellsOf e * P.cellsOf e := by omega
              rw [h3] at hy hfit
              rw [take_drop_in _ _ _ _ _ (by omega) hfit] at hy
              exact ⟨m, y, hy⟩
          · cases h
        · cases h
      · cases h
    · split at h
      · rename_i hi
        simp only [Option.some.injEq] at h
        exact .inl ⟨hi, h⟩
      · cases h
    · cases h
/-- all cells of the type are integers of 64 bits -/
def onlyInts (P : Program) (t : TypeId) (k : Nat) (ti : TypeId) : Bool := decide (P.cellsOf t = k) && decide (P.cellsOf ti = 1) && decide (t ≠ ti) && (List.range k).all fun i => decide (leafAt P 6 t i = some ti)

theorem trod_ints {t ti : TypeId} {k fuel : Nat} {cs : List Value} {x : DataW H × List MemPlace} (hi : P.underlying ti = some (.int .i64)) (ho : onlyInts P t k ti = true) (h : DataW.trod enc P W base sp held fuel t cs = some x) :
    ∀ i, i < k → ∃ n, cs[i]? = some (.int .i64 n) ∧ I64 n := by
  intro i hik
  simp only [onlyInts, Bool.and_eq_true, decide_eq_true_eq, List.all_eq_true, List.mem_range] at ho
  obtain ⟨⟨⟨h1, h2⟩, h3⟩, h4⟩ := ho
  rcases trod_leaf 6 (h4 i hik) h with ⟨_, e⟩ | ⟨m, y, hy⟩
  · exact absurd e h3
  · rw [h2] at hy
    obtain ⟨n, e0, _, hw⟩ := DataW.trod_int hi hy
    refine ⟨n, ?_, ?_⟩
    · have : ((cs.drop i).take 1)[0]? = some (.int .i64 n) := by rw [e0]; rfl
      rw [List.getElem?_take, if_pos (by decide), List.getElem?_drop] at this
      exact this
    · simp [Lit.wf, IntKind.min, IntKind.max, IntKind.signed, IntKind.bits] at hw
      exact ⟨by omega, by omega⟩

theorem cellFlats {t e ti : TypeId} {k fuel : Nat} {c : Value} {y : DataW H × List MemPlace} (ht : P.underlying t = some (.slice e)) (hi : P.underlying ti = some (.int .i64)) (ho : onlyInts P e k ti = true) (hk : 0 < k)
    (h : DataW.trod enc P W base sp held fuel t [c] = some y) : ∃ n f, Flats k 0 W.heap.size W c n f := by
  have hC : P.cellsOf e = k := by
    simp only [onlyInts, Bool.and_eq_true, decide_eq_true_eq] at ho
    exact ho.1.1.1
  rcases Go.Deep.open_slice ht h with ⟨h0, _⟩ | ⟨a, len, cap, m, n, D, Pl, hcs, hb, hl, hm, hmm, hx, hel⟩
  · obtain rfl : c = .slice none 0 0 := by simpa using h0
    exact ⟨0, fun _ => 0, none, 0, rfl, Nat.le_refl _, by unfold maxLen; omega, fun i hx => by omega⟩
  · obtain rfl : c = .slice (some a) len cap := by simpa using hcs
    have hlm : len ≤ m := by rw [hmm]; split <;> omega
    rw [hC] at hel
    have key : ∀ i, i < len * k → ∃ x, I64 x ∧ W.cell? (a.add (i / k * k) |>.add (i % k)) = some (.int .i64 x) := by
      intro i hil
      have h1 : i / k < len := (Nat.div_lt_iff_lt_mul hk).2 hil
      obtain ⟨cs', hc, ht'⟩ := hel (i / k) (by omega)
      obtain ⟨x, hx1, hx2⟩ := trod_ints hi ho ht' (i % k) (Nat.mod_lt _ hk)
      obtain ⟨_, hcl, hat⟩ := World.cells?_some hc
      exact ⟨x, hx2, (hat _ (Nat.mod_lt _ hk)).trans hx1⟩
    have key2 : ∀ i, ∃ x, i < len * k → I64 x ∧ W.cell? (a.add i) = some (.int .i64 x) := by
      intro i
      by_cases hil : i < len * k
      · obtain ⟨x, h1, h2⟩ := key i hil
        rw [Go.Deep.add_add] at h2
        have : i / k * k + i % k = i := by have := Nat.div_add_mod i k; rw [Nat.mul_comm] at this; omega
        rw [this] at h2
        exact ⟨x, fun _ => ⟨h1, h2⟩⟩
      · exact ⟨0, fun h => absurd h hil⟩
    obtain ⟨f, hf⟩ := Classical.axiomOfChoice key2
    refine ⟨len, f, some a, cap, rfl, hl, hm, fun i hil => ⟨(hf i hil).1, ?_⟩⟩
    have h0 := (hf 0 (by omega)).2
    obtain ⟨b, o, s⟩ := a
    obtain rfl : s = none := by
      cases s with
      | none => rfl
      | some s =>
        simp only [World.cell?, Addr.add, if_true] at h0
        split at h0 <;> simp at h0
    have hc := (hf i hil).2
    have ha : (⟨b, o, none⟩ : Addr).add i = ⟨b, o + i, none⟩ := by
      unfold Addr.add
      split
      · rename_i e; subst e; rfl
      · rfl
    rw [ha] at hc
    refine ⟨b, o, rfl, Nat.zero_le _, ?_, hc⟩
    simp only [World.cell?] at hc
    split at hc
    · rename_i e; exact (Array.getElem?_eq_some_iff.1 e).1
    · cases hc

/-- a struct of integers by value -/
theorem argAgg {t ti : TypeId} {fs : Array Field} {k b0 : Nat} {v : Value} {d : DataW H} {p : List MemPlace} (ht : P.underlying t = some (.struct fs)) (hi : P.underlying ti = some (.int .i64)) (ho : onlyInts P t k ti = true)
    (hv : Value.okWide P W .any b0 t v) (h : DataW.Trod enc P W base sp held t v d p) : ∃ f : Nat → Int, v = .agg ((Array.range k).map fun i => .int .i64 (f i)) ∧ ∀ i, i < k → I64 (f i) := by
  obtain ⟨cs, rfl, hsz⟩ := okWide_struct ht hv
  obtain ⟨fuel, hf⟩ := h
  have hC : P.cellsOf t = k := by
    simp only [onlyInts, Bool.and_eq_true, decide_eq_true_eq] at ho
    exact ho.1.1.1
  have key : ∀ i, ∃ n, i < k → cs[i]? = some (.int .i64 n) ∧ I64 n := by
    intro i
    by_cases hik : i < k
    · obtain ⟨n, h1, h2⟩ := trod_ints hi ho hf i hik
      exact ⟨n, fun _ => ⟨by simpa [Value.cells] using h1, h2⟩⟩
    · exact ⟨0, fun h => absurd h hik⟩
  obtain ⟨f, hf⟩ := Classical.axiomOfChoice key
  refine ⟨f, ?_, fun i hik => (hf i hik).2⟩
  congr 1
  apply Array.ext_getElem?
  intro i
  by_cases hik : i < k
  · rw [(hf i hik).1]
    simp [hik]
  · simp [hik]
    omega
end
end Go.Proofs.YtjfcngbepjdfnaaGreat
end

section
/- This text reads the laws' arguments that are programs of the shading language off the data that the row speaks of. -/
namespace Go.Proofs.YtjfcngbepjdfnaaGreat
open Go.ChangeShapes Go.WideShapes Go.ChangeAt Go.RowKit

section
variable {H : Type} {enc : TypeId × Value → H} {P : Program} {W : World} {base b0 : Nat} {sp : Nat → Bool} {held : Bool}

/-- cell i of a value, whose type has one cell -/
theorem trod_leaf1E {t u : TypeId} {i fuel : Nat} {cs : List Value} {x : DataW H × List MemPlace} (hl : (leafAt P 6 t i == some u && decide (t ≠ u) && decide (P.cellsOf u = 1)) = true) (h : DataW.trod enc P W base sp held fuel t cs = some x) (hi : i < cs.length) :
    ∃ c m y, cs[i]? = some c ∧ DataW.trod enc P W base sp held m u [c] = some y := by
  simp only [Bool.and_eq_true, beq_iff_eq, decide_eq_true_eq] at hl
  obtain ⟨⟨h1, h2⟩, h3⟩ := hl
  rcases trod_leaf 6 h1 h with ⟨_, e⟩ | ⟨m, y, hy⟩
  · exact absurd e h2
  · rw [h3, List.drop_eq_getElem_cons hi] at hy
    exact ⟨cs[i], m, y, by simp [hi], hy⟩
theorem cell_intE {t : TypeId} {fuel : Nat} {c : Value} {y : DataW H × List MemPlace} (ht : P.underlying t = some (.int .i64)) (h : DataW.trod enc P W base sp held fuel t [c] = some y) : ∃ n, c = .int .i64 n ∧ I64 n := by
  obtain ⟨k, e0, _, hw⟩ := DataW.trod_int ht h
  exact ⟨k, by simpa using e0, wf_I64 hw⟩
theorem cell_strE {t : TypeId} {fuel : Nat} {c : Value} {y : DataW H × List MemPlace} (ht : P.underlying t = some .string) (h : DataW.trod enc P W base sp held fuel t [c] = some y) : ∃ s, c = .string s ∧ s.size ≤ maxLen := by
  obtain ⟨s, e0, _, hw⟩ := DataW.trod_string ht h
  exact ⟨s, by simpa using e0, hw⟩
end

section
variable {H : Type} {enc : TypeId × Value → H} {W : World} {base b0 : Nat} {sp : Nat → Bool} {held : Bool}

/-- what lies behind the cell of a slice of nodes -/
theorem cellNds {fuel : Nat} {c : Value} {y : DataW H × List MemPlace} (h : DataW.trod enc Tryz.prog W base sp held fuel 22 [c] = some y) : ∃ xs, Nds 0 W.heap.size W c xs ∧ ∀ x ∈ xs, x.name.size ≤ maxLen := by
  rcases Go.Deep.open_slice Tryz.underlying22 h with ⟨hcs, _⟩ | ⟨a, len, cap, m, n, D, Pl, hcs, _, hl, hm, hmm, _, hel⟩
  · obtain rfl : c = .slice none 0 0 := by simpa using hcs
    exact ⟨[], ⟨none, 0, rfl, Nat.le_refl _, by unfold maxLen; omega, fun i x hx => by simp at hx⟩, fun s hs => by cases hs⟩
  · obtain rfl : c = .slice (some a) len cap := by simpa using hcs
    have hlm : len ≤ m := by rw [hmm]; split <;> omega
    have hC : Tryz.prog.cellsOf 82 = 4 := by kernel_rfl
    rw [hC] at hel
    have key : ∀ i, ∃ x : Nd, i < len → (I64 x.op ∧ I64 x.num ∧ x.name.size ≤ maxLen) ∧ W.cell? (a.add (i * 4)) = some (.int .i64 x.op) ∧ W.cell? (a.add (i * 4 + 1)) = some (.string x.name) ∧ W.cell? (a.add (i * 4 + 2)) = some (.int .i64 x.num) ∧ ∃ u, W.cell? (a.add (i * 4 + 3)) = some u ∧ Ints 0 W.heap.size W u x.args := by
      intro i
      by_cases hil : i < len
      · obtain ⟨cs', hc, ht'⟩ := hel i (by omega)
        obtain ⟨_, hcl, hat⟩ := World.cells?_some hc
        obtain ⟨c0, m0, y0, e0, t0⟩ := trod_leaf1E (i := 0) (u := 3) (by kernel_rfl) ht' (by omega)
        obtain ⟨c1, m1, y1, e1, t1⟩ := trod_leaf1E (i := 1) (u := 9) (by kernel_rfl) ht' (by omega)
        obtain ⟨c2, m2, y2, e2, t2⟩ := trod_leaf1E (i := 2) (u := 3) (by kernel_rfl) ht' (by omega)
        obtain ⟨c3, m3, y3, e3, t3⟩ := trod_leaf1E (i := 3) (u := 27) (by kernel_rfl) ht' (by omega)
        obtain ⟨px, hx⟩ := cellInts t3
        obtain ⟨n0, rfl, i0⟩ := cell_intE Tryz.underlying3 t0
        obtain ⟨s, rfl, i1⟩ := cell_strE Tryz.underlying9 t1
        obtain ⟨n2, rfl, i2⟩ := cell_intE Tryz.underlying3 t2
        refine ⟨⟨n0, s, n2, px⟩, fun _ => ⟨⟨i0, i2, i1⟩, ?_, ?_, ?_, c3, ?_, hx⟩⟩
        · have := hat 0 (by omega); rw [Go.Deep.add_add] at this; exact this.trans e0
        · have := hat 1 (by omega); rw [Go.Deep.add_add] at this; exact this.trans e1
        · have := hat 2 (by omega); rw [Go.Deep.add_add] at this; exact this.trans e2
        · have := hat 3 (by omega); rw [Go.Deep.add_add] at this; exact this.trans e3
      · exact ⟨⟨0, ⟨#[]⟩, 0, []⟩, fun h => absurd h hil⟩
    obtain ⟨f, hf⟩ := Classical.axiomOfChoice key
    refine ⟨(List.range len).map f, ⟨some a, cap, by simp, by simpa using hl, hm, fun i x hx => ?_⟩, fun s hs => ?_⟩
    · have hi : i < len := by have := (List.getElem?_eq_some_iff.1 hx).1; simpa using this
      obtain rfl : f i = x := by simpa [hi] using hx
      obtain ⟨⟨i0, i2, _⟩, g0, g1, g2, u, g3, hu⟩ := hf i hi
      refine ⟨⟨i0, i2⟩, ?_⟩
      have h0 := (hf 0 (by omega)).2.1
      clear hf hel key
      obtain ⟨b, o, s⟩ := a
      obtain rfl : s = none := by
        cases s with
        | none => rfl
        | some s =>
          simp only [World.cell?, Addr.add, Nat.zero_mul, if_true] at h0
          split at h0 <;> simp at h0
      have ha : ∀ k, (⟨b, o, none⟩ : Addr).add k = ⟨b, o + k, none⟩ := by
        intro k
        unfold Addr.add
        split
        · rename_i e; subst e; rfl
        · rfl
      rw [ha] at g0 g1 g2 g3
      refine ⟨b, o, u, rfl, Nat.zero_le _, ?_, g0, by rw [Nat.add_assoc]; exact g1, by rw [Nat.add_assoc]; exact g2, by rw [Nat.add_assoc]; exact g3, hu⟩
      simp only [World.cell?] at g0
      split at g0
      · rename_i e; exact (Array.getElem?_eq_some_iff.1 e).1
      · cases g0
    · obtain ⟨i, hi, rfl⟩ := List.mem_map.1 hs
      exact (hf i (List.mem_range.1 hi)).1.2.2

/-- what lies behind the cell of a slice of assignments -/
theorem cellAsgs {fuel : Nat} {c : Value} {y : DataW H × List MemPlace} (h : DataW.trod enc Tryz.prog W base sp held fuel 23 [c] = some y) : ∃ xs, Asgs 0 W.heap.size W c xs ∧ ∀ x ∈ xs, x.name.size ≤ maxLen := by
  rcases Go.Deep.open_slice Tryz.underlying23 h with ⟨hcs, _⟩ | ⟨a, len, cap, m, n, D, Pl, hcs, _, hl, hm, hmm, _, hel⟩
  · obtain rfl : c = .slice none 0 0 := by simpa using hcs
    exact ⟨[], ⟨none, 0, rfl, Nat.le_refl _, by unfold maxLen; omega, fun i x hx => by simp at hx⟩, fun s hs => by cases hs⟩
  · obtain rfl : c = .slice (some a) len cap := by simpa using hcs
    have hlm : len ≤ m := by rw [hmm]; split <;> omega
    have hC : Tryz.prog.cellsOf 84 = 2 := by kernel_rfl
    rw [hC] at hel
    have key : ∀ i, ∃ x : Asg, i < len → (I64 x.root ∧ x.name.size ≤ maxLen) ∧ W.cell? (a.add (i * 2)) = some (.string x.name) ∧ W.cell? (a.add (i * 2 + 1)) = some (.int .i64 x.root) := by
      intro i
      by_cases hil : i < len
      · obtain ⟨cs', hc, ht'⟩ := hel i (by omega)
        obtain ⟨_, hcl, hat⟩ := World.cells?_some hc
        obtain ⟨c0, m0, y0, e0, t0⟩ := trod_leaf1E (i := 0) (u := 9) (by kernel_rfl) ht' (by omega)
        obtain ⟨c1, m1, y1, e1, t1⟩ := trod_leaf1E (i := 1) (u := 3) (by kernel_rfl) ht' (by omega)
        obtain ⟨s, rfl, i0⟩ := cell_strE Tryz.underlying9 t0
        obtain ⟨n1, rfl, i1⟩ := cell_intE Tryz.underlying3 t1
        refine ⟨⟨s, n1⟩, fun _ => ⟨⟨i1, i0⟩, ?_, ?_⟩⟩
        · have := hat 0 (by omega); rw [Go.Deep.add_add] at this; exact this.trans e0
        · have := hat 1 (by omega); rw [Go.Deep.add_add] at this; exact this.trans e1
      · exact ⟨⟨⟨#[]⟩, 0⟩, fun h => absurd h hil⟩
    obtain ⟨f, hf⟩ := Classical.axiomOfChoice key
    refine ⟨(List.range len).map f, ⟨some a, cap, by simp, by simpa using hl, hm, fun i x hx => ?_⟩, fun s hs => ?_⟩
    · have hi : i < len := by have := (List.getElem?_eq_some_iff.1 hx).1; simpa using this
      obtain rfl : f i = x := by simpa [hi] using hx
      obtain ⟨⟨i0, _⟩, g0, g1⟩ := hf i hi
      refine ⟨i0, ?_⟩
      have h0 := (hf 0 (by omega)).2.1
      clear hf hel key
      obtain ⟨b, o, s⟩ := a
      obtain rfl : s = none := by
        cases s with
        | none => rfl
        | some s =>
          simp only [World.cell?, Addr.add, Nat.zero_mul, if_true] at h0
          split at h0 <;> simp at h0
      have ha : ∀ k, (⟨b, o, none⟩ : Addr).add k = ⟨b, o + k, none⟩ := by
        intro k
        unfold Addr.add
        split
        · rename_i e; subst e; rfl
        · rfl
      rw [ha] at g0 g1
      refine ⟨b, o, rfl, Nat.zero_le _, ?_, g0, by rw [Nat.add_assoc]; exact g1⟩
      simp only [World.cell?] at g0
      split at g0
      · rename_i e; exact (Array.getElem?_eq_some_iff.1 e).1
      · cases g0
    · obtain ⟨i, hi, rfl⟩ := List.mem_map.1 hs
      exact (hf i (List.mem_range.1 hi)).1.2

set_option maxRecDepth 100000 in
theorem argProg {v : Value} {d : DataW H} {p : List MemPlace} (hv : Value.okWide Tryz.prog W .any b0 25 v) (h : DataW.Trod enc Tryz.prog W base sp held 25 v d p) :
    ∃ c : Prg, c.R 0 W.heap.size W v ∧ c.bd := by
  obtain ⟨v0, v1, y0, y1, n, rfl, rfl, rfl, h0, h1⟩ := Go.Joins.open_agg2 Tryz.underlying25 (by kernel_rfl) (by kernel_rfl) hv h
  obtain ⟨xs, hx, bx⟩ := cellNds h0
  obtain ⟨ls, hl, bl⟩ := cellAsgs h1
  exact ⟨⟨xs, ls⟩, ⟨_, _, rfl, hx, hl⟩, bx, bl⟩

set_option maxRecDepth 100000 in
theorem argGridE {v : Value} {d : DataW H} {p : List MemPlace} (hv : Value.okWide Tryz.prog W .any b0 31 v) (h : DataW.Trod enc Tryz.prog W base sp held 31 v d p) :
    ∃ g : Grd, g.R 0 W.heap.size W v := by
  obtain ⟨cs, rfl, hsz⟩ := okWide_struct Tryz.underlying31 hv
  have hC : Tryz.prog.cellsOf 31 = 5 := by kernel_rfl
  rw [hC] at hsz
  obtain ⟨fuel, hf⟩ := h
  have hlen : (Value.agg cs).cells.toList.length = 5 := by simp [Value.cells, hsz]
  obtain ⟨c0, m0, y0, e0, t0⟩ := trod_leaf1E (i := 0) (u := 3) (by kernel_rfl) hf (by omega)
  obtain ⟨c1, m1, y1, e1, t1⟩ := trod_leaf1E (i := 1) (u := 26) (by kernel_rfl) hf (by omega)
  obtain ⟨c2, m2, y2, e2, t2⟩ := trod_leaf1E (i := 2) (u := 3) (by kernel_rfl) hf (by omega)
  obtain ⟨c3, m3, y3, e3, t3⟩ := trod_leaf1E (i := 3) (u := 3) (by kernel_rfl) hf (by omega)
  obtain ⟨c4, m4, y4, e4, t4⟩ := trod_leaf1E (i := 4) (u := 27) (by kernel_rfl) hf (by omega)
  obtain ⟨n0, rfl, i0⟩ := cell_intE Tryz.underlying3 t0
  obtain ⟨n2, rfl, i2⟩ := cell_intE Tryz.underlying3 t2
  obtain ⟨n3, rfl, i3⟩ := cell_intE Tryz.underlying3 t3
  obtain ⟨m, f, hp⟩ := cellFlats (k := 5) (e := 100) Tryz.underlying26 Tryz.underlying3 (by kernel_rfl) (by omega) t1
  obtain ⟨px, hx⟩ := cellInts t4
  have e : cs = #[.int .i64 n0, c1, .int .i64 n2, .int .i64 n3, c4] := by
    apply Array.ext_getElem?
    intro i
    simp only [Value.cells, Array.getElem?_toList] at e0 e1 e2 e3 e4
    match i with
    | 0 => simpa using e0
    | 1 => simpa using e1
    | 2 => simpa using e2
    | 3 => simpa using e3
    | 4 => simpa using e4
    | i + 5 => simp [hsz]
  subst e
  exact ⟨⟨n0, m, f, n2, ⟨n3, px⟩⟩, c1, c4, rfl, i0, i2, i3, hp, hx⟩
end
end Go.Proofs.YtjfcngbepjdfnaaGreat
end

section
/- This text lifts the walk of FnExactShadePoint to the given statement. -/
namespace Go.Proofs.YtjfcngbepjdfnaaGreat.fnExactShadePoint
open Go.ChangeShapes Go.WideShapes Go.ChangeAt Go.RowKit
set_option linter.unusedVariables false

theorem own : ownKnob Tryz.prog.godebug = none := by kernel_rfl
theorem laid : laidOutB Tryz.prog = true := by kernel_rfl

set_option maxRecDepth 100000 in
theorem lifted (os : Os) (started : os.Started) (H : Type) (enc : TypeId × Value → H) :
    ReturnsInHanded {} Tryz.checked os 4 .any (Rows.fnExactShadePointSpec.pre6 enc Tryz.prog Tryz.f4 Rows.fnExactShadePointRow.domain false) (Rows.fnExactShadePointSpec.post enc Tryz.prog Tryz.f4 false true false false) := by
  refine returnsInHanded_of_change (C := Tryz.checked) own started (by kernel_rfl) Tryz.func4
    (ChangeSpec.witness6 (enc := enc) (C := Tryz.checked) false ⟨#[], #[.agg #[.slice none 0 0, .slice none 0 0], .agg #[.int .i64 0, .slice none 0 0, .int .i64 0, .int .i64 0, .slice none 0 0], .int .i64 0, .int .i64 0], []⟩ 8 (by kernel_rfl) (by kernel_rfl) (by kernel_rfl) (by kernel_rfl)) ?_
  intro W base args ds gs before hval0 hW hcnd _
  have hval : ∀ (j : Nat) t v, Tryz.f4.params[j]? = some t → args[j]? = some v → Value.okWide Tryz.prog W .any base t v := hval0
  have hW' := hW
  obtain ⟨p, q, hA0, hV, rfl, hfz, hnd⟩ := hW
  have hA : DataW.TrodAll enc Tryz.prog W 0 (fun _ => true) true Tryz.f4.params.toList args.toList ds p := hA0
  rw [Tryz.params4] at hA hval
  obtain ⟨v0, vs0, d0, ds0, p0, q0, hargs, rfl, rfl, h0, r0⟩ := trodAll_cons hA
  obtain ⟨v1, vs1, d1, ds1, p1, q1, rfl, rfl, rfl, h1, r1⟩ := trodAll_cons r0
  obtain ⟨v2, vs2, d2, ds2, p2, q2, rfl, rfl, rfl, h2, r2⟩ := trodAll_cons r1
  obtain ⟨v3, vs3, d3, ds3, p3, q3, rfl, rfl, rfl, h3, r3⟩ := trodAll_cons r2
  obtain ⟨rfl, rfl, rfl⟩ := trodAll_nil r3
  obtain rfl : args = #[v0, v1, v2, v3] := by cases args; simp_all
  obtain ⟨rfl, rfl⟩ := trodVars_none hV
  have k0 := h0
  have lt0 : ∀ x ∈ p0, x.block < W.heap.size := by obtain ⟨m, hm⟩ := k0; exact DataW.trod_lt m _ _ _ hm
  obtain ⟨x0, w0, b0⟩ := argProg (hval 0 25 v0 rfl rfl) h0
  have k1 := h1
  have lt1 : ∀ x ∈ p1, x.block < W.heap.size := by obtain ⟨m, hm⟩ := k1; exact DataW.trod_lt m _ _ _ hm
  obtain ⟨x1, w1⟩ := argGridE (hval 1 31 v1 rfl rfl) h1
  have k2 := h2
  have lt2 : ∀ x ∈ p2, x.block < W.heap.size := by obtain ⟨m, hm⟩ := k2; exact DataW.trod_lt m _ _ _ hm
  obtain ⟨x2, rfl, w2⟩ := argInt (hval 2 3 v2 rfl rfl) h2
  have k3 := h3
  have lt3 : ∀ x ∈ p3, x.block < W.heap.size := by obtain ⟨m, hm⟩ := k3; exact DataW.trod_lt m _ _ _ hm
  obtain ⟨x3, rfl, w3⟩ := argInt (hval 3 3 v3 rfl rfl) h3
  clear hA0 hval0
  refine (lawShp v0 x0 v1 x1 x2 x3 W w0 b0 w1 w2 w3).mono fun e W' ⟨he, bel0⟩ => ?_
  have bel : Below W.heap.size W W' := bel0
  subst he
  exact ⟨_, rfl, _, _, _, [], _, [], hW', trodAll_mk1 (shut_bool Tryz.underlying4 _), (trodAll_cons_mk (Below.trod laid (by kernel_rfl) (of_decide_eq_true (by kernel_rfl)) k0 bel lt0) (trodAll_cons_mk (Below.trod laid (by kernel_rfl) (of_decide_eq_true (by kernel_rfl)) k1 bel lt1) (trodAll_cons_mk (Below.trod laid (by kernel_rfl) (of_decide_eq_true (by kernel_rfl)) k2 bel lt2) (trodAll_cons_mk (Below.trod laid (by kernel_rfl) (of_decide_eq_true (by kernel_rfl)) k3 bel lt3) trodAll_mk0)))), rfl, bel.frame _, fun h => by cases h⟩

theorem over : Rows.fnExactShadePointRow.holds Tryz.pinned (OpenSpec.ofChange Rows.fnExactShadePointSpec) :=
  OpenClaim.holds_of_wide 4 Tryz.f4 rfl rfl rfl rfl rfl rfl rfl ⟨rfl, rfl, rfl, rfl, rfl⟩ rfl rfl rfl rfl rfl (by kernel_rfl) Tryz.func4 (by kernel_rfl)
    (of_decide_eq_true (by kernel_rfl)) (by unfold Func.isWrapper; first | (rw [if_pos (by decide +kernel)]; kernel_rfl) | (rw [if_neg (by decide +kernel)]; exact ⟨rfl, rfl⟩))
    (fun os started H enc _ => lifted os started H enc)

theorem proved : Rows.FnExactShadePointSaid := over
end Go.Proofs.YtjfcngbepjdfnaaGreat.fnExactShadePoint
end
