/- This text walks the law FnExactCachedLookup. -/
import Derived.Test.YtcogkglkioejaaaCchI
import Derived.Test.YtcogkglkioejaaaCchS
import Derived.Test.YtcogkglkioejaaaCchL
import Derived.Deep.Cut
import Derived.Deep.CutRange
namespace Go.Proofs.Ytcogkglkioejaaa
open Go.RowKit

/-- block b holds a cache of the laws -/
def LCx (W : World) (b : Nat) (r : Int) (v : Value) (l : Int) : Prop := W.heap[b]? = some (.cells #[.int .i64 r, v, .int .i64 l] 40 (0, 0))
theorem LCx.lt {W : World} {b : Nat} {r l : Int} {v : Value} (h : LCx W b r v l) : b < W.heap.size := (Array.getElem?_eq_some_iff.1 h).1
theorem LCx.c0 {W : World} {b : Nat} {r l : Int} {v : Value} (h : LCx W b r v l) : W.cell? ⟨b, 0, none⟩ = some (.int .i64 r) := by unfold LCx at h; simp [World.cell?, h]
theorem LCx.c1 {W : World} {b : Nat} {r l : Int} {v : Value} (h : LCx W b r v l) : W.cell? ⟨b, 1, none⟩ = some v := by unfold LCx at h; simp [World.cell?, h]
theorem LCx.c2 {W : World} {b : Nat} {r l : Int} {v : Value} (h : LCx W b r v l) : W.cell? ⟨b, 2, none⟩ = some (.int .i64 l) := by unfold LCx at h; simp [World.cell?, h]
theorem LCx.ext {W W' : World} {b : Nat} {r l : Int} {v : Value} (h : LCx W b r v l) (e : Ext W W') : LCx W' b r v l := (e.block h.lt).trans h
theorem LCx.part {lo M : Nat} {W W' : World} {b : Nat} {r l : Int} {v : Value} (h : LCx W b r v l) (p : Part lo M W W') (hb : b < lo ∨ M ≤ b) : LCx W' b r v l := (p.block h.lt hb).trans h
theorem CBx.part {lo M : Nat} {W W' : World} {b : Nat} {r l : Int} {v : Value} (h : CBx W b r v l) (p : Part lo M W W') (hb : b < lo ∨ M ≤ b) : CBx W' b r v l := (p.block h.lt hb).trans h
theorem CO.open {lo : Nat} {w : World} {v : Value} {C : CV} (h : CO lo w v C) : ∃ a c, v = .agg #[.int .i64 C.room, .slice a C.L.length c, .int .i64 C.loads] := by
  obtain ⟨tv, rfl, h1, _⟩ := h
  obtain ⟨a, c, rfl, _⟩ := h1.form
  exact ⟨a, c, rfl⟩
theorem CR.wide {lo hi lo' hi' : Nat} {w : World} {v : Value} {C : CV} (h : CR lo hi w v C) (h1 : lo' ≤ lo) (h2 : hi ≤ hi') : CR lo' hi' w v C := by
  obtain ⟨tv, e, ⟨a, cap, g1, g2, g3, g4⟩, h3⟩ := h
  exact ⟨tv, e, ⟨a, cap, g1, g2, g3, fun i hi => by obtain ⟨k1, b, off, k2, k3, k4, k5⟩ := g4 i hi; exact ⟨k1, b, off, k2, by omega, by omega, k5⟩⟩, h3⟩
theorem CO.low {lo lo' : Nat} {w : World} {v : Value} {C : CV} (h : CO lo w v C) (hl : lo' ≤ lo) : CO lo' w v C := by
  obtain ⟨tv, h1, h2, h3⟩ := h
  exact ⟨tv, h1, h2.low hl, h3⟩
/-- what a region leaves that makes a box with a cache: the number, the box, the cache -/
structure Got (W w0 wx : World) (B : Nat) (a : Option Addr) (c : Nat) (D : CV) : Prop where
  ext : Ext W wx
  ext0 : Ext w0 wx
  low : w0.heap.size ≤ B
  box : CBx wx B D.room (.slice a D.L.length c) D.loads
  own : CO w0.heap.size wx (.agg #[.int .i64 D.room, .slice a D.L.length c, .int .i64 D.loads]) D
theorem Got.make {W w0 w1 : World} {B : Nat} {a : Option Addr} {c : Nat} {D : CV} {r l : Int} {v : Value} (e : Ext W w0) (e0 : Ext w0 w1) (hB : w0.heap.size ≤ B) (hb : CBx w1 B r v l)
    (ho : CO w0.heap.size w1 (.agg #[.int .i64 D.room, .slice a D.L.length c, .int .i64 D.loads]) D) :
    Got W w0 (((w1.setCell ⟨B, 0, none⟩ (.int .i64 D.room)).setCell ⟨B, 1, none⟩ (.slice a D.L.length c)).setCell ⟨B, 2, none⟩ (.int .i64 D.loads)) B a c D := by
  obtain ⟨tv, he, h1, h2, h3⟩ := ho
  simp only [Value.agg.injEq, Array.mk.injEq, List.cons.injEq, true_and, and_true] at he
  obtain rfl := he
  have hn := hb.ne h1
  have hx : Ext w0 (((w1.setCell ⟨B, 0, none⟩ (.int .i64 D.room)).setCell ⟨B, 1, none⟩ (.slice a D.L.length c)).setCell ⟨B, 2, none⟩ (.int .i64 D.loads)) := ((e0.setCell hB _).setCell hB _).setCell hB _
  exact ⟨e.trans hx, hx, hB, ((hb.set0 _).set1 _).set2 _, ⟨_, rfl, ((h1.setOther hn 0 _).setOther hn 1 _).setOther hn 2 _, h2, h3⟩⟩
theorem sCached_val {t : Tex} {C D : CV} {ua va l x : Int} (h : t.cachedN C ua va l = x ∧ t.cachedC C ua va l = D) (lo hi lo2 : Nat) (v cv : Value) (w : World) (hv : TexR lo hi w v t) (hh : hi ≤ w.heap.size) (hc : CO lo2 w cv C) (hL : C.L.length < 100000000) :
    Calls Try.prog 13 #[v, cv, .int .i64 ua, .int .i64 va, .int .i64 l] w fun e w' => ∃ a c, e = .returned (.tuple #[.int .i64 x, .agg #[.int .i64 D.room, .slice a D.L.length c, .int .i64 D.loads]]) ∧ CO w.heap.size w' (.agg #[.int .i64 D.room, .slice a D.L.length c, .int .i64 D.loads]) D ∧ Ext w w' := by
  obtain ⟨rfl, rfl⟩ := h
  refine (sCached_any lo hi lo2 v cv t C ua va l w hv hh hc hL).mono ?_
  rintro e w' ⟨r, rfl, ho, hx⟩
  obtain ⟨a, c, rfl⟩ := ho.open
  exact ⟨a, c, rfl, ho, hx⟩
theorem iCached_val {t : Tex} {C D : CV} {ua va l x : Int} (h : t.cachedN C ua va l = x ∧ t.cachedC C ua va l = D) (lo hi lo2 : Nat) (v cv : Value) (w : World) (hv : TexR lo hi w v t) (hh : hi ≤ w.heap.size) (hc : CO lo2 w cv C) (hL : C.L.length < 100000000) :
    Calls Try.prog 8 #[v, cv, .int .i64 ua, .int .i64 va, .int .i64 l] w fun e w' => ∃ a c, e = .returned (.tuple #[.int .i64 x, .agg #[.int .i64 D.room, .slice a D.L.length c, .int .i64 D.loads]]) ∧ CO w.heap.size w' (.agg #[.int .i64 D.room, .slice a D.L.length c, .int .i64 D.loads]) D ∧ Ext w w' := by
  obtain ⟨rfl, rfl⟩ := h
  refine (iCached_any lo hi lo2 v cv t C ua va l w hv hh hc hL).mono ?_
  rintro e w' ⟨r, rfl, ho, hx⟩
  obtain ⟨a, c, rfl⟩ := ho.open
  exact ⟨a, c, rfl, ho, hx⟩
theorem Tex.cachedC_len (t : Tex) (C : CV) (u v l : Int) : (t.cachedC C u v l).L.length ≤ C.L.length ∨ (t.cachedC C u v l).L.length ≤ 12 := by
  unfold Tex.cachedC
  split
  · rename_i h
    simp only [Bool.and_eq_true] at h
    have key : ∀ (l : List T3) (D : CV), D.L.length ≤ 12 → (D.uses l).L.length ≤ 12 := by
      intro l
      induction l with
      | nil => intro D h; exact h
      | cons x l ih => intro D h; exact ih _ (CV.use_len h)
    exact .inr (key _ _ (CV.ok_len h.2))
  · exact .inl (Nat.le_refl _)
theorem eqCache_own (lo hi lo' : Nat) (v v' : Value) (C : CV) (w : World) (hv : CR lo hi w v C) (hh : hi ≤ w.heap.size) (hv' : CO lo' w v' C) :
    Calls Try.prog 16 #[v', v] w fun e w' => e = .returned (.bool true) ∧ Ext w w' := eqCache_same lo' w.heap.size lo hi v' v C w hv'.R (Nat.le_refl _) hv hh

set_option maxRecDepth 20000 in
set_option maxHeartbeats 16000000 in
theorem lawCached (v : Value) (t : Tex) (cv : Value) (C : CV) (ua va l : Int) (W : World) (hv : TexR 0 W.heap.size W v t) (hc : CR 0 W.heap.size W cv C) (_hu : I64 ua) (_hw : I64 va) (_hl : I64 l) :
    Calls Try.prog 4 #[v, cv, .int .i64 ua, .int .i64 va, .int .i64 l] W fun e w' => e = .returned (.bool true) ∧ Ext W w' := by
  obtain ⟨u, rfl, hlog⟩ := hv.shape
  have HV := hid hv
  obtain ⟨cu, rfl, hcu, hcr, hcl⟩ := hc
  obtain ⟨ca, cc, rfl, _⟩ := Flats.open hcu
  rw [TLof_n] at *
  have HC := hid (show CR 0 W.heap.size W (.agg #[.int .i64 C.room, .slice ca C.L.length cc, .int .i64 C.loads]) C from ⟨_, rfl, hcu, hcr, hcl⟩)
  clear hv hcu
  obtain ⟨x, hx⟩ : ∃ x, t.cachedN C ua va l = x := ⟨_, rfl⟩
  obtain ⟨D, hD⟩ : ∃ x, t.cachedC C ua va l = x := ⟨_, rfl⟩
  have hDl := t.cachedC_len C ua va l
  rw [hD] at hDl
  have HX := hid (show t.cachedN C ua va l = x ∧ t.cachedC C ua va l = D from ⟨hx, hD⟩)
  clear hx hD
  by_cases hlen : t.px.length ≤ 1048576
  · have hs1 := hid (show szRes 1048576 t.px.length = 1048576 - t.px.length by unfold szRes; rw [if_neg (by omega)])
    by_cases hlen2 : t.px.length + C.L.length ≤ 1048576
    · have hs2 := hid (show szRes (1048576 - t.px.length) C.L.length = 1048576 - t.px.length - C.L.length by unfold szRes; rw [if_neg (by omega)])
      have hDk : D.L.length ≤ 1048576 := by omega
      obtain ⟨r1, hr1⟩ : ∃ r : Int, (1 + (t.px.length : Int)) + ((C.L.length * 3 : Nat) : Int) = r := ⟨_, rfl⟩
      obtain ⟨r2, hr2⟩ : ∃ r : Int, 1 + ((D.L.length * 3 : Nat) : Int) = r := ⟨_, rfl⟩
      have hr10 : 0 ≤ r1 := by omega
      have hr20 : 0 ≤ r2 := by omega
      have HR1 := hid hr1
      have HR2 := hid hr2
      clear hr1 hr2 hDl
      go_enter Try.func4, Try.ntmps4
      go_wp2_with fail
      refine (szTexture_val hs1.out 0 W.heap.size _ _ (HV.out.ext (Nat.le_refl _) (by repeat (with_reducible (first | assumption | exact Ext.refl _ | apply Ext.alloc | apply Ext.drew | apply Ext.drewN)))) (by simp; omega) (by decide) (by decide)).mono ?_
      rintro e w1 ⟨rfl, x1⟩
      have E1 : Ext W w1 := Ext.trans (by repeat (with_reducible (first | assumption | exact Ext.refl _ | apply Ext.alloc | apply Ext.drew | apply Ext.drewN))) x1
      have P1 := ((TBox.made W (.int .i64 t.log) u 37).ext ((Ext.refl _).alloc (.cells #[.int .i64 C.room, .slice ca C.L.length cc, .int .i64 C.loads] 40))).ext x1
      have L1 : LCx w1 (W.heap.size + 1) C.room (.slice ca C.L.length cc) C.loads := by
        refine LCx.ext ?_ x1
        have h := Go.Deep.blk_alloc_new (W.alloc (.cells #[.int .i64 t.log, u] 37)) (.cells #[.int .i64 C.room, .slice ca C.L.length cc, .int .i64 C.loads] 40)
        rw [World.size_alloc] at h
        exact h
      have zz1 := x1.size
      simp only [World.size_alloc] at zz1
      clear x1
      have p0 := P1.lt
      have p1 := P1.c0
      have p2 := P1.c1
      have q0 := L1.lt
      have q1 := L1.c0
      have q2 := L1.c1
      have q3 := L1.c2
      go_wp2_with fail
      refine (szCache_val hs2.out 0 W.heap.size _ _ (HC.out.ext (Nat.le_refl _) E1) E1.size (by omega) (by omega)).mono ?_
      rintro e w2 ⟨rfl, x2⟩
      have E2 := E1.trans x2
      have P2 := P1.ext x2
      have L2 := L1.ext x2
      have zz2 := x2.size
      have hn2 : ¬ ((1048576 : Int) - t.px.length - C.L.length < 0) := by omega
      clear p0 p1 p2 q0 q1 q2 q3 P1 L1 x2
      have p0 := P2.lt
      have p1 := P2.c0
      have p2 := P2.c1
      have q0 := L2.lt
      have q1 := L2.c0
      have q2 := L2.c1
      have q3 := L2.c2
      have HP2 := hid P2
      have HL2 := hid L2
      have s2 := E2.size
      clear P2 L2
      go_upto_region 8 with fail
      go_cut [12, 13] from 33 to 43 (fun n p wx => ∃ A a c, n = .int .i64 x ∧ p = .pointer (some ⟨A, 0, none⟩) ∧ Got W w2 wx A a c D)
      case first =>
        refine wp_region_Z 13 w2.heap.size (by kernel_rfl) ?_
        refine wpZ_stage (fuel := 8) [0, 2, 4, 5, 6] [1, 11] (by kernel_rfl) (fun b _ hb => rfl) ?_
        try simp only [Act.put, List.setIfInBounds_toArray, List.set_cons_succ, List.set_cons_zero]
        simp only [List.filterMap_cons, List.filterMap_nil, List.getElem?_toArray, List.getElem?_cons_zero, List.getElem?_cons_succ]
        show wpQuiet _ _ _ _ [_, _, _, _, _] _
        repeat (go_big_quiet_step (fail))
        refine wpQuiet_nil ?_
        intro e he
        simp only [List.mem_cons, List.not_mem_nil, or_false] at he
        rcases he with rfl | rfl
        · (unfold wpComes; simp only [List.getElem?_toArray, List.getElem?_cons_succ, List.getElem?_cons_zero, Option.some.injEq]; refine ⟨_, rfl, fun K hK => ?_⟩)
          go_wp2_with fail
          refine (toTexture_any 0 W.heap.size _ t _ (HV.out.ext (Nat.le_refl _) (E2.trans (Ext.drew (Ext.refl _)))) (E2.trans (Ext.drew (Ext.refl _))).size hlen).mono ?_
          rintro e a0 ⟨v0, rfl, O0, y0⟩
          have u0 : Ext w2 a0 := Ext.trans (by repeat (with_reducible (first | assumption | exact Ext.refl _ | apply Ext.alloc | apply Ext.drew | apply Ext.drewN))) y0
          obtain ⟨g0, h0, rfl, _⟩ := O0.form
          go_wp2_with fail
          refine hK _ _ (.inr (fun b _ hb => u0.block (by omega))) ?_
          clear hK K
          refine wpZ_stage (fuel := 7) [] [3, 11] (by kernel_rfl) (fun b _ hb => u0.block (by omega)) ?_
          refine wpQuiet_nil ?_
          intro e he
          simp only [List.mem_cons, List.not_mem_nil, or_false] at he
          rcases he with rfl | rfl
          · (unfold wpComes; simp only [List.getElem?_toArray, List.getElem?_cons_succ, List.getElem?_cons_zero, Option.some.injEq]; refine ⟨_, rfl, fun K hK => ?_⟩)
            go_wp2_with fail
            refine (toCache_any 0 W.heap.size _ C _ (HC.out.ext (Nat.le_refl _) (E2.trans u0)) (E2.trans u0).size (by omega)).mono ?_
            rintro e a01 ⟨v01, rfl, Q01, y01⟩
            have u01 : Ext w2 a01 := u0.trans y01
            have O01 := O0.ext y01
            obtain ⟨m01, n01, rfl⟩ := Q01.open
            go_wp2_with fail
            refine hK _ _ (.inr (fun b _ hb => u01.block (by omega))) ?_
            clear hK K
            refine wpZ_stage (fuel := 6) [] [7, 11] (by kernel_rfl) (fun b _ hb => u01.block (by omega)) ?_
            refine wpQuiet_nil ?_
            intro e he
            simp only [List.mem_cons, List.not_mem_nil, or_false] at he
            rcases he with rfl | rfl
            · (unfold wpComes; simp only [List.getElem?_toArray, List.getElem?_cons_succ, List.getElem?_cons_zero, Option.some.injEq]; refine ⟨_, rfl, fun K hK => ?_⟩)
              go_wp2_with fail
              have Z012 := u01.size
              refine (sCached_val HX.out _ _ _ _ _ _ O01.tex (Nat.le_refl _) Q01 (by omega)).mono ?_
              rintro e a012 ⟨k012, j012, rfl, S012, y012⟩
              have u012 : Ext w2 a012 := u01.trans y012
              have O012 := O01.ext y012
              have Q012 := Q01.ext y012
              go_wp2_with fail
              refine hK _ _ (.inr (fun b _ hb => u012.block (by omega))) ?_
              clear hK K
              refine wpZ_stage (fuel := 2) [8, 9, 10] [11] (by kernel_rfl) (fun b _ hb => u012.block (by omega)) ?_
              try simp only [Act.put, List.setIfInBounds_toArray, List.set_cons_succ, List.set_cons_zero]
              simp only [List.filterMap_cons, List.filterMap_nil, List.getElem?_toArray, List.getElem?_cons_zero, List.getElem?_cons_succ]
              show wpQuiet _ _ _ _ [_, _, _] _
              repeat (go_big_quiet_step (fail))
              refine wpQuiet_nil ?_
              intro e he
              simp only [List.mem_cons, List.not_mem_nil, or_false] at he
              subst he
              (unfold wpComes; simp only [List.getElem?_toArray, List.getElem?_cons_succ, List.getElem?_cons_zero, Option.some.injEq]; refine ⟨_, rfl, fun K hK => ?_⟩)
              go_wp2
              have hA012A : w2.heap.size ≤ a012.heap.size := u012.size
              refine hK _ _ (.inr (fun b _ hb => (Ext.block (w := a012) (by repeat (with_reducible (first | assumption | exact Ext.refl _ | apply Ext.alloc | apply Ext.drew | apply Ext.drewN))) (by omega)).trans (u012.block (by omega)))) ?_
              clear hK K
              have yy012A : Ext a012 (a012.alloc (.cells #[.int .i64 0, .slice none 0 0, .int .i64 0] 29)) := (by repeat (with_reducible (first | assumption | exact Ext.refl _ | apply Ext.alloc | apply Ext.drew | apply Ext.drewN)))
              have b012A : CBx (a012.alloc (.cells #[.int .i64 0, .slice none 0 0, .int .i64 0] 29)) (a012.heap.size) 0 (.slice none 0 0) 0 := CBx.made a012 0 0 (.slice none 0 0)
              obtain ⟨d012A, hd012A⟩ : ∃ d, a012.alloc (.cells #[.int .i64 0, .slice none 0 0, .int .i64 0] 29) = d := ⟨_, rfl⟩
              rw [hd012A] at yy012A b012A ⊢
              have u012A : Ext w2 d012A := u012.trans yy012A
              have O012A := O012.ext yy012A
              have Q012A := Q012.ext yy012A
              have S012A := S012.ext yy012A
              clear hd012A
              refine wpZ_stage (fuel := 0) [12] [13] (by kernel_rfl) (fun b _ hb => u012A.block (by omega)) ?_
              try simp only [Act.put, List.setIfInBounds_toArray, List.set_cons_succ, List.set_cons_zero]
              simp only [List.filterMap_cons, List.filterMap_nil, List.getElem?_toArray, List.getElem?_cons_zero, List.getElem?_cons_succ]
              show wpQuiet _ _ _ _ [_] _
              repeat (go_big_quiet_step (fail))
              refine wpQuiet_nil ?_
              intro e he
              simp only [List.mem_cons, List.not_mem_nil, or_false] at he
              subst he
              (unfold wpComes; simp only [List.getElem?_toArray, List.getElem?_cons_succ, List.getElem?_cons_zero, Option.some.injEq]; refine ⟨_, rfl, fun K hK => ?_⟩)
              have f0 := b012A.fz 0
              have f1 := b012A.fz 1
              have f2 := b012A.fz 2
              have g0 := b012A.c0
              have g1 := b012A.c1
              have g2 := b012A.c2
              go_wp2
              refine hK _ _ (.inl (by trivial)) ?_
              clear hK K
              refine wpZ_end (by kernel_rfl) ?_
              go_wp2_with fail
              go_meet
              exact ⟨_, _, _, rfl, rfl, Got.make E2 u012A (by omega) b012A (S012A.low (by omega))⟩
            · (unfold wpComes; simp only [List.getElem?_toArray, List.getElem?_cons_succ, List.getElem?_cons_zero, Option.some.injEq]; refine ⟨_, rfl, fun K hK => ?_⟩)
              go_wp2
              have hA01A : w2.heap.size ≤ a01.heap.size := u01.size
              refine hK _ _ (.inr (fun b _ hb => (Ext.block (w := a01) (by repeat (with_reducible (first | assumption | exact Ext.refl _ | apply Ext.alloc | apply Ext.drew | apply Ext.drewN))) (by omega)).trans (u01.block (by omega)))) ?_
              clear hK K
              have yy01A : Ext a01 (a01.alloc (.cells #[.int .i64 0, .slice none 0 0, .int .i64 0] 29)) := (by repeat (with_reducible (first | assumption | exact Ext.refl _ | apply Ext.alloc | apply Ext.drew | apply Ext.drewN)))
              have b01A : CBx (a01.alloc (.cells #[.int .i64 0, .slice none 0 0, .int .i64 0] 29)) (a01.heap.size) 0 (.slice none 0 0) 0 := CBx.made a01 0 0 (.slice none 0 0)
              obtain ⟨d01A, hd01A⟩ : ∃ d, a01.alloc (.cells #[.int .i64 0, .slice none 0 0, .int .i64 0] 29) = d := ⟨_, rfl⟩
              rw [hd01A] at yy01A b01A ⊢
              have u01A : Ext w2 d01A := u01.trans yy01A
              have O01A := O01.ext yy01A
              have Q01A := Q01.ext yy01A
              clear hd01A
              refine wpZ_stage (fuel := 5) [] [7] (by kernel_rfl) (fun b _ hb => u01A.block (by omega)) ?_
              refine wpQuiet_nil ?_
              intro e he
              simp only [List.mem_cons, List.not_mem_nil, or_false] at he
              subst he
              (unfold wpComes; simp only [List.getElem?_toArray, List.getElem?_cons_succ, List.getElem?_cons_zero, Option.some.injEq]; refine ⟨_, rfl, fun K hK => ?_⟩)
              go_wp2_with fail
              have Z01A2 := u01A.size
              refine (sCached_val HX.out _ _ _ _ _ _ O01A.tex (Nat.le_refl _) Q01A (by omega)).mono ?_
              rintro e a01A2 ⟨k01A2, j01A2, rfl, S01A2, y01A2⟩
              have u01A2 : Ext w2 a01A2 := u01A.trans y01A2
              have O01A2 := O01A.ext y01A2
              have Q01A2 := Q01A.ext y01A2
              have b01A2 := b01A.ext y01A2
              go_wp2_with fail
              refine hK _ _ (.inr (fun b _ hb => u01A2.block (by omega))) ?_
              clear hK K
              refine wpZ_stage (fuel := 0) [8, 9, 10, 12] [13] (by kernel_rfl) (fun b _ hb => u01A2.block (by omega)) ?_
              try simp only [Act.put, List.setIfInBounds_toArray, List.set_cons_succ, List.set_cons_zero]
              simp only [List.filterMap_cons, List.filterMap_nil, List.getElem?_toArray, List.getElem?_cons_zero, List.getElem?_cons_succ]
              show wpQuiet _ _ _ _ [_, _, _, _] _
              repeat (go_big_quiet_step (fail))
              refine wpQuiet_nil ?_
              intro e he
              simp only [List.mem_cons, List.not_mem_nil, or_false] at he
              subst he
              (unfold wpComes; simp only [List.getElem?_toArray, List.getElem?_cons_succ, List.getElem?_cons_zero, Option.some.injEq]; refine ⟨_, rfl, fun K hK => ?_⟩)
              have f0 := b01A2.fz 0
              have f1 := b01A2.fz 1
              have f2 := b01A2.fz 2
              have g0 := b01A2.c0
              have g1 := b01A2.c1
              have g2 := b01A2.c2
              go_wp2
              refine hK _ _ (.inl (by trivial)) ?_
              clear hK K
              refine wpZ_end (by kernel_rfl) ?_
              go_wp2_with fail
              go_meet
              exact ⟨_, _, _, rfl, rfl, Got.make E2 u01A2 (by omega) b01A2 (S01A2.low (by omega))⟩
          · (unfold wpComes; simp only [List.getElem?_toArray, List.getElem?_cons_succ, List.getElem?_cons_zero, Option.some.injEq]; refine ⟨_, rfl, fun K hK => ?_⟩)
            go_wp2
            have hA0A : w2.heap.size ≤ a0.heap.size := u0.size
            refine hK _ _ (.inr (fun b _ hb => (Ext.block (w := a0) (by repeat (with_reducible (first | assumption | exact Ext.refl _ | apply Ext.alloc | apply Ext.drew | apply Ext.drewN))) (by omega)).trans (u0.block (by omega)))) ?_
            clear hK K
            have yy0A : Ext a0 (a0.alloc (.cells #[.int .i64 0, .slice none 0 0, .int .i64 0] 29)) := (by repeat (with_reducible (first | assumption | exact Ext.refl _ | apply Ext.alloc | apply Ext.drew | apply Ext.drewN)))
            have b0A : CBx (a0.alloc (.cells #[.int .i64 0, .slice none 0 0, .int .i64 0] 29)) (a0.heap.size) 0 (.slice none 0 0) 0 := CBx.made a0 0 0 (.slice none 0 0)
            obtain ⟨d0A, hd0A⟩ : ∃ d, a0.alloc (.cells #[.int .i64 0, .slice none 0 0, .int .i64 0] 29) = d := ⟨_, rfl⟩
            rw [hd0A] at yy0A b0A ⊢
            have u0A : Ext w2 d0A := u0.trans yy0A
            have O0A := O0.ext yy0A
            clear hd0A
            refine wpZ_stage (fuel := 6) [] [3] (by kernel_rfl) (fun b _ hb => u0A.block (by omega)) ?_
            refine wpQuiet_nil ?_
            intro e he
            simp only [List.mem_cons, List.not_mem_nil, or_false] at he
            subst he
            (unfold wpComes; simp only [List.getElem?_toArray, List.getElem?_cons_succ, List.getElem?_cons_zero, Option.some.injEq]; refine ⟨_, rfl, fun K hK => ?_⟩)
            go_wp2_with fail
            refine (toCache_any 0 W.heap.size _ C _ (HC.out.ext (Nat.le_refl _) (E2.trans u0A)) (E2.trans u0A).size (by omega)).mono ?_
            rintro e a0A1 ⟨v0A1, rfl, Q0A1, y0A1⟩
            have u0A1 : Ext w2 a0A1 := u0A.trans y0A1
            have O0A1 := O0A.ext y0A1
            have b0A1 := b0A.ext y0A1
            obtain ⟨m0A1, n0A1, rfl⟩ := Q0A1.open
            go_wp2_with fail
            refine hK _ _ (.inr (fun b _ hb => u0A1.block (by omega))) ?_
            clear hK K
            refine wpZ_stage (fuel := 5) [] [7] (by kernel_rfl) (fun b _ hb => u0A1.block (by omega)) ?_
            refine wpQuiet_nil ?_
            intro e he
            simp only [List.mem_cons, List.not_mem_nil, or_false] at he
            subst he
            (unfold wpComes; simp only [List.getElem?_toArray, List.getElem?_cons_succ, List.getElem?_cons_zero, Option.some.injEq]; refine ⟨_, rfl, fun K hK => ?_⟩)
            go_wp2_with fail
            have Z0A12 := u0A1.size
            refine (sCached_val HX.out _ _ _ _ _ _ O0A1.tex (Nat.le_refl _) Q0A1 (by omega)).mono ?_
            rintro e a0A12 ⟨k0A12, j0A12, rfl, S0A12, y0A12⟩
            have u0A12 : Ext w2 a0A12 := u0A1.trans y0A12
            have O0A12 := O0A1.ext y0A12
            have Q0A12 := Q0A1.ext y0A12
            have b0A12 := b0A1.ext y0A12
            go_wp2_with fail
            refine hK _ _ (.inr (fun b _ hb => u0A12.block (by omega))) ?_
            clear hK K
            refine wpZ_stage (fuel := 0) [8, 9, 10, 12] [13] (by kernel_rfl) (fun b _ hb => u0A12.block (by omega)) ?_
            try simp only [Act.put, List.setIfInBounds_toArray, List.set_cons_succ, List.set_cons_zero]
            simp only [List.filterMap_cons, List.filterMap_nil, List.getElem?_toArray, List.getElem?_cons_zero, List.getElem?_cons_succ]
            show wpQuiet _ _ _ _ [_, _, _, _] _
            repeat (go_big_quiet_step (fail))
            refine wpQuiet_nil ?_
            intro e he
            simp only [List.mem_cons, List.not_mem_nil, or_false] at he
            subst he
            (unfold wpComes; simp only [List.getElem?_toArray, List.getElem?_cons_succ, List.getElem?_cons_zero, Option.some.injEq]; refine ⟨_, rfl, fun K hK => ?_⟩)
            have f0 := b0A12.fz 0
            have f1 := b0A12.fz 1
            have f2 := b0A12.fz 2
            have g0 := b0A12.c0
            have g1 := b0A12.c1
            have g2 := b0A12.c2
            go_wp2
            refine hK _ _ (.inl (by trivial)) ?_
            clear hK K
            refine wpZ_end (by kernel_rfl) ?_
            go_wp2_with fail
            go_meet
            exact ⟨_, _, _, rfl, rfl, Got.make E2 u0A12 (by omega) b0A12 (S0A12.low (by omega))⟩
        · (unfold wpComes; simp only [List.getElem?_toArray, List.getElem?_cons_succ, List.getElem?_cons_zero, Option.some.injEq]; refine ⟨_, rfl, fun K hK => ?_⟩)
          go_wp2
          have hAA : w2.heap.size ≤ w2.heap.size := Nat.le_refl _
          refine hK _ _ (.inr (fun b _ hb => Ext.block (w := w2) (by repeat (with_reducible (first | assumption | exact Ext.refl _ | apply Ext.alloc | apply Ext.drew | apply Ext.drewN))) (by omega))) ?_
          clear hK K
          have yyA : Ext w2 ((w2.alloc (.cells #[.int .i64 0, .slice none 0 0, .int .i64 0] 29)).drew) := (by repeat (with_reducible (first | assumption | exact Ext.refl _ | apply Ext.alloc | apply Ext.drew | apply Ext.drewN)))
          have bA : CBx ((w2.alloc (.cells #[.int .i64 0, .slice none 0 0, .int .i64 0] 29)).drew) (w2.heap.size) 0 (.slice none 0 0) 0 := (CBx.made w2 0 0 (.slice none 0 0)).ext (Ext.drew (Ext.refl _))
          obtain ⟨dA, hdA⟩ : ∃ d, (w2.alloc (.cells #[.int .i64 0, .slice none 0 0, .int .i64 0] 29)).drew = d := ⟨_, rfl⟩
          rw [hdA] at yyA bA ⊢
          have uA : Ext w2 dA := yyA
          clear hdA
          refine wpZ_stage (fuel := 7) [] [1] (by kernel_rfl) (fun b _ hb => uA.block (by omega)) ?_
          refine wpQuiet_nil ?_
          intro e he
          simp only [List.mem_cons, List.not_mem_nil, or_false] at he
          subst he
          (unfold wpComes; simp only [List.getElem?_toArray, List.getElem?_cons_succ, List.getElem?_cons_zero, Option.some.injEq]; refine ⟨_, rfl, fun K hK => ?_⟩)
          go_wp2_with fail
          refine (toTexture_any 0 W.heap.size _ t _ (HV.out.ext (Nat.le_refl _) (E2.trans uA)) (E2.trans uA).size hlen).mono ?_
          rintro e aA0 ⟨vA0, rfl, OA0, yA0⟩
          have uA0 : Ext w2 aA0 := uA.trans yA0
          have bA0 := bA.ext yA0
          obtain ⟨gA0, hA0, rfl, _⟩ := OA0.form
          go_wp2_with fail
          refine hK _ _ (.inr (fun b _ hb => uA0.block (by omega))) ?_
          clear hK K
          refine wpZ_stage (fuel := 6) [] [3] (by kernel_rfl) (fun b _ hb => uA0.block (by omega)) ?_
          refine wpQuiet_nil ?_
          intro e he
          simp only [List.mem_cons, List.not_mem_nil, or_false] at he
          subst he
          (unfold wpComes; simp only [List.getElem?_toArray, List.getElem?_cons_succ, List.getElem?_cons_zero, Option.some.injEq]; refine ⟨_, rfl, fun K hK => ?_⟩)
          go_wp2_with fail
          refine (toCache_any 0 W.heap.size _ C _ (HC.out.ext (Nat.le_refl _) (E2.trans uA0)) (E2.trans uA0).size (by omega)).mono ?_
          rintro e aA01 ⟨vA01, rfl, QA01, yA01⟩
          have uA01 : Ext w2 aA01 := uA0.trans yA01
          have OA01 := OA0.ext yA01
          have bA01 := bA0.ext yA01
          obtain ⟨mA01, nA01, rfl⟩ := QA01.open
          go_wp2_with fail
          refine hK _ _ (.inr (fun b _ hb => uA01.block (by omega))) ?_
          clear hK K
          refine wpZ_stage (fuel := 5) [] [7] (by kernel_rfl) (fun b _ hb => uA01.block (by omega)) ?_
          refine wpQuiet_nil ?_
          intro e he
          simp only [List.mem_cons, List.not_mem_nil, or_false] at he
          subst he
          (unfold wpComes; simp only [List.getElem?_toArray, List.getElem?_cons_succ, List.getElem?_cons_zero, Option.some.injEq]; refine ⟨_, rfl, fun K hK => ?_⟩)
          go_wp2_with fail
          have ZA012 := uA01.size
          refine (sCached_val HX.out _ _ _ _ _ _ OA01.tex (Nat.le_refl _) QA01 (by omega)).mono ?_
          rintro e aA012 ⟨kA012, jA012, rfl, SA012, yA012⟩
          have uA012 : Ext w2 aA012 := uA01.trans yA012
          have OA012 := OA01.ext yA012
          have QA012 := QA01.ext yA012
          have bA012 := bA01.ext yA012
          go_wp2_with fail
          refine hK _ _ (.inr (fun b _ hb => uA012.block (by omega))) ?_
          clear hK K
          refine wpZ_stage (fuel := 0) [8, 9, 10, 12] [13] (by kernel_rfl) (fun b _ hb => uA012.block (by omega)) ?_
          try simp only [Act.put, List.setIfInBounds_toArray, List.set_cons_succ, List.set_cons_zero]
          simp only [List.filterMap_cons, List.filterMap_nil, List.getElem?_toArray, List.getElem?_cons_zero, List.getElem?_cons_succ]
          show wpQuiet _ _ _ _ [_, _, _, _] _
          repeat (go_big_quiet_step (fail))
          refine wpQuiet_nil ?_
          intro e he
          simp only [List.mem_cons, List.not_mem_nil, or_false] at he
          subst he
          (unfold wpComes; simp only [List.getElem?_toArray, List.getElem?_cons_succ, List.getElem?_cons_zero, Option.some.injEq]; refine ⟨_, rfl, fun K hK => ?_⟩)
          have f0 := bA012.fz 0
          have f1 := bA012.fz 1
          have f2 := bA012.fz 2
          have g0 := bA012.c0
          have g1 := bA012.c1
          have g2 := bA012.c2
          go_wp2
          refine hK _ _ (.inl (by trivial)) ?_
          clear hK K
          refine wpZ_end (by kernel_rfl) ?_
          go_wp2_with fail
          go_meet
          exact ⟨_, _, _, rfl, rfl, Got.make E2 uA012 (by omega) bA012 (SA012.low (by omega))⟩
      case rest =>
        obtain ⟨A, sa, sc, rfl, rfl, got⟩ := hcut
        have E3 := got.ext
        have P3 := HP2.out.ext got.ext0
        have L3 := HL2.out.ext got.ext0
        have A3 := got.box
        have S3 := got.own.R
        have z3 := got.ext0.size
        clear got p0 p1 p2 q0 q1 q2 q3 HP2 HL2
        have al := A3.lt
        -- x0
        have p0 := P3.lt
        have p1 := P3.c0
        have p2 := P3.c1
        go_wp2_with fail
        refine (toTexture_any 0 W.heap.size _ t _ (HV.out.ext (Nat.le_refl _) E3) E3.size hlen).mono ?_
        rintro e w4 ⟨v4, rfl, O4, x4⟩
        obtain ⟨a4, c4, rfl, _⟩ := O4.form
        have E4 := E3.trans x4
        have P4 := P3.ext x4
        have L4 := L3.ext x4
        have A4 := A3.ext x4
        have S4 := S3.ext (Nat.le_refl _) x4
        have z4 := x4.size
        clear p0 p1 p2 P3 L3 A3 S3 x4
        -- x1
        have q0 := L4.lt
        have q1 := L4.c0
        have q2 := L4.c1
        have q3 := L4.c2
        go_wp2_with fail
        have e4 : Ext w4 (w4.alloc (.cells #[.int .i64 t.log, .slice a4 t.px.length c4] 25)) := (by repeat (with_reducible (first | assumption | exact Ext.refl _ | apply Ext.alloc | apply Ext.drew | apply Ext.drewN)))
        refine (toCache_any 0 W.heap.size _ C _ (HC.out.ext (Nat.le_refl _) (E4.trans e4)) (E4.trans e4).size (by omega)).mono ?_
        rintro e w5 ⟨v5, rfl, Q5, x5⟩
        obtain ⟨qa, qc, rfl⟩ := Q5.open
        have y5 := e4.trans x5
        have E5 := E4.trans y5
        have P5 := P4.ext y5
        have L5 := L4.ext y5
        have A5 := A4.ext y5
        have S5 := S4.ext (by omega) y5
        have O5 := O4.ext y5
        have B5 := (TBox.made w4 (.int .i64 t.log) (.slice a4 t.px.length c4) 25).ext x5
        have z5 := x5.size
        simp only [World.size_alloc] at z5
        clear q0 q1 q2 q3 P4 L4 A4 S4 x5 y5 e4
        -- the program
        have b0 := B5.lt
        have b1 := B5.c0
        have b2 := B5.c1
        go_wp2_with fail
        have e5 : Ext w5 (w5.alloc (.cells #[.int .i64 C.room, .slice qa C.L.length qc, .int .i64 C.loads] 29)) := (by repeat (with_reducible (first | assumption | exact Ext.refl _ | apply Ext.alloc | apply Ext.drew | apply Ext.drewN)))
        refine (iCached_val HX.out _ _ _ _ _ _ (O5.ext e5).tex (Nat.le_refl _) (Q5.ext e5) (by omega)).mono ?_
        rintro e w6 ⟨ga, gc, rfl, G6, x6⟩
        have y6 := e5.trans x6
        have E6 := E5.trans y6
        have P6 := P5.ext y6
        have L6 := L5.ext y6
        have A6 := A5.ext y6
        have S6 := S5.ext (by omega) y6
        have O6 := O5.ext y6
        have B6 := B5.ext y6
        have Q6 := Q5.ext y6
        have K6 := (CBx.made w5 C.room C.loads (.slice qa C.L.length qc)).ext x6
        have hGU := hid G6.under
        have z6 := x6.size
        simp only [World.size_alloc] at z6
        clear b0 b1 b2 P5 L5 A5 S5 B5 x6 y6 e5
        -- the comparison of the results
        have a0 := A6.lt
        have a1 := A6.c0
        have a2 := A6.c1
        have a3 := A6.c2
        go_upto_region 12 with fail
        have e6 : Ext w6 (w6.alloc (.cells #[.int .i64 D.room, .slice ga D.L.length gc, .int .i64 D.loads] 29)) := (by repeat (with_reducible (first | assumption | exact Ext.refl _ | apply Ext.alloc | apply Ext.drew | apply Ext.drewN)))
        have N6 := CBx.made w6 D.room D.loads (.slice ga D.L.length gc)
        have S7 := S6.ext (by omega) e6
        have E7 := E6.trans e6
        have P7 := P6.ext e6
        have L7 := L6.ext e6
        have A7 := A6.ext e6
        have O7 := O6.ext e6
        have B7 := B6.ext e6
        have Q7 := Q6.ext e6
        have K7 := K6.ext e6
        have G7 := G6.ext e6
        have z7 : (w6.alloc (.cells #[.int .i64 D.room, .slice ga D.L.length gc, .int .i64 D.loads] 29)).heap.size = w6.heap.size + 1 := by simp
        obtain ⟨w7, hw7⟩ : ∃ X, w6.alloc (.cells #[.int .i64 D.room, .slice ga D.L.length gc, .int .i64 D.loads] 29) = X := ⟨_, rfl⟩
        rw [hw7] at N6 S7 E7 P7 L7 A7 O7 B7 Q7 K7 G7 z7 ⊢
        clear hw7 a0 a1 a2 a3 P6 L6 A6 S6 O6 B6 Q6 K6 G6 e6
        have a0 := A7.lt
        have a1 := A7.c0
        have a2 := A7.c1
        have a3 := A7.c2
        have n0 := N6.lt
        have n1 := N6.c0
        have n2 := N6.c1
        have n3 := N6.c2
        go_wp2_with fail
        refine (eqCache_own _ _ _ _ _ D _ S7 (by omega) G7).mono ?_
        rintro e w8 ⟨rfl, x8⟩
        have E8 := E7.trans x8
        have P8 := P7.ext x8
        have L8 := L7.ext x8
        have A8 := A7.ext x8
        have S8 := S7.ext (by omega) x8
        have O8 := O7.ext x8
        have B8 := B7.ext x8
        have Q8 := Q7.ext x8
        have K8 := K7.ext x8
        have G8 := G7.ext x8
        have N8 := N6.ext x8
        have z8 := x8.size
        clear a0 a1 a2 a3 n0 n1 n2 n3 P7 L7 A7 S7 O7 B7 Q7 K7 G7 N6 x8
        -- x0 is as it was
        have p0 := P8.lt
        have p1 := P8.c0
        have p2 := P8.c1
        have b0 := B8.lt
        have b1 := B8.c0
        have b2 := B8.c1
        go_wp2_with fail
        refine wp_region_stages [([0, 1], 2), ([], 3), ([], 4)] 99 w8.heap.size (by kernel_rfl) (by kernel_rfl) ?_
        refine wpStages_cons ?_
        simp only [List.filterMap_cons, List.filterMap_nil, List.getElem?_toArray, List.getElem?_cons_zero, List.getElem?_cons_succ]
        show wpQuiet _ _ _ _ [_, _] _
        repeat (go_big_quiet_step (fail))
        refine wpQuiet_nil ⟨_, rfl, fun K hK => ?_⟩
        go_wp2_with fail
        refine (toTexture_any 0 W.heap.size _ t _ (HV.out.ext (Nat.le_refl _) (E8.trans (by repeat (with_reducible (first | assumption | exact Ext.refl _ | apply Ext.alloc | apply Ext.drew | apply Ext.drewN))))) (E8.trans (by repeat (with_reducible (first | assumption | exact Ext.refl _ | apply Ext.alloc | apply Ext.drew | apply Ext.drewN)))).size hlen).mono ?_
        rintro e w9 ⟨vw9, rfl, Ow9, xw9⟩
        have yw9 : Ext w8 w9 := Ext.trans (by repeat (with_reducible (first | assumption | exact Ext.refl _ | apply Ext.alloc | apply Ext.drew | apply Ext.drewN))) xw9
        go_wp2_with fail
        refine hK _ _ (.inr (yw9.same (Nat.le_refl _))) ?_
        clear hK K
        refine wpStages_cons ?_
        simp only [List.filterMap_nil]
        show wpQuiet _ _ _ _ [] _
        try simp only [Act.put, List.getElem_toArray, List.getElem_cons_succ, List.getElem_cons_zero, List.setIfInBounds_toArray, List.set_cons_succ, List.set_cons_zero]
        refine wpQuiet_nil ⟨_, rfl, fun K hK => ?_⟩
        go_wp2_with fail
        refine (eqTexture_same _ _ _ _ _ _ t _ ((O8.ext yw9).tex) (Nat.le_refl _) (Ow9.tex) (Nat.le_refl _)).mono ?_
        rintro e w10 ⟨rfl, xw10⟩
        have yw10 : Ext w8 w10 := yw9.trans xw10
        go_wp2_with fail
        refine hK _ _ (.inr (yw10.same (Nat.le_refl _))) ?_
        clear hK K
        refine wpStages_cons ?_
        simp only [List.filterMap_nil]
        show wpQuiet _ _ _ _ [] _
        try simp only [Act.put, List.getElem_toArray, List.getElem_cons_succ, List.getElem_cons_zero, List.setIfInBounds_toArray, List.set_cons_succ, List.set_cons_zero]
        refine wpQuiet_nil ⟨_, rfl, fun K hK => ?_⟩
        go_wp2_with fail
        refine hK _ _ (.inr (yw10.same (Nat.le_refl _))) ?_
        clear hK K
        refine wpStages_nil ?_
        have E10 := E8.trans yw10
        have P10 := P8.ext yw10
        have L10 := L8.ext yw10
        have A10 := A8.ext yw10
        have B10 := B8.ext yw10
        have K10 := K8.ext yw10
        have N10 := N8.ext yw10
        have S10 := S8.ext (by omega) yw10
        have O10 := O8.ext yw10
        have Q10 := Q8.ext yw10
        have G10 := G8.ext yw10
        have z10 := (yw10).size
        clear P8 L8 A8 S8 B8 K8 N8 O8 Q8 G8 E8
        clear p0 p1 p2 b0 b1 b2 xw9 xw10 yw9 yw10 Ow9
        -- x1 is as it was
        have q0 := L10.lt
        have q1 := L10.c0
        have q2 := L10.c1
        have q3 := L10.c2
        have k0 := K10.lt
        have k1 := K10.c0
        have k2 := K10.c1
        have k3 := K10.c2
        go_wp2_with fail
        refine wp_region_stages [([0, 1], 2), ([], 3), ([], 4)] 99 w10.heap.size (by kernel_rfl) (by kernel_rfl) ?_
        refine wpStages_cons ?_
        simp only [List.filterMap_cons, List.filterMap_nil, List.getElem?_toArray, List.getElem?_cons_zero, List.getElem?_cons_succ]
        show wpQuiet _ _ _ _ [_, _] _
        repeat (go_big_quiet_step (fail))
        refine wpQuiet_nil ⟨_, rfl, fun K hK => ?_⟩
        go_wp2_with fail
        refine (toCache_any 0 W.heap.size _ C _ (HC.out.ext (Nat.le_refl _) (E10.trans (by repeat (with_reducible (first | assumption | exact Ext.refl _ | apply Ext.alloc | apply Ext.drew | apply Ext.drewN))))) (E10.trans (by repeat (with_reducible (first | assumption | exact Ext.refl _ | apply Ext.alloc | apply Ext.drew | apply Ext.drewN)))).size (by omega)).mono ?_
        rintro e w11 ⟨vw11, rfl, Ow11, xw11⟩
        have yw11 : Ext w10 w11 := Ext.trans (by repeat (with_reducible (first | assumption | exact Ext.refl _ | apply Ext.alloc | apply Ext.drew | apply Ext.drewN))) xw11
        go_wp2_with fail
        refine hK _ _ (.inr (yw11.same (Nat.le_refl _))) ?_
        clear hK K
        refine wpStages_cons ?_
        simp only [List.filterMap_nil]
        show wpQuiet _ _ _ _ [] _
        try simp only [Act.put, List.getElem_toArray, List.getElem_cons_succ, List.getElem_cons_zero, List.setIfInBounds_toArray, List.set_cons_succ, List.set_cons_zero]
        refine wpQuiet_nil ⟨_, rfl, fun K hK => ?_⟩
        go_wp2_with fail
        refine (eqCache_same _ _ _ _ _ _ C _ ((Q10.ext yw11).R) (Nat.le_refl _) (Ow11.R) (Nat.le_refl _)).mono ?_
        rintro e w12 ⟨rfl, xw12⟩
        have yw12 : Ext w10 w12 := yw11.trans xw12
        go_wp2_with fail
        refine hK _ _ (.inr (yw12.same (Nat.le_refl _))) ?_
        clear hK K
        refine wpStages_cons ?_
        simp only [List.filterMap_nil]
        show wpQuiet _ _ _ _ [] _
        try simp only [Act.put, List.getElem_toArray, List.getElem_cons_succ, List.getElem_cons_zero, List.setIfInBounds_toArray, List.set_cons_succ, List.set_cons_zero]
        refine wpQuiet_nil ⟨_, rfl, fun K hK => ?_⟩
        go_wp2_with fail
        refine hK _ _ (.inr (yw12.same (Nat.le_refl _))) ?_
        clear hK K
        refine wpStages_nil ?_
        have E12 := E10.trans yw12
        have P12 := P10.ext yw12
        have L12 := L10.ext yw12
        have A12 := A10.ext yw12
        have B12 := B10.ext yw12
        have K12 := K10.ext yw12
        have N12 := N10.ext yw12
        have S12 := S10.ext (by omega) yw12
        have O12 := O10.ext yw12
        have Q12 := Q10.ext yw12
        have G12 := G10.ext yw12
        have z12 := (yw12).size
        clear P10 L10 A10 S10 B10 K10 N10 O10 Q10 G10 E10
        clear q0 q1 q2 q3 k0 k1 k2 k3 xw11 xw12 yw11 yw12 Ow11
        -- the marks
        have b0 := B12.lt
        have b1 := B12.c0
        have b2 := B12.c1
        go_wp2_with fail
        refine (markTexture_in _ w4.heap.size _ t _ O12 O4.under (by omega) hlen).mono ?_
        rintro e w13 ⟨rfl, -, p13⟩
        have E13 := p13.ext E12 (by omega)
        have P13 := p13.box P12 (.inl (by omega))
        have L13 := L12.part p13 (.inl (by omega))
        have A13 := A12.part p13 (.inl (by omega))
        have S13 := S12.same (w' := w13) (fun b _ hb => p13.low.block b (by omega))
        have K13 := K12.part p13 (.inr (by omega))
        have N13 := N12.part p13 (.inr (by omega))
        have Q13 := Q12.kept (w' := w13) (fun b hb hb' => p13.high b (by simp at hb; omega) hb')
        have G13 := G12.kept (w' := w13) (fun b hb hb' => p13.high b (by simp at hb; omega) hb')
        have z13 := p13.size
        clear b0 b1 b2 P12 L12 A12 S12 B12 K12 N12 O12 Q12 G12 E12 p13 O4
        have k0 := K13.lt
        have k1 := K13.c0
        have k2 := K13.c1
        have k3 := K13.c2
        go_wp2_with fail
        refine (markCache_in _ w5.heap.size _ _ C _ HR1.out Q13 Q5.under (by omega) (by simp; omega) (by omega) (by omega)).mono ?_
        rintro e w14 ⟨rfl, -, p14⟩
        have E14 := p14.ext E13 (by simp; omega)
        have P14 := p14.box P13 (.inl (by simp; omega))
        have L14 := L13.part p14 (.inl (by simp; omega))
        have A14 := A13.part p14 (.inl (by simp; omega))
        have S14 := S13.same (w' := w14) (fun b _ hb => p14.low.block b (by simp; omega))
        have N14 := N13.part p14 (.inr (by omega))
        have G14 := G13.kept (w' := w14) (fun b hb hb' => p14.high b (by simp at hb; omega) hb')
        have z14 := p14.size
        clear k0 k1 k2 k3 P13 L13 A13 S13 K13 N13 Q13 G13 E13 p14 Q5
        have hr1n : ¬ r1 < 0 := by omega
        have a0 := A14.lt
        have a1 := A14.c0
        have a2 := A14.c1
        have a3 := A14.c2
        have n0 := N14.lt
        have n1 := N14.c0
        have n2 := N14.c1
        have n3 := N14.c2
        go_wp2_with fail
        refine (eqCache_own _ _ _ _ _ D _ S14 (by omega) G14).mono ?_
        rintro e w15 ⟨rfl, x15⟩
        have E15 := E14.trans x15
        have P15 := P14.ext x15
        have L15 := L14.ext x15
        have A15 := A14.ext x15
        have S15 := S14.ext (by omega) x15
        have G15 := G14.ext x15
        have N15 := N14.ext x15
        have z15 := x15.size
        have U15 := G15.under
        clear a0 a1 a2 a3 n0 n1 n2 n3 P14 L14 A14 S14 G14 N14 E14 x15
        -- the result is marked
        have n0 := N15.lt
        have n1 := N15.c0
        have n2 := N15.c1
        have n3 := N15.c2
        go_wp2_with fail
        refine (markCache_in _ w6.heap.size 1 _ D _ HR2.out G15 hGU.out (by omega) (by simp; omega) (by decide) (by omega)).mono ?_
        rintro e w16 ⟨rfl, M16, p16⟩
        have E16 := p16.ext E15 (by simp; omega)
        have P16 := p16.box P15 (.inl (by simp; omega))
        have L16 := L15.part p16 (.inl (by simp; omega))
        have A16 := A15.part p16 (.inl (by simp; omega))
        have S16 := S15.same (w' := w16) (fun b _ hb => p16.low.block b (by simp; omega))
        have N16 := N15.part p16 (.inr (by omega))
        have z16 := p16.size
        clear n0 n1 n2 n3 P15 L15 A15 S15 G15 N15 E15 p16 U15
        have hr2n : ¬ r2 < 0 := by omega
        have n0 := N16.lt
        have n1 := N16.c0
        have n2 := N16.c1
        have n3 := N16.c2
        go_wp2_with fail
        refine (heldCache_val _ _ D _ HR2.out M16 (by omega)).mono ?_
        rintro e w17 ⟨rfl, x17⟩
        have E17 := E16.trans x17
        have HP17 := hid (P16.ext x17)
        have HL17 := hid (L16.ext x17)
        have HA17 := hid (A16.ext x17)
        have HS17 := hid (S16.ext (by omega) x17)
        have HN17 := hid (N16.ext x17)
        have HM17 := hid (M16.ext x17)
        have z17 := x17.size
        clear n0 n1 n2 n3 P16 L16 A16 S16 N16 M16 E16 x17
        have P17 := HP17.out
        have L17 := HL17.out
        have p0 := P17.lt
        have p1 := P17.c0
        have p2 := P17.c1
        have q0 := L17.lt
        have q1 := L17.c0
        have q2 := L17.c1
        have q3 := L17.c2
        clear P17 L17
        have s17 := E17.size
        go_upto_region 31 with fail
        go_cut [21, 22] from 106 to 116 (fun n p wx => ∃ A a c, n = .int .i64 x ∧ p = .pointer (some ⟨A, 0, none⟩) ∧ Got W w17 wx A a c D)
        case first =>
          refine wp_region_Z 13 w17.heap.size (by kernel_rfl) ?_
          refine wpZ_stage (fuel := 8) [0, 2, 4, 5, 6] [1, 11] (by kernel_rfl) (fun b _ hb => rfl) ?_
          try simp only [Act.put, List.setIfInBounds_toArray, List.set_cons_succ, List.set_cons_zero]
          simp only [List.filterMap_cons, List.filterMap_nil, List.getElem?_toArray, List.getElem?_cons_zero, List.getElem?_cons_succ]
          show wpQuiet _ _ _ _ [_, _, _, _, _] _
          repeat (go_big_quiet_step (fail))
          refine wpQuiet_nil ?_
          intro e he
          simp only [List.mem_cons, List.not_mem_nil, or_false] at he
          rcases he with rfl | rfl
          · (unfold wpComes; simp only [List.getElem?_toArray, List.getElem?_cons_succ, List.getElem?_cons_zero, Option.some.injEq]; refine ⟨_, rfl, fun K hK => ?_⟩)
            go_wp2_with fail
            refine (toTexture_any 0 W.heap.size _ t _ (HV.out.ext (Nat.le_refl _) (E17.trans (Ext.drew (Ext.refl _)))) (E17.trans (Ext.drew (Ext.refl _))).size hlen).mono ?_
            rintro e a0 ⟨v0, rfl, O0, y0⟩
            have u0 : Ext w17 a0 := Ext.trans (by repeat (with_reducible (first | assumption | exact Ext.refl _ | apply Ext.alloc | apply Ext.drew | apply Ext.drewN))) y0
            obtain ⟨g0, h0, rfl, _⟩ := O0.form
            go_wp2_with fail
            refine hK _ _ (.inr (fun b _ hb => u0.block (by omega))) ?_
            clear hK K
            refine wpZ_stage (fuel := 7) [] [3, 11] (by kernel_rfl) (fun b _ hb => u0.block (by omega)) ?_
            refine wpQuiet_nil ?_
            intro e he
            simp only [List.mem_cons, List.not_mem_nil, or_false] at he
            rcases he with rfl | rfl
            · (unfold wpComes; simp only [List.getElem?_toArray, List.getElem?_cons_succ, List.getElem?_cons_zero, Option.some.injEq]; refine ⟨_, rfl, fun K hK => ?_⟩)
              go_wp2_with fail
              refine (toCache_any 0 W.heap.size _ C _ (HC.out.ext (Nat.le_refl _) (E17.trans u0)) (E17.trans u0).size (by omega)).mono ?_
              rintro e a01 ⟨v01, rfl, Q01, y01⟩
              have u01 : Ext w17 a01 := u0.trans y01
              have O01 := O0.ext y01
              obtain ⟨m01, n01, rfl⟩ := Q01.open
              go_wp2_with fail
              refine hK _ _ (.inr (fun b _ hb => u01.block (by omega))) ?_
              clear hK K
              refine wpZ_stage (fuel := 6) [] [7, 11] (by kernel_rfl) (fun b _ hb => u01.block (by omega)) ?_
              refine wpQuiet_nil ?_
              intro e he
              simp only [List.mem_cons, List.not_mem_nil, or_false] at he
              rcases he with rfl | rfl
              · (unfold wpComes; simp only [List.getElem?_toArray, List.getElem?_cons_succ, List.getElem?_cons_zero, Option.some.injEq]; refine ⟨_, rfl, fun K hK => ?_⟩)
                go_wp2_with fail
                have Z012 := u01.size
                refine (iCached_val HX.out _ _ _ _ _ _ O01.tex (Nat.le_refl _) Q01 (by omega)).mono ?_
                rintro e a012 ⟨k012, j012, rfl, S012, y012⟩
                have u012 : Ext w17 a012 := u01.trans y012
                have O012 := O01.ext y012
                have Q012 := Q01.ext y012
                go_wp2_with fail
                refine hK _ _ (.inr (fun b _ hb => u012.block (by omega))) ?_
                clear hK K
                refine wpZ_stage (fuel := 2) [8, 9, 10] [11] (by kernel_rfl) (fun b _ hb => u012.block (by omega)) ?_
                try simp only [Act.put, List.setIfInBounds_toArray, List.set_cons_succ, List.set_cons_zero]
                simp only [List.filterMap_cons, List.filterMap_nil, List.getElem?_toArray, List.getElem?_cons_zero, List.getElem?_cons_succ]
                show wpQuiet _ _ _ _ [_, _, _] _
                repeat (go_big_quiet_step (fail))
                refine wpQuiet_nil ?_
                intro e he
                simp only [List.mem_cons, List.not_mem_nil, or_false] at he
                subst he
                (unfold wpComes; simp only [List.getElem?_toArray, List.getElem?_cons_succ, List.getElem?_cons_zero, Option.some.injEq]; refine ⟨_, rfl, fun K hK => ?_⟩)
                go_wp2
                have hA012A : w17.heap.size ≤ a012.heap.size := u012.size
                refine hK _ _ (.inr (fun b _ hb => (Ext.block (w := a012) (by repeat (with_reducible (first | assumption | exact Ext.refl _ | apply Ext.alloc | apply Ext.drew | apply Ext.drewN))) (by omega)).trans (u012.block (by omega)))) ?_
                clear hK K
                have yy012A : Ext a012 (a012.alloc (.cells #[.int .i64 0, .slice none 0 0, .int .i64 0] 29)) := (by repeat (with_reducible (first | assumption | exact Ext.refl _ | apply Ext.alloc | apply Ext.drew | apply Ext.drewN)))
                have b012A : CBx (a012.alloc (.cells #[.int .i64 0, .slice none 0 0, .int .i64 0] 29)) (a012.heap.size) 0 (.slice none 0 0) 0 := CBx.made a012 0 0 (.slice none 0 0)
                obtain ⟨d012A, hd012A⟩ : ∃ d, a012.alloc (.cells #[.int .i64 0, .slice none 0 0, .int .i64 0] 29) = d := ⟨_, rfl⟩
                rw [hd012A] at yy012A b012A ⊢
                have u012A : Ext w17 d012A := u012.trans yy012A
                have O012A := O012.ext yy012A
                have Q012A := Q012.ext yy012A
                have S012A := S012.ext yy012A
                clear hd012A
                refine wpZ_stage (fuel := 0) [12] [13] (by kernel_rfl) (fun b _ hb => u012A.block (by omega)) ?_
                try simp only [Act.put, List.setIfInBounds_toArray, List.set_cons_succ, List.set_cons_zero]
                simp only [List.filterMap_cons, List.filterMap_nil, List.getElem?_toArray, List.getElem?_cons_zero, List.getElem?_cons_succ]
                show wpQuiet _ _ _ _ [_] _
                repeat (go_big_quiet_step (fail))
                refine wpQuiet_nil ?_
                intro e he
                simp only [List.mem_cons, List.not_mem_nil, or_false] at he
                subst he
                (unfold wpComes; simp only [List.getElem?_toArray, List.getElem?_cons_succ, List.getElem?_cons_zero, Option.some.injEq]; refine ⟨_, rfl, fun K hK => ?_⟩)
                have f0 := b012A.fz 0
                have f1 := b012A.fz 1
                have f2 := b012A.fz 2
                have g0 := b012A.c0
                have g1 := b012A.c1
                have g2 := b012A.c2
                go_wp2
                refine hK _ _ (.inl (by trivial)) ?_
                clear hK K
                refine wpZ_end (by kernel_rfl) ?_
                go_wp2_with fail
                go_meet
                exact ⟨_, _, _, rfl, rfl, Got.make E17 u012A (by omega) b012A (S012A.low (by omega))⟩
              · (unfold wpComes; simp only [List.getElem?_toArray, List.getElem?_cons_succ, List.getElem?_cons_zero, Option.some.injEq]; refine ⟨_, rfl, fun K hK => ?_⟩)
                go_wp2
                have hA01A : w17.heap.size ≤ a01.heap.size := u01.size
                refine hK _ _ (.inr (fun b _ hb => (Ext.block (w := a01) (by repeat (with_reducible (first | assumption | exact Ext.refl _ | apply Ext.alloc | apply Ext.drew | apply Ext.drewN))) (by omega)).trans (u01.block (by omega)))) ?_
                clear hK K
                have yy01A : Ext a01 (a01.alloc (.cells #[.int .i64 0, .slice none 0 0, .int .i64 0] 29)) := (by repeat (with_reducible (first | assumption | exact Ext.refl _ | apply Ext.alloc | apply Ext.drew | apply Ext.drewN)))
                have b01A : CBx (a01.alloc (.cells #[.int .i64 0, .slice none 0 0, .int .i64 0] 29)) (a01.heap.size) 0 (.slice none 0 0) 0 := CBx.made a01 0 0 (.slice none 0 0)
                obtain ⟨d01A, hd01A⟩ : ∃ d, a01.alloc (.cells #[.int .i64 0, .slice none 0 0, .int .i64 0] 29) = d := ⟨_, rfl⟩
                rw [hd01A] at yy01A b01A ⊢
                have u01A : Ext w17 d01A := u01.trans yy01A
                have O01A := O01.ext yy01A
                have Q01A := Q01.ext yy01A
                clear hd01A
                refine wpZ_stage (fuel := 5) [] [7] (by kernel_rfl) (fun b _ hb => u01A.block (by omega)) ?_
                refine wpQuiet_nil ?_
                intro e he
                simp only [List.mem_cons, List.not_mem_nil, or_false] at he
                subst he
                (unfold wpComes; simp only [List.getElem?_toArray, List.getElem?_cons_succ, List.getElem?_cons_zero, Option.some.injEq]; refine ⟨_, rfl, fun K hK => ?_⟩)
                go_wp2_with fail
                have Z01A2 := u01A.size
                refine (iCached_val HX.out _ _ _ _ _ _ O01A.tex (Nat.le_refl _) Q01A (by omega)).mono ?_
                rintro e a01A2 ⟨k01A2, j01A2, rfl, S01A2, y01A2⟩
                have u01A2 : Ext w17 a01A2 := u01A.trans y01A2
                have O01A2 := O01A.ext y01A2
                have Q01A2 := Q01A.ext y01A2
                have b01A2 := b01A.ext y01A2
                go_wp2_with fail
                refine hK _ _ (.inr (fun b _ hb => u01A2.block (by omega))) ?_
                clear hK K
                refine wpZ_stage (fuel := 0) [8, 9, 10, 12] [13] (by kernel_rfl) (fun b _ hb => u01A2.block (by omega)) ?_
                try simp only [Act.put, List.setIfInBounds_toArray, List.set_cons_succ, List.set_cons_zero]
                simp only [List.filterMap_cons, List.filterMap_nil, List.getElem?_toArray, List.getElem?_cons_zero, List.getElem?_cons_succ]
                show wpQuiet _ _ _ _ [_, _, _, _] _
                repeat (go_big_quiet_step (fail))
                refine wpQuiet_nil ?_
                intro e he
                simp only [List.mem_cons, List.not_mem_nil, or_false] at he
                subst he
                (unfold wpComes; simp only [List.getElem?_toArray, List.getElem?_cons_succ, List.getElem?_cons_zero, Option.some.injEq]; refine ⟨_, rfl, fun K hK => ?_⟩)
                have f0 := b01A2.fz 0
                have f1 := b01A2.fz 1
                have f2 := b01A2.fz 2
                have g0 := b01A2.c0
                have g1 := b01A2.c1
                have g2 := b01A2.c2
                go_wp2
                refine hK _ _ (.inl (by trivial)) ?_
                clear hK K
                refine wpZ_end (by kernel_rfl) ?_
                go_wp2_with fail
                go_meet
                exact ⟨_, _, _, rfl, rfl, Got.make E17 u01A2 (by omega) b01A2 (S01A2.low (by omega))⟩
            · (unfold wpComes; simp only [List.getElem?_toArray, List.getElem?_cons_succ, List.getElem?_cons_zero, Option.some.injEq]; refine ⟨_, rfl, fun K hK => ?_⟩)
              go_wp2
              have hA0A : w17.heap.size ≤ a0.heap.size := u0.size
              refine hK _ _ (.inr (fun b _ hb => (Ext.block (w := a0) (by repeat (with_reducible (first | assumption | exact Ext.refl _ | apply Ext.alloc | apply Ext.drew | apply Ext.drewN))) (by omega)).trans (u0.block (by omega)))) ?_
              clear hK K
              have yy0A : Ext a0 (a0.alloc (.cells #[.int .i64 0, .slice none 0 0, .int .i64 0] 29)) := (by repeat (with_reducible (first | assumption | exact Ext.refl _ | apply Ext.alloc | apply Ext.drew | apply Ext.drewN)))
              have b0A : CBx (a0.alloc (.cells #[.int .i64 0, .slice none 0 0, .int .i64 0] 29)) (a0.heap.size) 0 (.slice none 0 0) 0 := CBx.made a0 0 0 (.slice none 0 0)
              obtain ⟨d0A, hd0A⟩ : ∃ d, a0.alloc (.cells #[.int .i64 0, .slice none 0 0, .int .i64 0] 29) = d := ⟨_, rfl⟩
              rw [hd0A] at yy0A b0A ⊢
              have u0A : Ext w17 d0A := u0.trans yy0A
              have O0A := O0.ext yy0A
              clear hd0A
              refine wpZ_stage (fuel := 6) [] [3] (by kernel_rfl) (fun b _ hb => u0A.block (by omega)) ?_
              refine wpQuiet_nil ?_
              intro e he
              simp only [List.mem_cons, List.not_mem_nil, or_false] at he
              subst he
              (unfold wpComes; simp only [List.getElem?_toArray, List.getElem?_cons_succ, List.getElem?_cons_zero, Option.some.injEq]; refine ⟨_, rfl, fun K hK => ?_⟩)
              go_wp2_with fail
              refine (toCache_any 0 W.heap.size _ C _ (HC.out.ext (Nat.le_refl _) (E17.trans u0A)) (E17.trans u0A).size (by omega)).mono ?_
              rintro e a0A1 ⟨v0A1, rfl, Q0A1, y0A1⟩
              have u0A1 : Ext w17 a0A1 := u0A.trans y0A1
              have O0A1 := O0A.ext y0A1
              have b0A1 := b0A.ext y0A1
              obtain ⟨m0A1, n0A1, rfl⟩ := Q0A1.open
              go_wp2_with fail
              refine hK _ _ (.inr (fun b _ hb => u0A1.block (by omega))) ?_
              clear hK K
              refine wpZ_stage (fuel := 5) [] [7] (by kernel_rfl) (fun b _ hb => u0A1.block (by omega)) ?_
              refine wpQuiet_nil ?_
              intro e he
              simp only [List.mem_cons, List.not_mem_nil, or_false] at he
              subst he
              (unfold wpComes; simp only [List.getElem?_toArray, List.getElem?_cons_succ, List.getElem?_cons_zero, Option.some.injEq]; refine ⟨_, rfl, fun K hK => ?_⟩)
              go_wp2_with fail
              have Z0A12 := u0A1.size
              refine (iCached_val HX.out _ _ _ _ _ _ O0A1.tex (Nat.le_refl _) Q0A1 (by omega)).mono ?_
              rintro e a0A12 ⟨k0A12, j0A12, rfl, S0A12, y0A12⟩
              have u0A12 : Ext w17 a0A12 := u0A1.trans y0A12
              have O0A12 := O0A1.ext y0A12
              have Q0A12 := Q0A1.ext y0A12
              have b0A12 := b0A1.ext y0A12
              go_wp2_with fail
              refine hK _ _ (.inr (fun b _ hb => u0A12.block (by omega))) ?_
              clear hK K
              refine wpZ_stage (fuel := 0) [8, 9, 10, 12] [13] (by kernel_rfl) (fun b _ hb => u0A12.block (by omega)) ?_
              try simp only [Act.put, List.setIfInBounds_toArray, List.set_cons_succ, List.set_cons_zero]
              simp only [List.filterMap_cons, List.filterMap_nil, List.getElem?_toArray, List.getElem?_cons_zero, List.getElem?_cons_succ]
              show wpQuiet _ _ _ _ [_, _, _, _] _
              repeat (go_big_quiet_step (fail))
              refine wpQuiet_nil ?_
              intro e he
              simp only [List.mem_cons, List.not_mem_nil, or_false] at he
              subst he
              (unfold wpComes; simp only [List.getElem?_toArray, List.getElem?_cons_succ, List.getElem?_cons_zero, Option.some.injEq]; refine ⟨_, rfl, fun K hK => ?_⟩)
              have f0 := b0A12.fz 0
              have f1 := b0A12.fz 1
              have f2 := b0A12.fz 2
              have g0 := b0A12.c0
              have g1 := b0A12.c1
              have g2 := b0A12.c2
              go_wp2
              refine hK _ _ (.inl (by trivial)) ?_
              clear hK K
              refine wpZ_end (by kernel_rfl) ?_
              go_wp2_with fail
              go_meet
              exact ⟨_, _, _, rfl, rfl, Got.make E17 u0A12 (by omega) b0A12 (S0A12.low (by omega))⟩
          · (unfold wpComes; simp only [List.getElem?_toArray, List.getElem?_cons_succ, List.getElem?_cons_zero, Option.some.injEq]; refine ⟨_, rfl, fun K hK => ?_⟩)
            go_wp2
            have hAA : w17.heap.size ≤ w17.heap.size := Nat.le_refl _
            refine hK _ _ (.inr (fun b _ hb => Ext.block (w := w17) (by repeat (with_reducible (first | assumption | exact Ext.refl _ | apply Ext.alloc | apply Ext.drew | apply Ext.drewN))) (by omega))) ?_
            clear hK K
            have yyA : Ext w17 ((w17.alloc (.cells #[.int .i64 0, .slice none 0 0, .int .i64 0] 29)).drew) := (by repeat (with_reducible (first | assumption | exact Ext.refl _ | apply Ext.alloc | apply Ext.drew | apply Ext.drewN)))
            have bA : CBx ((w17.alloc (.cells #[.int .i64 0, .slice none 0 0, .int .i64 0] 29)).drew) (w17.heap.size) 0 (.slice none 0 0) 0 := (CBx.made w17 0 0 (.slice none 0 0)).ext (Ext.drew (Ext.refl _))
            obtain ⟨dA, hdA⟩ : ∃ d, (w17.alloc (.cells #[.int .i64 0, .slice none 0 0, .int .i64 0] 29)).drew = d := ⟨_, rfl⟩
            rw [hdA] at yyA bA ⊢
            have uA : Ext w17 dA := yyA
            clear hdA
            refine wpZ_stage (fuel := 7) [] [1] (by kernel_rfl) (fun b _ hb => uA.block (by omega)) ?_
            refine wpQuiet_nil ?_
            intro e he
            simp only [List.mem_cons, List.not_mem_nil, or_false] at he
            subst he
            (unfold wpComes; simp only [List.getElem?_toArray, List.getElem?_cons_succ, List.getElem?_cons_zero, Option.some.injEq]; refine ⟨_, rfl, fun K hK => ?_⟩)
            go_wp2_with fail
            refine (toTexture_any 0 W.heap.size _ t _ (HV.out.ext (Nat.le_refl _) (E17.trans uA)) (E17.trans uA).size hlen).mono ?_
            rintro e aA0 ⟨vA0, rfl, OA0, yA0⟩
            have uA0 : Ext w17 aA0 := uA.trans yA0
            have bA0 := bA.ext yA0
            obtain ⟨gA0, hA0, rfl, _⟩ := OA0.form
            go_wp2_with fail
            refine hK _ _ (.inr (fun b _ hb => uA0.block (by omega))) ?_
            clear hK K
            refine wpZ_stage (fuel := 6) [] [3] (by kernel_rfl) (fun b _ hb => uA0.block (by omega)) ?_
            refine wpQuiet_nil ?_
            intro e he
            simp only [List.mem_cons, List.not_mem_nil, or_false] at he
            subst he
            (unfold wpComes; simp only [List.getElem?_toArray, List.getElem?_cons_succ, List.getElem?_cons_zero, Option.some.injEq]; refine ⟨_, rfl, fun K hK => ?_⟩)
            go_wp2_with fail
            refine (toCache_any 0 W.heap.size _ C _ (HC.out.ext (Nat.le_refl _) (E17.trans uA0)) (E17.trans uA0).size (by omega)).mono ?_
            rintro e aA01 ⟨vA01, rfl, QA01, yA01⟩
            have uA01 : Ext w17 aA01 := uA0.trans yA01
            have OA01 := OA0.ext yA01
            have bA01 := bA0.ext yA01
            obtain ⟨mA01, nA01, rfl⟩ := QA01.open
            go_wp2_with fail
            refine hK _ _ (.inr (fun b _ hb => uA01.block (by omega))) ?_
            clear hK K
            refine wpZ_stage (fuel := 5) [] [7] (by kernel_rfl) (fun b _ hb => uA01.block (by omega)) ?_
            refine wpQuiet_nil ?_
            intro e he
            simp only [List.mem_cons, List.not_mem_nil, or_false] at he
            subst he
            (unfold wpComes; simp only [List.getElem?_toArray, List.getElem?_cons_succ, List.getElem?_cons_zero, Option.some.injEq]; refine ⟨_, rfl, fun K hK => ?_⟩)
            go_wp2_with fail
            have ZA012 := uA01.size
            refine (iCached_val HX.out _ _ _ _ _ _ OA01.tex (Nat.le_refl _) QA01 (by omega)).mono ?_
            rintro e aA012 ⟨kA012, jA012, rfl, SA012, yA012⟩
            have uA012 : Ext w17 aA012 := uA01.trans yA012
            have OA012 := OA01.ext yA012
            have QA012 := QA01.ext yA012
            have bA012 := bA01.ext yA012
            go_wp2_with fail
            refine hK _ _ (.inr (fun b _ hb => uA012.block (by omega))) ?_
            clear hK K
            refine wpZ_stage (fuel := 0) [8, 9, 10, 12] [13] (by kernel_rfl) (fun b _ hb => uA012.block (by omega)) ?_
            try simp only [Act.put, List.setIfInBounds_toArray, List.set_cons_succ, List.set_cons_zero]
            simp only [List.filterMap_cons, List.filterMap_nil, List.getElem?_toArray, List.getElem?_cons_zero, List.getElem?_cons_succ]
            show wpQuiet _ _ _ _ [_, _, _, _] _
            repeat (go_big_quiet_step (fail))
            refine wpQuiet_nil ?_
            intro e he
            simp only [List.mem_cons, List.not_mem_nil, or_false] at he
            subst he
            (unfold wpComes; simp only [List.getElem?_toArray, List.getElem?_cons_succ, List.getElem?_cons_zero, Option.some.injEq]; refine ⟨_, rfl, fun K hK => ?_⟩)
            have f0 := bA012.fz 0
            have f1 := bA012.fz 1
            have f2 := bA012.fz 2
            have g0 := bA012.c0
            have g1 := bA012.c1
            have g2 := bA012.c2
            go_wp2
            refine hK _ _ (.inl (by trivial)) ?_
            clear hK K
            refine wpZ_end (by kernel_rfl) ?_
            go_wp2_with fail
            go_meet
            exact ⟨_, _, _, rfl, rfl, Got.make E17 uA012 (by omega) bA012 (SA012.low (by omega))⟩
        case rest =>
          obtain ⟨A2, ta, tc, rfl, rfl, got⟩ := hcut
          have E18 := got.ext
          have A18 := HA17.out.ext got.ext0
          have S18 := HS17.out.ext (by omega) got.ext0
          have N18 := HN17.out.ext got.ext0
          have M18 := HM17.out.ext got.ext0
          have T18 := got.box
          have H18 := got.own
          have z18 := got.ext0.size
          clear got p0 p1 p2 q0 q1 q2 q3 HP17 HL17 HA17 HS17 HN17 HM17
          have a0 := A18.lt
          have a1 := A18.c0
          have a2 := A18.c1
          have a3 := A18.c2
          have t0 := T18.lt
          have t1 := T18.c0
          have t2 := T18.c1
          have t3 := T18.c2
          go_wp2_with fail
          refine (eqCache_own _ _ _ _ _ D _ S18 (by omega) H18).mono ?_
          rintro e w19 ⟨rfl, x19⟩
          have E19 := E18.trans x19
          have N19 := N18.ext x19
          have M19 := M18.ext x19
          clear a0 a1 a2 a3 t0 t1 t2 t3 A18 S18 N18 M18 T18 H18 E18
          have n0 := N19.lt
          have n1 := N19.c0
          have n2 := N19.c1
          have n3 := N19.c2
          go_wp2_with fail
          refine (heldCache_val _ _ D _ HR2.out M19 (by omega)).mono ?_
          rintro e w20 ⟨rfl, x20⟩
          have E20 := E19.trans x20
          clear n0 n1 n2 n3 N19 M19 E19
          go_wp2_with fail
          go_ret
          exact ⟨rfl, E20⟩
    · have hs2 := hid (show szRes (1048576 - t.px.length) C.L.length = -1 by unfold szRes; rw [if_pos (by omega)])
      clear hDl
      go_enter Try.func4, Try.ntmps4
      go_wp2_with fail
      refine (szTexture_val hs1.out 0 W.heap.size _ _ (HV.out.ext (Nat.le_refl _) (by repeat (with_reducible (first | assumption | exact Ext.refl _ | apply Ext.alloc | apply Ext.drew | apply Ext.drewN)))) (by simp; omega) (by decide) (by decide)).mono ?_
      rintro e w1 ⟨rfl, x1⟩
      have E1 : Ext W w1 := Ext.trans (by repeat (with_reducible (first | assumption | exact Ext.refl _ | apply Ext.alloc | apply Ext.drew | apply Ext.drewN))) x1
      have L1 : LCx w1 (W.heap.size + 1) C.room (.slice ca C.L.length cc) C.loads := by
        refine LCx.ext ?_ x1
        have h := Go.Deep.blk_alloc_new (W.alloc (.cells #[.int .i64 t.log, u] 37)) (.cells #[.int .i64 C.room, .slice ca C.L.length cc, .int .i64 C.loads] 40)
        rw [World.size_alloc] at h
        exact h
      clear x1
      have q0 := L1.lt
      have q1 := L1.c0
      have q2 := L1.c1
      have q3 := L1.c2
      go_wp2_with fail
      refine (szCache_val hs2.out 0 W.heap.size _ _ (HC.out.ext (Nat.le_refl _) E1) E1.size (by omega) (by omega)).mono ?_
      rintro e w2 ⟨rfl, x2⟩
      have E2 := E1.trans x2
      go_wp2_with fail
      go_ret
      exact ⟨rfl, E2⟩
  · have hs1 := hid (show szRes 1048576 t.px.length = -1 by unfold szRes; rw [if_pos (by omega)])
    go_enter Try.func4, Try.ntmps4
    go_wp2_with fail
    refine (szTexture_val hs1.out 0 W.heap.size _ _ (HV.out.ext (Nat.le_refl _) (by repeat (with_reducible (first | assumption | exact Ext.refl _ | apply Ext.alloc | apply Ext.drew | apply Ext.drewN)))) (by simp; omega) (by decide) (by decide)).mono ?_
    rintro e w1 ⟨rfl, x1⟩
    have E1 : Ext W w1 := Ext.trans (by repeat (with_reducible (first | assumption | exact Ext.refl _ | apply Ext.alloc | apply Ext.drew | apply Ext.drewN))) x1
    go_wp2_with fail
    go_ret
    exact ⟨rfl, E1⟩
end Go.Proofs.Ytcogkglkioejaaa
