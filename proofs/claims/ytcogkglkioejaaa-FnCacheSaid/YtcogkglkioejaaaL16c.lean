/- This text proves which tiles the program's TilesFor hands back. -/
import Derived.Test.YtcogkglkioejaaaTFst
namespace Go.Proofs.Ytcogkglkioejaaa
open Go.RowKit Go.Shelf
attribute [local go_sem] Oper.semAt_some

theorem keepBlk {W W' : World} {B : Nat} {o : Obj} (h : W.heap[B]? = some o) (e : Ext W W') : W'.heap[B]? = some o := (e.block (lt_of_block h)).trans h
theorem blk_new2 (W : World) (cs : Array Value) (t : TypeId) (o : Obj) {W' : World} (e : Ext ((W.alloc (.cells cs t)).alloc o) W') : W'.heap[W.heap.size]? = some (.cells cs t (0, 0)) :=
  (e.block (by simp; omega)).trans ((Ext.block (w := W.alloc (.cells cs t)) (by repeat (with_reducible (first | assumption | exact Ext.refl _ | apply Ext.alloc | apply Ext.drew | apply Ext.drewN))) (by simp)).trans (Go.Deep.blk_alloc_new _ _))
theorem blk_new3 (W : World) (cs : Array Value) (t : TypeId) {W' : World} (e : Ext (W.alloc (.cells cs t)) W') : W'.heap[W.heap.size]? = some (.cells cs t (0, 0)) :=
  (e.block (by simp)).trans (Go.Deep.blk_alloc_new _ _)
theorem blk_cell0 {W : World} {B : Nat} {a : Value} {r : List Value} {t : TypeId} (h : W.heap[B]? = some (.cells ⟨a :: r⟩ t (0, 0))) : W.cell? ⟨B, 0, none⟩ = some a := by simp [World.cell?, h]
theorem blk_cell1 {W : World} {B : Nat} {a b : Value} {r : List Value} {t : TypeId} (h : W.heap[B]? = some (.cells ⟨a :: b :: r⟩ t (0, 0))) : W.cell? ⟨B, 1, none⟩ = some b := by simp [World.cell?, h]

theorem appKeep {W5 W7 : World} {o : Obj} {s : TL} {lo : Nat} {v : Value} (hg : (W5.alloc o).grownBy W7 v.ownBlock) (ho : s.Own lo W5 v) {b : Nat} {cs : Array Value} (hb : W5.heap[b]? = some (.cells cs 27 (0, 0))) : W7.heap[b]? = some (.cells cs 27 (0, 0)) :=
  (hg.block b (by have := lt_of_block hb; simp; omega) (cells_not_row hb (by decide) ho.1)).trans ((Ext.block (w := W5) (by repeat (with_reducible (first | assumption | exact Ext.refl _ | apply Ext.alloc | apply Ext.drew | apply Ext.drewN))) (lt_of_block hb)).trans hb)
def tileC (c x y : Int) (n : Nat) (p : Fin 2 × Fin 2) : T3 := ⟨c, fmod (x + (p.1 : Nat)) n / 2, fmod (y + (p.2 : Nat)) n / 2⟩
/-- the tiles of the cells that have come, each once -/
def tilesP (c x y : Int) (n : Nat) (pre : List (Fin 2 × Fin 2)) : TL := pre.foldl (fun s p => s.add (tileC c x y n p)) TL.nil
theorem tilesP_snoc (c x y : Int) (n : Nat) (pre : List (Fin 2 × Fin 2)) (p : Fin 2 × Fin 2) : tilesP c x y n (pre ++ [p]) = (tilesP c x y n pre).add (tileC c x y n p) := by simp [tilesP]
theorem tilesP_all (c x y : Int) (n : Nat) : tilesP c x y n (cellsTo 2 (by decide) (2 * 2)) = tilesTo c x y n 4 := rfl
theorem tilesP_n (c x y : Int) (n : Nat) : ∀ (pre : List (Fin 2 × Fin 2)) (s : TL), (pre.foldl (fun s p => s.add (tileC c x y n p)) s).n ≤ s.n + pre.length
  | [], s => Nat.le_refl _
  | p :: pre, s => by
    have h1 := tilesP_n c x y n pre (s.add (tileC c x y n p))
    have h2 := TL.add_n s (tileC c x y n p)
    simp only [List.foldl_cons, List.length_cons]
    omega
theorem tileC_I {c x y : Int} {n : Nat} {p : Fin 2 × Fin 2} (hc : I64 c) (hn : 1 ≤ n) (hn' : n ≤ 16) : (tileC c x y n p).I := by
  obtain ⟨a, ha, hal⟩ := fmod_nat (x + (p.1 : Nat)) hn
  obtain ⟨b, hb, hbl⟩ := fmod_nat (y + (p.2 : Nat)) hn
  unfold tileC
  rw [ha, hb]
  exact ⟨hc, ⟨by show _ ≤ (a : Int) / 2; omega, by show (a : Int) / 2 ≤ _; omega⟩, ⟨by show _ ≤ (b : Int) / 2; omega, by show (b : Int) / 2 ≤ _; omega⟩⟩

set_option maxRecDepth 100000 in
set_option maxHeartbeats 3200000 in
theorem iTilesFor_any (lo hi : Nat) (v : Value) (t : Tex) (ua va l : Int) (w : World) (hv : TexR lo hi w v t) (hh : hi ≤ w.heap.size) :
    Calls Try.prog 28 #[v, .int .i64 ua, .int .i64 va, .int .i64 l] w fun e w' => ∃ r, e = .returned r ∧ (t.tilesR ua va l).Own w.heap.size w' r ∧ Ext w w' := by
  obtain ⟨u, rfl, hlog⟩ := hv.shape
  have HV := hid hv
  clear hv
  by_cases hb : t.okB = true
  · have ht := Tex.okB_iff.1 hb
    obtain ⟨c0, c4⟩ := clampL_bd (l := l) ht.log0
    have t4 := ht.log4
    have e1 : t.tilesR ua va l = tilesTo (clampI l 0 t.log) (posX ua (t.mip (clampI l 0 t.log).toNat).n) (posX va (t.mip (clampI l 0 t.log).toNat).n) (t.mip (clampI l 0 t.log).toNat).n 4 := by unfold Tex.tilesR; rw [if_pos hb]
    rw [e1]
    obtain ⟨c, hc⟩ : ∃ c, clampI l 0 t.log = c := ⟨_, rfl⟩
    rw [hc] at c0 c4 ⊢
    obtain ⟨hm, hml⟩ := ht.mip c.toNat (by omega)
    obtain ⟨m, hmm⟩ : ∃ m, t.mip c.toNat = m := ⟨_, rfl⟩
    have HB := hid hb
    have HC := hid hc
    have HT := hid ht
    have HMM := hid hmm
    rw [hmm] at hm hml ⊢
    have HM := hid hm
    have n1 := hm.n_pos
    have n2 := hm.n_le
    have x1 := posX_bd ua n1 n2
    have x2 := posX_bd va n1 n2
    have PU := fun x W => position_any x m ua W HM.out
    have PV := fun x W => position_any x m va W HM.out
    have HN := hid (show 2 ^ m.log.toNat = m.n from rfl)
    obtain ⟨n, hn⟩ : ∃ n, m.n = n := ⟨_, rfl⟩
    rw [hn] at n1 n2 x1 x2 HN ⊢
    simp only [hn] at PU PV
    obtain ⟨X, hX⟩ : ∃ X, posX ua n = X := ⟨_, rfl⟩
    obtain ⟨Y, hY⟩ : ∃ X, posX va n = X := ⟨_, rfl⟩
    obtain ⟨FX, hFX⟩ : ∃ X, posF ua n = X := ⟨_, rfl⟩
    obtain ⟨FY, hFY⟩ : ∃ X, posF va n = X := ⟨_, rfl⟩
    rw [hX] at x1 ⊢
    rw [hY] at x2 ⊢
    simp only [hX, hFX] at PU
    simp only [hY, hFY] at PV
    have PU := hid PU
    have PV := hid PV
    have m0 := hm.log0
    have m4 := hm.log4
    have C2 : ∀ W : World, Calls Try.prog 56 #[.int .i64 2] W fun e w' => e = .returned (.func (.func 76) #[] #[.pointer (some ⟨W.heap.size, 0, none⟩)]) ∧ w' = W.alloc (.cells #[.int .i64 2] 3) := fun W => (callsIn_wide (n := 0)).1 (cells_val 2 0 W)
    have C2 := hid C2
    clear hb ht e1 hc hm hml hmm hn hX hY hFX hFY
    refine (callsIn_wide (n := 3)).1 ?_
    refine callsIn_of_wp_marks Try.func28 rfl trivial ?_ rfl
    simp only [Try.ntmps28, List.size_toArray, List.length_cons, List.length_nil, Nat.reduceAdd, Nat.reduceSub, Array.replicate_succ, Array.replicate_zero, List.push_toArray, List.append_toArray, List.nil_append, List.cons_append]
    refine wpIn_wide.2 ?_
    go_wp2_with fail
    refine (iIsValidTexture_val HB.out lo hi _ _ (HV.out.ext hh (by repeat (with_reducible (first | assumption | exact Ext.refl _ | apply Ext.alloc | apply Ext.drew | apply Ext.drewN)))) (by simp; omega)).mono ?_
    rintro e w1 ⟨rfl, h1⟩
    have E1 : Ext w w1 := Ext.trans (by repeat (with_reducible (first | assumption | exact Ext.refl _ | apply Ext.alloc | apply Ext.drew | apply Ext.drewN))) h1
    obtain ⟨k1, f1⟩ := h1.cells
    have z1 := h1.size
    simp only [World.size_alloc] at z1
    have q1 : w.heap.size < w1.heap.size := by omega
    have q2 : w.heap.size + 1 < w1.heap.size := by omega
    go_wp2_with fail
    refine (iClamp_val HC.out _).mono ?_
    rintro e w2 ⟨rfl, rfl⟩
    have LB : Boxed w1 (w.heap.size + 1) 3 (.int .i64 l) := by
      have h2 := Boxed.new (w.alloc (.cells #[.int .i64 t.log, u] 25)) 3 (.int .i64 l)
      rw [World.size_alloc] at h2
      exact (h1.block (by simp)).trans h2
    have LC := LB.set (.int .i64 c)
    obtain ⟨wc, hwc⟩ : ∃ W, W = w1.setCell ⟨w.heap.size + 1, 0, none⟩ (.int .i64 c) := ⟨_, rfl⟩
    have EC : Ext w wc := by rw [hwc]; exact E1.setCell (by simp) _
    go_wp2_with fail
    rw [← hwc] at LC ⊢
    have zc : wc.heap.size = w1.heap.size := by rw [hwc]; simp
    clear k1 f1 LB h1 hwc E1
    refine (mip_int (HV.out.ext hh EC) (by omega) HT.out c0 c4).mono ?_
    rintro e w3 ⟨v3, rfl, O3, h3⟩
    obtain ⟨a3, n3, rfl, _⟩ := O3.form
    rw [HMM.out] at O3 ⊢
    have z3 := h3.size
    go_wp2_with fail
    refine (PU.out _ _).mono ?_
    rintro e w4 ⟨rfl, h4⟩
    have z4 := h4.size
    simp only [World.size_alloc] at z4
    have LV4 := hid (keepBlk LC (h3.trans (Ext.trans (by repeat (with_reducible (first | assumption | exact Ext.refl _ | apply Ext.alloc | apply Ext.drew | apply Ext.drewN))) h4)))
    have MB4 := hid (blk_new2 (w3.alloc (.cells #[] 60)) #[.int .i64 m.log, .slice a3 m.px.length n3] 25 _ h4)
    have TB4 := hid (blk_new3 ((w3.alloc (.cells #[] 60)).alloc (.cells #[.int .i64 m.log, .slice a3 m.px.length n3] 25)) #[.slice (some ⟨w3.heap.size, 0, none⟩) 0 0] 27 h4)
    have OT4 := hid ((TL.nil_new w3 w.heap.size (by have := EC.size; omega)).ext (Ext.trans (by repeat (with_reducible (first | assumption | exact Ext.refl _ | apply Ext.alloc | apply Ext.drew | apply Ext.drewN))) h4))
    have E4 : Ext w w4 := (EC.trans h3).trans (Ext.trans (by repeat (with_reducible (first | assumption | exact Ext.refl _ | apply Ext.alloc | apply Ext.drew | apply Ext.drewN))) h4)
    clear h4 LC
    have p1 := blk_cell0 MB4.out
    have p2 := blk_cell1 MB4.out
    simp only [World.size_alloc] at p1 p2
    have q4 : w3.heap.size + 1 < w4.heap.size := by omega
    go_wp2_with fail
    refine (PV.out _ _).mono ?_
    rintro e w5 ⟨rfl, h5⟩
    have z5 := h5.size
    simp only [World.size_alloc] at z5
    have y5 : Ext w4 w5 := Ext.trans (by repeat (with_reducible (first | assumption | exact Ext.refl _ | apply Ext.alloc | apply Ext.drew | apply Ext.drewN))) h5
    have LV5 := hid (keepBlk LV4.out y5)
    have MB5 := hid (keepBlk MB4.out y5)
    have TB5 := hid (keepBlk TB4.out y5)
    have XB5 := hid (blk_new3 w4 #[.int .i64 X] 3 h5)
    have OT5 := hid (OT4.out.ext y5)
    have E5 := E4.trans y5
    clear LV4 MB4 TB4 OT4 p1 p2 h5 y5
    go_wp2_with fail
    refine (C2.out _).mono ?_
    rintro e w6 ⟨rfl, rfl⟩
    go_wp2_with fail
    have y6 : Ext w5 ((w5.alloc (.cells #[.int .i64 Y] 3)).alloc (.cells #[.int .i64 2] 3)) := (by repeat (with_reducible (first | assumption | exact Ext.refl _ | apply Ext.alloc | apply Ext.drew | apply Ext.drewN)))
    have YB6 := blk_new2 w5 #[.int .i64 Y] 3 (.cells #[.int .i64 2] 3) (Ext.refl _)
    have NB6 := blk_new3 (w5.alloc (.cells #[.int .i64 Y] 3)) #[.int .i64 2] 3 (Ext.refl _)
    obtain ⟨W0, hW0⟩ : ∃ W0, (w5.alloc (.cells #[.int .i64 Y] 3)).alloc (.cells #[.int .i64 2] 3) = W0 := ⟨_, rfl⟩
    rw [hW0] at y6 YB6 NB6 ⊢
    have z0 : W0.heap.size = w5.heap.size + 1 + 1 := by rw [← hW0]; simp
    rw [World.size_alloc] at NB6
    have HTF : TF w W0 c (.slice a3 m.px.length n3) m.log X Y (w3.heap.size + 1) (w3.heap.size + 1 + 1) w4.heap.size w5.heap.size (w5.heap.size + 1) TL.nil := by
      have MB := keepBlk MB5.out y6
      have TB := keepBlk TB5.out y6
      simp only [World.size_alloc] at MB TB
      exact ⟨E5.trans y6, keepBlk LV5.out y6, MB, keepBlk XB5.out y6, YB6, NB6, by have := EC.size; omega, _, TB, OT5.out.ext y6⟩
    have HTF := hid HTF
    have hws : w.heap.size ≤ W0.heap.size := by have := EC.size; omega
    clear hW0 YB6 y6 LV5 MB5 TB5 XB5 OT5
    refine (wpIn_wide (n := 3)).1 ?_
    refine' wpIn_rangeFunc_ownG rfl (by omega) (gf := 76) (lb := #[.pointer (some ⟨w5.heap.size + 1, 0, none⟩)]) rfl trivial (enters_of Try.func76 (by kernel_rfl) rfl)
      (cells_stops 2 (by decide) (by decide) _ (w5.heap.size + 1) W0 (by omega) (blk_cell0 NB6)) (fun h k => KB.trans h k) ?hKb (Below.refl _ _) (fun _ => rfl)
      (fun pre W => TF w W c (.slice a3 m.px.length n3) m.log X Y (w3.heap.size + 1) (w3.heap.size + 1 + 1) w4.heap.size w5.heap.size (w5.heap.size + 1) (tilesP c X Y n pre))
      (fun _ _ _ => False) (TF.owns hws (tilesP c X Y n)) (fun _ _ _ _ _ h _ _ => h) HTF.out _ ?assign ?body ?done ?stop
    case hKb => exact fun W l o o' hl ho _ _ => World.putObj_heap_other (by omega)
    case assign =>
      intro l x W K hK
      gi_wp2
      exact hK
    case body =>
      intro l pre x W hI hpre
      have HI := hid hI
      have hn3 := tilesP_n c X Y n pre TL.nil
      change (tilesP c X Y n pre).n ≤ _ at hn3
      obtain ⟨sN, hsN⟩ : ∃ sN, tilesP c X Y n pre = sN := ⟨_, rfl⟩
      have HSN := hid hsN
      rw [hsN] at HI hn3
      have hn4 : sN.n < 1000000000 := by simp [TL.nil] at hn3; omega
      obtain ⟨i, hi⟩ : ∃ i : Nat, (x.1 : Nat) = i := ⟨_, rfl⟩
      obtain ⟨j, hj⟩ : ∃ i : Nat, (x.2 : Nat) = i := ⟨_, rfl⟩
      have hi2 : i < 2 := hi ▸ x.1.2
      have hj2 : j < 2 := hj ▸ x.2.2
      have hto := fun W => tileOf_any (X + (i : Int)) (Y + (j : Int)) c n W ⟨by omega, by omega⟩ ⟨by omega, by omega⟩ n1 n2
      have hIt : (tileC c X Y n x).I := tileC_I ⟨by omega, by omega⟩ n1 n2
      have htc : tileC c X Y n x = ⟨c, fmod (X + (i : Int)) n / 2, fmod (Y + (j : Int)) n / 2⟩ := by unfold tileC; rw [hi, hj]
      obtain ⟨XX, hXX⟩ : ∃ X', fmod (X + (i : Int)) (n : Int) / 2 = X' := ⟨_, rfl⟩
      obtain ⟨YY, hYY⟩ : ∃ X', fmod (Y + (j : Int)) (n : Int) / 2 = X' := ⟨_, rfl⟩
      rw [hXX, hYY] at htc
      simp only [hXX, hYY, tileV] at hto
      rw [htc] at hIt
      have HTO := hid hto
      have HTI := hid hIt
      have HTC := hid htc
      obtain ⟨b, hb⟩ : ∃ b, sN.has ⟨c, XX, YY⟩ = b := ⟨_, rfl⟩
      have HS := hid hb
      have p0 := blk_cell0 hI.lv
      have p1 := blk_cell0 hI.mb
      have p2 := blk_cell1 hI.mb
      have p3 := blk_cell0 hI.xb
      have p4 := blk_cell0 hI.yb
      have r0 := lt_of_block hI.lv
      have r1 := lt_of_block hI.mb
      have r2 := lt_of_block hI.xb
      have r3 := lt_of_block hI.yb
      rw [hi, hj]
      clear hto hIt htc hXX hYY hb hi hj hsN hI hn3
      refine wpIn_block ?_
      refine wpIn_seq_k fun K0 HK0 => ?_
      refine wpIn_region_Z 11 W.heap.size (by kernel_rfl) (by kernel_rfl) (fun ⟨_, _, h⟩ => h) ?_
      refine wpZ_stage (fuel := 3) [0, 1, 2, 3, 4, 5, 6, 7] [8, 10] (by kernel_rfl) (fun b _ hb => rfl) ?_
      try simp only [Act.put, List.setIfInBounds_toArray, List.set_cons_succ, List.set_cons_zero]
      simp only [List.filterMap_cons, List.filterMap_nil, List.getElem?_toArray, List.getElem?_cons_zero, List.getElem?_cons_succ]
      show wpQuiet _ _ _ _ [_, _, _, _, _, _, _, _] _
      repeat (go_big_quiet_step (fail))
      refine wpQuiet_nil ?_
      intro e he
      simp only [List.mem_cons, List.not_mem_nil, or_false] at he
      rcases he with rfl | rfl
      · (unfold wpComes; simp only [List.getElem?_toArray, List.getElem?_cons_succ, List.getElem?_cons_zero, Option.some.injEq]; refine ⟨_, rfl, fun K hK => ?_⟩)
        go_wp2_with fail
        refine (side_val m0 m4 HN.out _).mono ?_
        rintro e a0 ⟨rfl, y0⟩
        have u0 : Ext W a0 := Ext.trans (by repeat (with_reducible (first | assumption | exact Ext.refl _ | apply Ext.alloc | apply Ext.drew | apply Ext.drewN))) y0
        go_wp2_with fail
        refine hK _ _ (.inr (fun b _ hb => Ext.block (w := W) (by repeat (with_reducible (first | assumption | exact Ext.refl _ | apply Ext.alloc | apply Ext.drew | apply Ext.drewN))) (by omega))) ?_
        clear hK K
        refine wpZ_stage (fuel := 2) [] [9, 10] (by kernel_rfl) (fun b _ hb => Ext.block u0 (by omega)) ?_
        refine wpQuiet_nil ?_
        intro e he
        simp only [List.mem_cons, List.not_mem_nil, or_false] at he
        rcases he with rfl | rfl
        · (unfold wpComes; simp only [List.getElem?_toArray, List.getElem?_cons_succ, List.getElem?_cons_zero, Option.some.injEq]; refine ⟨_, rfl, fun K hK => ?_⟩)
          go_wp2_with fail
          refine (HTO.out _).mono ?_
          rintro e a01 ⟨rfl, y01⟩
          have u01 : Ext W a01 := Ext.trans (by repeat (with_reducible (first | assumption | exact Ext.refl _ | apply Ext.alloc | apply Ext.drew | apply Ext.drewN))) y01
          go_wp2_with fail
          refine hK _ _ (.inr (fun b _ hb => Ext.block (w := W) (by repeat (with_reducible (first | assumption | exact Ext.refl _ | apply Ext.alloc | apply Ext.drew | apply Ext.drewN))) (by omega))) ?_
          clear hK K
          refine wpZ_stage (fuel := 1) [] [10] (by kernel_rfl) (fun b _ hb => Ext.block u01 (by omega)) ?_
          refine wpQuiet_nil ?_
          intro e he
          simp only [List.mem_cons, List.not_mem_nil, or_false] at he
          subst he
          (unfold wpComes; simp only [List.getElem?_toArray, List.getElem?_cons_succ, List.getElem?_cons_zero, Option.some.injEq]; refine ⟨_, rfl, fun K hK => ?_⟩)
          go_wp2
          have hA01A : W.heap.size ≤ a01.heap.size := u01.size
          refine hK _ _ (.inr (fun b _ hb => Ext.block (w := W) (by repeat (with_reducible (first | assumption | exact Ext.refl _ | apply Ext.alloc | apply Ext.drew | apply Ext.drewN))) (by omega))) ?_
          clear hK K
          obtain ⟨d01A, hd01A⟩ : ∃ d, d = a01.alloc (.cells #[.int .i64 0, .int .i64 0, .int .i64 0] 60) := ⟨_, rfl⟩
          rw [← hd01A]
          have u01A : Ext W d01A := by rw [hd01A]; exact (by repeat (with_reducible (first | assumption | exact Ext.refl _ | apply Ext.alloc | apply Ext.drew | apply Ext.drewN)))
          have b01A : BX d01A a01.heap.size 0 0 0 := hd01A ▸ BX.made _ _
          clear hd01A
          refine wpZ_stage (fuel := 0) [] [11] (by kernel_rfl) (fun b _ hb => Ext.block u01A (by omega)) ?_
          refine wpQuiet_nil ?_
          intro e he
          simp only [List.mem_cons, List.not_mem_nil, or_false] at he
          subst he
          (unfold wpComes; simp only [List.getElem?_toArray, List.getElem?_cons_succ, List.getElem?_cons_zero, Option.some.injEq]; refine ⟨_, rfl, fun K hK => ?_⟩)
          obtain ⟨z0, z1, z2, z3, z4, z5, z6⟩ := b01A
          go_wp2
          refine hK _ _ (.inl (by trivial)) ?_
          clear hK K
          refine wpZ_end (by kernel_rfl) ?_
          have hlt := hA01A
          have hE : Ext W (((d01A.setCell ⟨a01.heap.size, 0, none⟩ (.int .i64 c)).setCell ⟨a01.heap.size, 1, none⟩ (.int .i64 XX)).setCell ⟨a01.heap.size, 2, none⟩ (.int .i64 YY)) := Ext.setCell (Ext.setCell (Ext.setCell u01A hlt _) hlt _) hlt _
          have hbx : BX (((d01A.setCell ⟨a01.heap.size, 0, none⟩ (.int .i64 c)).setCell ⟨a01.heap.size, 1, none⟩ (.int .i64 XX)).setCell ⟨a01.heap.size, 2, none⟩ (.int .i64 YY)) (a01.heap.size) c XX YY := by constructor <;> simp [go_sem, *]
          clear z0 z1 z2 z3 z4 z5 z6
          obtain ⟨A, hA⟩ : ∃ A, a01.heap.size = A := ⟨_, rfl⟩
          rw [hA] at hE hbx hlt ⊢
          obtain ⟨wx, hwx⟩ : ∃ wx, ((d01A.setCell ⟨A, 0, none⟩ (.int .i64 c)).setCell ⟨A, 1, none⟩ (.int .i64 XX)).setCell ⟨A, 2, none⟩ (.int .i64 YY) = wx := ⟨_, rfl⟩
          rw [hwx] at hE hbx ⊢
          clear hwx hA
          have T2 := hid (HI.out.to hE)
          obtain ⟨tv, tb1, tb2⟩ := T2.out.tb
          obtain ⟨ta, tc, rfl, tlen⟩ := tb2.form
          have k0 := blk_cell0 tb1
          have k1 := hbx.lt
          have k2 := hbx.c0
          have k3 := hbx.c1
          have k4 := hbx.c2
          have k5 := lt_of_block tb1
          refine HK0 _ _ (wpIn_seq_k fun K1 HK1 => ?_)
          refine wpIn_region_plain (by kernel_rfl) (fun ⟨_, _, h⟩ => h) ?_
          go_wp2_with fail
          refine (tileContains_val HS.out _ _ _ _ tb2.R (Nat.le_refl _)).mono ?_
          rintro e wy ⟨rfl, yy⟩
          have T3 := hid (T2.out.to yy)
          have B3 := hbx.ext yy
          have E3 := hE.trans yy
          have tb3 := keepBlk tb1 yy
          have to3 := tb2.ext yy
          clear k0 k1 k2 k3 k4 k5 tb1 tb2 hbx hE
          go_wp2_with fail
          cases b
          · refine wpIn_cond_true rfl ?_
            refine wpIn_region_plain (by kernel_rfl) (fun ⟨_, _, h⟩ => h) ?_
            have k0 := blk_cell0 tb3
            have k1 := B3.lt
            have k2 := B3.c0
            have k3 := B3.c1
            have k4 := B3.c2
            have k5 := lt_of_block tb3
            have k6 : wy.frozen? ⟨w3.heap.size + 1 + 1, 0, none⟩ = false := by simp [World.frozen?, tb3]
            go_wp2_with (at_builtin; refine wpList_append_tile _ rfl _ _ rfl w.heap.size (.slice ta sN.n tc) sN rfl (to3.ext (by repeat (with_reducible (first | assumption | exact Ext.refl _ | apply Ext.alloc | apply Ext.drew | apply Ext.drewN)))) ⟨c, XX, YY⟩ HTI.out wy.heap.size rfl (by simp [go_sem]) (by simp [go_sem]) (by simp [go_sem]) (by omega) (by have := T3.out.ext.size; simp; omega) ?_; intro v' w7 hown hg; obtain ⟨va, vc, rfl, _⟩ := hown.form; have g1 := appKeep hg to3 tb3; have g2 := blk_cell0 g1; have g3 : w7.frozen? ⟨w3.heap.size + 1 + 1, 0, none⟩ = false := by simp [World.frozen?, g1])
            have T4 := T3.out.push tb3 to3 hg hown
            refine ⟨((((Ext.others E3).trans (KeepsOthers.alloc _ _)).trans (KeepsOthers.of_grownBy hg (own_cells to3))).trans (KeepsOthers.setCell _ _ _)).from _, T4.nb.trans HI.out.nb.symm, ?_⟩
            show TF _ _ _ _ _ _ _ _ _ _ _ _ (tilesP c X Y n (pre ++ [x]))
            rw [tilesP_snoc, HSN.out, HTC.out, TL.add, if_neg (by rw [HS.out]; decide)]
            exact T4
          · refine wpIn_cond_false rfl ?_
            refine wpIn_skip ?_
            refine ⟨(Ext.others E3).from _, (E3.block (lt_of_block HI.out.nb)), ?_⟩
            show TF _ _ _ _ _ _ _ _ _ _ _ _ (tilesP c X Y n (pre ++ [x]))
            rw [tilesP_snoc, HSN.out, HTC.out, TL.add, if_pos HS.out]
            exact T3.out
        · (unfold wpComes; simp only [List.getElem?_toArray, List.getElem?_cons_succ, List.getElem?_cons_zero, Option.some.injEq]; refine ⟨_, rfl, fun K hK => ?_⟩)
          go_wp2
          have hA0A : W.heap.size ≤ a0.heap.size := u0.size
          refine hK _ _ (.inr (fun b _ hb => Ext.block (w := W) (by repeat (with_reducible (first | assumption | exact Ext.refl _ | apply Ext.alloc | apply Ext.drew | apply Ext.drewN))) (by omega))) ?_
          clear hK K
          obtain ⟨d0A, hd0A⟩ : ∃ d, d = a0.alloc (.cells #[.int .i64 0, .int .i64 0, .int .i64 0] 60) := ⟨_, rfl⟩
          rw [← hd0A]
          have u0A : Ext W d0A := by rw [hd0A]; exact (by repeat (with_reducible (first | assumption | exact Ext.refl _ | apply Ext.alloc | apply Ext.drew | apply Ext.drewN)))
          have b0A : BX d0A a0.heap.size 0 0 0 := hd0A ▸ BX.made _ _
          clear hd0A
          refine wpZ_stage (fuel := 1) [] [9] (by kernel_rfl) (fun b _ hb => Ext.block u0A (by omega)) ?_
          refine wpQuiet_nil ?_
          intro e he
          simp only [List.mem_cons, List.not_mem_nil, or_false] at he
          subst he
          (unfold wpComes; simp only [List.getElem?_toArray, List.getElem?_cons_succ, List.getElem?_cons_zero, Option.some.injEq]; refine ⟨_, rfl, fun K hK => ?_⟩)
          go_wp2_with fail
          refine (HTO.out _).mono ?_
          rintro e a0A1 ⟨rfl, y0A1⟩
          have u0A1 : Ext W a0A1 := Ext.trans (by repeat (with_reducible (first | assumption | exact Ext.refl _ | apply Ext.alloc | apply Ext.drew | apply Ext.drewN))) y0A1
          have b0A1 := b0A.ext y0A1
          go_wp2_with fail
          refine hK _ _ (.inr (fun b _ hb => Ext.block (w := W) (by repeat (with_reducible (first | assumption | exact Ext.refl _ | apply Ext.alloc | apply Ext.drew | apply Ext.drewN))) (by omega))) ?_
          clear hK K
          refine wpZ_stage (fuel := 0) [] [11] (by kernel_rfl) (fun b _ hb => Ext.block u0A1 (by omega)) ?_
          refine wpQuiet_nil ?_
          intro e he
          simp only [List.mem_cons, List.not_mem_nil, or_false] at he
          subst he
          (unfold wpComes; simp only [List.getElem?_toArray, List.getElem?_cons_succ, List.getElem?_cons_zero, Option.some.injEq]; refine ⟨_, rfl, fun K hK => ?_⟩)
          obtain ⟨z0, z1, z2, z3, z4, z5, z6⟩ := b0A1
          go_wp2
          refine hK _ _ (.inl (by trivial)) ?_
          clear hK K
          refine wpZ_end (by kernel_rfl) ?_
          have hlt := hA0A
          have hE : Ext W (((a0A1.setCell ⟨a0.heap.size, 0, none⟩ (.int .i64 c)).setCell ⟨a0.heap.size, 1, none⟩ (.int .i64 XX)).setCell ⟨a0.heap.size, 2, none⟩ (.int .i64 YY)) := Ext.setCell (Ext.setCell (Ext.setCell u0A1 hlt _) hlt _) hlt _
          have hbx : BX (((a0A1.setCell ⟨a0.heap.size, 0, none⟩ (.int .i64 c)).setCell ⟨a0.heap.size, 1, none⟩ (.int .i64 XX)).setCell ⟨a0.heap.size, 2, none⟩ (.int .i64 YY)) (a0.heap.size) c XX YY := by constructor <;> simp [go_sem, *]
          clear z0 z1 z2 z3 z4 z5 z6
          obtain ⟨A, hA⟩ : ∃ A, a0.heap.size = A := ⟨_, rfl⟩
          rw [hA] at hE hbx hlt ⊢
          obtain ⟨wx, hwx⟩ : ∃ wx, ((a0A1.setCell ⟨A, 0, none⟩ (.int .i64 c)).setCell ⟨A, 1, none⟩ (.int .i64 XX)).setCell ⟨A, 2, none⟩ (.int .i64 YY) = wx := ⟨_, rfl⟩
          rw [hwx] at hE hbx ⊢
          clear hwx hA
          have T2 := hid (HI.out.to hE)
          obtain ⟨tv, tb1, tb2⟩ := T2.out.tb
          obtain ⟨ta, tc, rfl, tlen⟩ := tb2.form
          have k0 := blk_cell0 tb1
          have k1 := hbx.lt
          have k2 := hbx.c0
          have k3 := hbx.c1
          have k4 := hbx.c2
          have k5 := lt_of_block tb1
          refine HK0 _ _ (wpIn_seq_k fun K1 HK1 => ?_)
          refine wpIn_region_plain (by kernel_rfl) (fun ⟨_, _, h⟩ => h) ?_
          go_wp2_with fail
          refine (tileContains_val HS.out _ _ _ _ tb2.R (Nat.le_refl _)).mono ?_
          rintro e wy ⟨rfl, yy⟩
          have T3 := hid (T2.out.to yy)
          have B3 := hbx.ext yy
          have E3 := hE.trans yy
          have tb3 := keepBlk tb1 yy
          have to3 := tb2.ext yy
          clear k0 k1 k2 k3 k4 k5 tb1 tb2 hbx hE
          go_wp2_with fail
          cases b
          · refine wpIn_cond_true rfl ?_
            refine wpIn_region_plain (by kernel_rfl) (fun ⟨_, _, h⟩ => h) ?_
            have k0 := blk_cell0 tb3
            have k1 := B3.lt
            have k2 := B3.c0
            have k3 := B3.c1
            have k4 := B3.c2
            have k5 := lt_of_block tb3
            have k6 : wy.frozen? ⟨w3.heap.size + 1 + 1, 0, none⟩ = false := by simp [World.frozen?, tb3]
            go_wp2_with (at_builtin; refine wpList_append_tile _ rfl _ _ rfl w.heap.size (.slice ta sN.n tc) sN rfl (to3.ext (by repeat (with_reducible (first | assumption | exact Ext.refl _ | apply Ext.alloc | apply Ext.drew | apply Ext.drewN)))) ⟨c, XX, YY⟩ HTI.out wy.heap.size rfl (by simp [go_sem]) (by simp [go_sem]) (by simp [go_sem]) (by omega) (by have := T3.out.ext.size; simp; omega) ?_; intro v' w7 hown hg; obtain ⟨va, vc, rfl, _⟩ := hown.form; have g1 := appKeep hg to3 tb3; have g2 := blk_cell0 g1; have g3 : w7.frozen? ⟨w3.heap.size + 1 + 1, 0, none⟩ = false := by simp [World.frozen?, g1])
            have T4 := T3.out.push tb3 to3 hg hown
            refine ⟨((((Ext.others E3).trans (KeepsOthers.alloc _ _)).trans (KeepsOthers.of_grownBy hg (own_cells to3))).trans (KeepsOthers.setCell _ _ _)).from _, T4.nb.trans HI.out.nb.symm, ?_⟩
            show TF _ _ _ _ _ _ _ _ _ _ _ _ (tilesP c X Y n (pre ++ [x]))
            rw [tilesP_snoc, HSN.out, HTC.out, TL.add, if_neg (by rw [HS.out]; decide)]
            exact T4
          · refine wpIn_cond_false rfl ?_
            refine wpIn_skip ?_
            refine ⟨(Ext.others E3).from _, (E3.block (lt_of_block HI.out.nb)), ?_⟩
            show TF _ _ _ _ _ _ _ _ _ _ _ _ (tilesP c X Y n (pre ++ [x]))
            rw [tilesP_snoc, HSN.out, HTC.out, TL.add, if_pos HS.out]
            exact T3.out
      · (unfold wpComes; simp only [List.getElem?_toArray, List.getElem?_cons_succ, List.getElem?_cons_zero, Option.some.injEq]; refine ⟨_, rfl, fun K hK => ?_⟩)
        go_wp2
        have hAA : W.heap.size ≤ W.heap.size := Nat.le_refl _
        refine hK _ _ (.inr (fun b _ hb => Ext.block (w := W) (by repeat (with_reducible (first | assumption | exact Ext.refl _ | apply Ext.alloc | apply Ext.drew | apply Ext.drewN))) (by omega))) ?_
        clear hK K
        obtain ⟨dA, hdA⟩ : ∃ d, d = (W.alloc (.cells #[.int .i64 0, .int .i64 0, .int .i64 0] 60)).drew := ⟨_, rfl⟩
        rw [← hdA]
        have uA : Ext W dA := by rw [hdA]; exact (by repeat (with_reducible (first | assumption | exact Ext.refl _ | apply Ext.alloc | apply Ext.drew | apply Ext.drewN)))
        have bA : BX dA W.heap.size 0 0 0 := hdA ▸ (BX.made _ _).ext (Ext.drew (Ext.refl _))
        clear hdA
        refine wpZ_stage (fuel := 2) [] [8] (by kernel_rfl) (fun b _ hb => Ext.block uA (by omega)) ?_
        refine wpQuiet_nil ?_
        intro e he
        simp only [List.mem_cons, List.not_mem_nil, or_false] at he
        subst he
        (unfold wpComes; simp only [List.getElem?_toArray, List.getElem?_cons_succ, List.getElem?_cons_zero, Option.some.injEq]; refine ⟨_, rfl, fun K hK => ?_⟩)
        go_wp2_with fail
        refine (side_val m0 m4 HN.out _).mono ?_
        rintro e aA0 ⟨rfl, yA0⟩
        have uA0 : Ext W aA0 := Ext.trans (by repeat (with_reducible (first | assumption | exact Ext.refl _ | apply Ext.alloc | apply Ext.drew | apply Ext.drewN))) yA0
        have bA0 := bA.ext yA0
        go_wp2_with fail
        refine hK _ _ (.inr (fun b _ hb => Ext.block (w := W) (by repeat (with_reducible (first | assumption | exact Ext.refl _ | apply Ext.alloc | apply Ext.drew | apply Ext.drewN))) (by omega))) ?_
        clear hK K
        refine wpZ_stage (fuel := 1) [] [9] (by kernel_rfl) (fun b _ hb => Ext.block uA0 (by omega)) ?_
        refine wpQuiet_nil ?_
        intro e he
        simp only [List.mem_cons, List.not_mem_nil, or_false] at he
        subst he
        (unfold wpComes; simp only [List.getElem?_toArray, List.getElem?_cons_succ, List.getElem?_cons_zero, Option.some.injEq]; refine ⟨_, rfl, fun K hK => ?_⟩)
        go_wp2_with fail
        refine (HTO.out _).mono ?_
        rintro e aA01 ⟨rfl, yA01⟩
        have uA01 : Ext W aA01 := Ext.trans (by repeat (with_reducible (first | assumption | exact Ext.refl _ | apply Ext.alloc | apply Ext.drew | apply Ext.drewN))) yA01
        have bA01 := bA0.ext yA01
        go_wp2_with fail
        refine hK _ _ (.inr (fun b _ hb => Ext.block (w := W) (by repeat (with_reducible (first | assumption | exact Ext.refl _ | apply Ext.alloc | apply Ext.drew | apply Ext.drewN))) (by omega))) ?_
        clear hK K
        refine wpZ_stage (fuel := 0) [] [11] (by kernel_rfl) (fun b _ hb => Ext.block uA01 (by omega)) ?_
        refine wpQuiet_nil ?_
        intro e he
        simp only [List.mem_cons, List.not_mem_nil, or_false] at he
        subst he
        (unfold wpComes; simp only [List.getElem?_toArray, List.getElem?_cons_succ, List.getElem?_cons_zero, Option.some.injEq]; refine ⟨_, rfl, fun K hK => ?_⟩)
        obtain ⟨z0, z1, z2, z3, z4, z5, z6⟩ := bA01
        go_wp2
        refine hK _ _ (.inl (by trivial)) ?_
        clear hK K
        refine wpZ_end (by kernel_rfl) ?_
        have hlt := hAA
        have hE : Ext W (((aA01.setCell ⟨W.heap.size, 0, none⟩ (.int .i64 c)).setCell ⟨W.heap.size, 1, none⟩ (.int .i64 XX)).setCell ⟨W.heap.size, 2, none⟩ (.int .i64 YY)) := Ext.setCell (Ext.setCell (Ext.setCell uA01 hlt _) hlt _) hlt _
        have hbx : BX (((aA01.setCell ⟨W.heap.size, 0, none⟩ (.int .i64 c)).setCell ⟨W.heap.size, 1, none⟩ (.int .i64 XX)).setCell ⟨W.heap.size, 2, none⟩ (.int .i64 YY)) (W.heap.size) c XX YY := by constructor <;> simp [go_sem, *]
        clear z0 z1 z2 z3 z4 z5 z6
        obtain ⟨A, hA⟩ : ∃ A, W.heap.size = A := ⟨_, rfl⟩
        rw [hA] at hE hbx hlt ⊢
        obtain ⟨wx, hwx⟩ : ∃ wx, ((aA01.setCell ⟨A, 0, none⟩ (.int .i64 c)).setCell ⟨A, 1, none⟩ (.int .i64 XX)).setCell ⟨A, 2, none⟩ (.int .i64 YY) = wx := ⟨_, rfl⟩
        rw [hwx] at hE hbx ⊢
        clear hwx hA
        have T2 := hid (HI.out.to hE)
        obtain ⟨tv, tb1, tb2⟩ := T2.out.tb
        obtain ⟨ta, tc, rfl, tlen⟩ := tb2.form
        have k0 := blk_cell0 tb1
        have k1 := hbx.lt
        have k2 := hbx.c0
        have k3 := hbx.c1
        have k4 := hbx.c2
        have k5 := lt_of_block tb1
        refine HK0 _ _ (wpIn_seq_k fun K1 HK1 => ?_)
        refine wpIn_region_plain (by kernel_rfl) (fun ⟨_, _, h⟩ => h) ?_
        go_wp2_with fail
        refine (tileContains_val HS.out _ _ _ _ tb2.R (Nat.le_refl _)).mono ?_
        rintro e wy ⟨rfl, yy⟩
        have T3 := hid (T2.out.to yy)
        have B3 := hbx.ext yy
        have E3 := hE.trans yy
        have tb3 := keepBlk tb1 yy
        have to3 := tb2.ext yy
        clear k0 k1 k2 k3 k4 k5 tb1 tb2 hbx hE
        go_wp2_with fail
        cases b
        · refine wpIn_cond_true rfl ?_
          refine wpIn_region_plain (by kernel_rfl) (fun ⟨_, _, h⟩ => h) ?_
          have k0 := blk_cell0 tb3
          have k1 := B3.lt
          have k2 := B3.c0
          have k3 := B3.c1
          have k4 := B3.c2
          have k5 := lt_of_block tb3
          have k6 : wy.frozen? ⟨w3.heap.size + 1 + 1, 0, none⟩ = false := by simp [World.frozen?, tb3]
          go_wp2_with (at_builtin; refine wpList_append_tile _ rfl _ _ rfl w.heap.size (.slice ta sN.n tc) sN rfl (to3.ext (by repeat (with_reducible (first | assumption | exact Ext.refl _ | apply Ext.alloc | apply Ext.drew | apply Ext.drewN)))) ⟨c, XX, YY⟩ HTI.out wy.heap.size rfl (by simp [go_sem]) (by simp [go_sem]) (by simp [go_sem]) (by omega) (by have := T3.out.ext.size; simp; omega) ?_; intro v' w7 hown hg; obtain ⟨va, vc, rfl, _⟩ := hown.form; have g1 := appKeep hg to3 tb3; have g2 := blk_cell0 g1; have g3 : w7.frozen? ⟨w3.heap.size + 1 + 1, 0, none⟩ = false := by simp [World.frozen?, g1])
          have T4 := T3.out.push tb3 to3 hg hown
          refine ⟨((((Ext.others E3).trans (KeepsOthers.alloc _ _)).trans (KeepsOthers.of_grownBy hg (own_cells to3))).trans (KeepsOthers.setCell _ _ _)).from _, T4.nb.trans HI.out.nb.symm, ?_⟩
          show TF _ _ _ _ _ _ _ _ _ _ _ _ (tilesP c X Y n (pre ++ [x]))
          rw [tilesP_snoc, HSN.out, HTC.out, TL.add, if_neg (by rw [HS.out]; decide)]
          exact T4
        · refine wpIn_cond_false rfl ?_
          refine wpIn_skip ?_
          refine ⟨(Ext.others E3).from _, (E3.block (lt_of_block HI.out.nb)), ?_⟩
          show TF _ _ _ _ _ _ _ _ _ _ _ _ (tilesP c X Y n (pre ++ [x]))
          rw [tilesP_snoc, HSN.out, HTC.out, TL.add, if_pos HS.out]
          exact T3.out
    case done =>
      rintro D ys W hD rfl hI hK
      obtain ⟨tv, tb1, tb2⟩ := hI.tb
      obtain ⟨ta, tc, rfl, tlen⟩ := tb2.form
      have k0 := blk_cell0 tb1
      have k5 := lt_of_block tb1
      have HI := hid hI
      clear hI tb1
      go_wp2_with fail
      refine ⟨by simp, .inl ⟨_, _, rfl, run_takeDeferred hK, ?_⟩⟩
      refine ⟨_, results_tmp rfl _ _ _, _, rfl, ?_, ?_⟩
      · exact TL.Own.owns (s := tilesTo c X Y n 4) tb2 (grownBy_putObj' W D _) (fun r e => by cases e; exact ⟨_, hK, rfl⟩)
      · exact HI.out.ext.grown (grownBy_putObj' W D _) (fun k e => by cases e; omega)
    case stop =>
      rintro D c pre W _ _ h _
      exact h.elim
  · have e1 : t.tilesR ua va l = TL.nil := by unfold Tex.tilesR; rw [if_neg hb]
    rw [e1]
    have HB := hid (Bool.eq_false_iff.2 hb)
    clear hb e1
    refine (callsIn_wide (n := 3)).1 ?_
    refine callsIn_of_wp_marks Try.func28 rfl trivial ?_ rfl
    simp only [Try.ntmps28, List.size_toArray, List.length_cons, List.length_nil, Nat.reduceAdd, Nat.reduceSub, Array.replicate_succ, Array.replicate_zero, List.push_toArray, List.append_toArray, List.nil_append, List.cons_append]
    refine wpIn_wide.2 ?_
    go_wp2_with fail
    refine (iIsValidTexture_val HB.out lo hi _ _ (HV.out.ext hh (by repeat (with_reducible (first | assumption | exact Ext.refl _ | apply Ext.alloc | apply Ext.drew | apply Ext.drewN)))) (by simp; omega)).mono ?_
    rintro e w1 ⟨rfl, h1⟩
    go_wp2
    exact ⟨_, results_tmp rfl _ _ _, _, rfl, TL.nil_own _ _, Ext.trans (by repeat (with_reducible (first | assumption | exact Ext.refl _ | apply Ext.alloc | apply Ext.drew | apply Ext.drewN))) h1⟩
end Go.Proofs.Ytcogkglkioejaaa
