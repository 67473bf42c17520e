/- This text proves what the program's FlipImage hands back for a valid image. -/
import Derived.Test.YtodblnccgpiigaaDoorImgH
import Derived.Deep.Cut
import Derived.Deep.CutRange
namespace Go.Proofs.YtodblnccgpiigaaDoor
open Go.RowKit

theorem cloneInts (lo hi : Nat) (u : Value) (xs : List Int) (w : World) (hu : Ints lo hi w u xs) (h1 : 1 ≤ xs.length) (h2 : xs.length ≤ 1000000000) :
    Calls Tryd.prog 37 #[u] w fun e w' => ∃ v, e = .returned v ∧ OwnInts w.heap.size w' v xs ∧ Ext w w' := by
  obtain ⟨a, c, rfl, HU⟩ := hu.open
  obtain ⟨b, off, rfl, _, _, _⟩ := HU.at (k := 0) (by omega)
  refine (Tryd.slices_Clone_int b off xs.length c xs w (Nat.le_refl _) (by omega) (fun j hj => ?_)).mono ?_
  · obtain ⟨_, b1, o1, e, _, _, h⟩ := HU.cell j xs[j] (by simp [hj])
    simp only [Option.some.injEq, Addr.mk.injEq, and_true] at e
    obtain ⟨rfl, rfl⟩ := e
    rw [h]
    simp [hj]
  · rintro e w' ⟨v, rfl, ho, _, hb⟩
    refine ⟨v, rfl, ⟨by rw [List.take_length] at ho; exact ho, fun x hx => ?_⟩, hb⟩
    obtain ⟨i, hi, rfl⟩ := List.getElem_of_mem hx
    exact HU.i64 hi
theorem clone_val {lo hi : Nat} {u : Value} {xs : List Int} (h1 : 1 ≤ xs.length) (h2 : xs.length ≤ 1000000000) (w : World) (hu : Ints lo hi w u xs) :
    Calls Tryd.prog 37 #[u] w fun e w' => ∃ a c, e = .returned (.slice a xs.length c) ∧ OwnInts w.heap.size w' (.slice a xs.length c) xs ∧ Ext w w' := by
  refine (cloneInts lo hi u xs w hu h1 h2).mono ?_
  rintro e w' ⟨v, rfl, ho, hx⟩
  obtain ⟨a, c, rfl, _⟩ := ho.form
  exact ⟨a, c, rfl, ho, hx⟩

theorem revSeg {lo g c n o m cap : Nat} {xs : List Int} (w : World) (h : OwnInts lo w (.slice (some ⟨g, 0, none⟩) n c) xs) (hn : n = xs.length) (hm : o + m ≤ xs.length) (h2 : xs.length ≤ 1000000) :
    Calls Tryd.prog 38 #[.slice (some ⟨g, o, none⟩) m cap] w fun e w' => e = .returned (.tuple #[]) ∧ OwnInts lo w' (.slice (some ⟨g, 0, none⟩) n c) (setsL xs o ((xs.drop o).take m).reverse) ∧ w.grownBy w' (some g) := by
  have hl : ((xs.drop o).take m).length = m := by rw [List.length_take, List.length_drop]; omega
  have hcell : ∀ j (hj : j < m), w.cell? ⟨g, o + j, none⟩ = some (.int .i64 (((xs.drop o).take m).getD j 0)) ∧ w.frozen? ⟨g, o + j, none⟩ = false := by
    intro j hj
    obtain ⟨g', y, e, _, _, hy, hc, hf, _⟩ := h.at hn (k := o + j) (by omega)
    simp only [Option.some.injEq, Addr.mk.injEq, and_true] at e
    subst e
    refine ⟨?_, hf⟩
    rw [hc, List.getD_eq_getElem?_getD, List.getElem?_take, if_pos hj, List.getElem?_drop, hy]
    rfl
  have hc := Tryd.slices_Reverse_int_cells g o m cap ((xs.drop o).take m) w (by omega) (by omega) (fun j hj => (hcell j (by omega)).1) (fun j hj => (hcell j hj).2)
  refine hc.mono ?_
  rintro e w' ⟨rfl, q, rfl⟩
  have hq := h.drewN q
  have hi : ∀ y ∈ ((xs.drop o).take m).reverse, I64 y := fun y hy => h.2 y (List.mem_of_mem_drop (List.mem_of_mem_take (List.mem_reverse.1 hy)))
  rw [List.take_of_length_le (Nat.le_of_eq hl)]
  obtain ⟨h1, h3⟩ := OwnInts.sets (((xs.drop o).take m).reverse) o n hq hn hi (by rw [List.length_reverse, hl]; exact hm)
  exact ⟨rfl, h1, grownBy.trans ((show Ext w (w.drewN q) from (by repeat (with_reducible (first | assumption | exact Ext.refl _ | apply Ext.alloc | apply Ext.drew | apply Ext.drewN)))).gr _) h3⟩

/-- what the loop of FlipImage holds on to -/
structure FSt (w0 w : World) (g : Nat) (W H : Int) (v : Value) (px : List Int) : Prop where
  ext : Ext w0 w
  low : w0.heap.size ≤ g
  box : Blk w g 25 [.int .i64 W, .int .i64 H, v]
  own : OwnInts w0.heap.size w v px
  ne : ∀ k, v.ownBlock = some k → k ≠ g
theorem FSt.to {w0 w w' : World} {g : Nat} {W H : Int} {v : Value} {px : List Int} (h : FSt w0 w g W H v px) (e : Ext w w') : FSt w0 w' g W H v px := ⟨h.ext.trans e, h.low, h.box.ext e, h.own.ext e, h.ne⟩

set_option maxRecDepth 10000 in
set_option maxHeartbeats 1600000 in
theorem FlipImage_any (lo hi : Nat) (v : Value) (I : Pic) (w : World) (hv : I.R lo hi w v) (hh : hi ≤ w.heap.size) (hok : I.okB = true) :
    Calls Tryd.prog 12 #[v] w fun e w' => ∃ v', e = .returned v' ∧ (⟨I.w, I.h, flipR I.w.toNat I.h.toNat I.px⟩ : Pic).Own w.heap.size w' v' ∧ Ext w w' := by
  have HV := hid hv
  have HK := hid hok
  obtain ⟨W, H, b, off, c, hW, hH, hW1, hH1, eW, eH, hl, rfl, hb1, hb2, HU⟩ := hv.shape hok
  have l1 := HU.le
  have l2 := HU.cap
  have hm : H * W ≤ 12 * 12 := Nat.mul_le_mul hH hW
  have hm1 : 1 ≤ H * W := Nat.mul_le_mul hH1 hW1
  obtain ⟨n, hn⟩ : ∃ n, H * W = n := ⟨_, rfl⟩
  have HU' := HU.shut
  rw [hn] at hl hm hm1 HV ⊢
  rw [hl] at HU'
  have hl' := hid hl
  replace hn := hid hn
  replace HU' := hid HU'
  rw [eW, eH, Int.toNat_natCast, Int.toNat_natCast]
  have hc1 := hid (fun w hu => hl ▸ clone_val (lo := lo) (hi := hi) (u := .slice (some ⟨b, off, none⟩) n c) (xs := I.px) (by omega) (by omega) w hu)
  clear hv hok eW eH hl l1 HU
  go_enter Tryd.func12, Tryd.ntmps12
  go_wp2
  obtain ⟨w1, hw1⟩ : ∃ w1, (w.alloc (.cells #[.int .i64 (W : Nat), .int .i64 (H : Nat), .slice (some ⟨b, off, none⟩) n c] 25)).alloc (.cells #[.int .i64 0, .int .i64 0, .slice none 0 0] 25) = w1 := ⟨_, rfl⟩
  have X1 : Ext w w1 := by rw [← hw1]; exact (by repeat (with_reducible (first | assumption | exact Ext.refl _ | apply Ext.alloc | apply Ext.drew | apply Ext.drewN)))
  have B1 : Blk w1 w.heap.size 25 [.int .i64 (W : Nat), .int .i64 (H : Nat), .slice (some ⟨b, off, none⟩) n c] := by
    rw [← hw1]
    exact (Blk.new w 25 [.int .i64 (W : Nat), .int .i64 (H : Nat), .slice (some ⟨b, off, none⟩) n c]).ext (by repeat (with_reducible (first | assumption | exact Ext.refl _ | apply Ext.alloc | apply Ext.drew | apply Ext.drewN)))
  have R1 : Blk w1 (w.heap.size + 1) 25 [.int .i64 0, .int .i64 0, .slice none 0 0] := by
    rw [← hw1]
    have := Blk.new (w.alloc (.cells #[.int .i64 (W : Nat), .int .i64 (H : Nat), .slice (some ⟨b, off, none⟩) n c] 25)) 25 [.int .i64 0, .int .i64 0, .slice none 0 0]
    rwa [World.size_alloc] at this
  rw [hw1]
  clear hw1
  have p0 := B1.cell 0 rfl
  have p1 := B1.cell 1 rfl
  have p2 := B1.cell 2 rfl
  have z1 := B1.lt
  have z2 := R1.lt
  go_upto_region 1 with fail
  go_cut [3] from 5 to 12 (fun p wx => ∃ g a c, p = .pointer (some ⟨g, 0, none⟩) ∧ FSt w1 wx g W H (.slice a n c) I.px)
  case first =>
    refine wp_region_Z 9 w1.heap.size (by kernel_rfl) ?_
    refine wpZ_stage (fuel := 3) [0, 1, 2, 3, 4, 5] [6, 8] (by kernel_rfl) (fun b _ hb => rfl) ?_
    try simp only [Act.put, List.setIfInBounds_toArray, List.set_cons_succ, List.set_cons_zero]
    simp only [List.filterMap_cons, List.filterMap_nil, List.getElem?_toArray, List.getElem?_cons_zero, List.getElem?_cons_succ]
    show wpQuiet _ _ _ _ [_, _, _, _, _, _] _
    repeat (go_big_quiet_step (fail))
    refine wpQuiet_nil ?_
    intro e he
    simp only [List.mem_cons, List.not_mem_nil, or_false] at he
    rcases he with rfl | rfl
    · (unfold wpComes; simp only [List.getElem?_toArray, List.getElem?_cons_succ, List.getElem?_cons_zero, Option.some.injEq]; refine ⟨_, rfl, fun K hK => ?_⟩)
      go_wp2_with fail
      refine (hc1.out _ (HU'.out.ext hh (X1.trans (by repeat (with_reducible (first | assumption | exact Ext.refl _ | apply Ext.alloc | apply Ext.drew | apply Ext.drewN)))))).mono ?_
      rintro e a0 ⟨a, c', rfl, o0, y0⟩
      have u0 : Ext w1 a0 := Ext.trans (by repeat (with_reducible (first | assumption | exact Ext.refl _ | apply Ext.alloc | apply Ext.drew | apply Ext.drewN))) y0
      go_wp2_with fail
      refine hK _ _ (.inr (fun b _ hb => Ext.block (w := w1) (by repeat (with_reducible (first | assumption | exact Ext.refl _ | apply Ext.alloc | apply Ext.drew | apply Ext.drewN))) (by omega))) ?_
      clear hK K
      refine wpZ_stage (fuel := 1) [7] [8] (by kernel_rfl) (fun b _ hb => Ext.block u0 (by omega)) ?_
      try simp only [Act.put, List.setIfInBounds_toArray, List.set_cons_succ, List.set_cons_zero]
      simp only [List.filterMap_cons, List.filterMap_nil, List.getElem?_toArray, List.getElem?_cons_zero, List.getElem?_cons_succ]
      show wpQuiet _ _ _ _ [_] _
      repeat (go_big_quiet_step (fail))
      refine wpQuiet_nil ?_
      intro e he
      simp only [List.mem_cons, List.not_mem_nil, or_false] at he
      subst he
      (unfold wpComes; simp only [List.getElem?_toArray, List.getElem?_cons_succ, List.getElem?_cons_zero, Option.some.injEq]; refine ⟨_, rfl, fun K hK => ?_⟩)
      go_wp2
      refine hK _ _ (.inr (fun b _ hb => Ext.block (w := w1) (by repeat (with_reducible (first | assumption | exact Ext.refl _ | apply Ext.alloc | apply Ext.drew | apply Ext.drewN))) (by omega))) ?_
      clear hK K
      have GL := u0.size
      have BX := Blk.new a0 25 [.int .i64 0, .int .i64 0, .slice none 0 0]
      have OX := (o0.ext (show Ext a0 (a0.alloc (.cells #[.int .i64 0, .int .i64 0, .slice none 0 0] 25)) from (by repeat (with_reducible (first | assumption | exact Ext.refl _ | apply Ext.alloc | apply Ext.drew | apply Ext.drewN))))).low (lo' := w1.heap.size) (by simp)
      have UX : Ext w1 (a0.alloc (.cells #[.int .i64 0, .int .i64 0, .slice none 0 0] 25)) := u0.trans (by repeat (with_reducible (first | assumption | exact Ext.refl _ | apply Ext.alloc | apply Ext.drew | apply Ext.drewN)))
      obtain ⟨G, hG⟩ : ∃ G, a0.heap.size = G := ⟨_, rfl⟩
      have NX : ∀ k, k = G → (Value.slice a n c').ownBlock ≠ some k := fun k hk e => by have := (o0.lt k e).2; omega
      obtain ⟨d, hd⟩ : ∃ d, a0.alloc (.cells #[.int .i64 0, .int .i64 0, .slice none 0 0] 25) = d := ⟨_, rfl⟩
      rw [hG] at GL BX ⊢
      rw [hd] at BX OX UX ⊢
      clear hd hG o0 y0
      refine wpZ_stage (fuel := 0) [] [9] (by kernel_rfl) (fun b _ hb => Ext.block UX (by omega)) ?_
      refine wpQuiet_nil ?_
      intro e he
      simp only [List.mem_cons, List.not_mem_nil, or_false] at he
      subst he
      have gl : w1.heap.size ≤ G := GL
      have b0 := BX.cell 0 rfl
      have b1 := BX.cell 1 rfl
      have b2 := BX.cell 2 rfl
      have f0 := BX.free 0
      have f1 := BX.free 1
      have f2 := BX.free 2
      have zx := BX.lt
      (unfold wpComes; simp only [List.getElem?_toArray, List.getElem?_cons_succ, List.getElem?_cons_zero, Option.some.injEq]; refine ⟨_, rfl, fun K hK => ?_⟩)
      go_wp2
      refine hK _ _ (.inl (by trivial)) ?_
      clear hK K
      refine wpZ_end (by kernel_rfl) ?_
      go_wp2_with fail
      go_meet
      exact ⟨G, a, c', rfl, ((UX.setCell gl _).setCell gl _).setCell gl _, gl, ((BX.set 0 _).set 1 _).set 2 _, ((OX.setOther (NX G rfl) _).setOther (NX G rfl) _).setOther (NX G rfl) _, fun k hk e => NX k (by rw [e]) hk⟩
    · (unfold wpComes; simp only [List.getElem?_toArray, List.getElem?_cons_succ, List.getElem?_cons_zero, Option.some.injEq]; refine ⟨_, rfl, fun K hK => ?_⟩)
      go_wp2
      refine hK _ _ (.inr (fun b _ hb => Ext.block (w := w1) (by repeat (with_reducible (first | assumption | exact Ext.refl _ | apply Ext.alloc | apply Ext.drew | apply Ext.drewN))) (by omega))) ?_
      clear hK K
      have UD : Ext w1 (w1.drew.alloc (.cells #[.int .i64 0, .int .i64 0, .slice none 0 0] 25)) := (by repeat (with_reducible (first | assumption | exact Ext.refl _ | apply Ext.alloc | apply Ext.drew | apply Ext.drewN)))
      have BD : Blk (w1.drew.alloc (.cells #[.int .i64 0, .int .i64 0, .slice none 0 0] 25)) w1.heap.size 25 [.int .i64 0, .int .i64 0, .slice none 0 0] := Blk.new w1.drew _ [.int .i64 0, .int .i64 0, .slice none 0 0]
      have zd : w1.heap.size + 1 = (w1.drew.alloc (.cells #[.int .i64 0, .int .i64 0, .slice none 0 0] 25)).heap.size := by simp
      first
        | (obtain ⟨d, hd⟩ : ∃ d, w1.drew.alloc (.cells #[.int .i64 0, .int .i64 0, .slice none 0 0] 25) = d := ⟨_, rfl⟩; rw [hd] at UD BD zd ⊢)
        | (obtain ⟨d, hd⟩ : ∃ d, (w1.alloc (.cells #[.int .i64 0, .int .i64 0, .slice none 0 0] 25)).drew = d := ⟨_, rfl⟩; replace UD : Ext w1 d := hd ▸ UD; replace BD : Blk d w1.heap.size 25 [.int .i64 0, .int .i64 0, .slice none 0 0] := hd ▸ BD; replace zd : w1.heap.size + 1 = d.heap.size := hd ▸ zd; rw [hd])
      clear hd
      refine wpZ_stage (fuel := 2) [] [6] (by kernel_rfl) (fun b _ hb => Ext.block UD (by omega)) ?_
      refine wpQuiet_nil ?_
      intro e he
      simp only [List.mem_cons, List.not_mem_nil, or_false] at he
      subst he
      (unfold wpComes; simp only [List.getElem?_toArray, List.getElem?_cons_succ, List.getElem?_cons_zero, Option.some.injEq]; refine ⟨_, rfl, fun K hK => ?_⟩)
      go_wp2_with fail
      refine (hc1.out _ (HU'.out.ext hh (X1.trans UD))).mono ?_
      rintro e a0 ⟨a, c', rfl, o0, y0⟩
      have UX := UD.trans y0
      have BX := BD.ext y0
      go_wp2_with fail
      refine hK _ _ (.inr (fun b _ hb => Ext.block UX (by omega))) ?_
      clear hK K
      refine wpZ_stage (fuel := 0) [7] [9] (by kernel_rfl) (fun b _ hb => Ext.block UX (by omega)) ?_
      try simp only [Act.put, List.setIfInBounds_toArray, List.set_cons_succ, List.set_cons_zero]
      simp only [List.filterMap_cons, List.filterMap_nil, List.getElem?_toArray, List.getElem?_cons_zero, List.getElem?_cons_succ]
      show wpQuiet _ _ _ _ [_] _
      repeat (go_big_quiet_step (fail))
      refine wpQuiet_nil ?_
      intro e he
      simp only [List.mem_cons, List.not_mem_nil, or_false] at he
      subst he
      have OX := o0.low (lo' := w1.heap.size) (by omega)
      have GL : w1.heap.size ≤ w1.heap.size := Nat.le_refl _
      obtain ⟨G, hG⟩ : ∃ G, w1.heap.size = G := ⟨_, rfl⟩
      have NX : ∀ k, k = G → (Value.slice a n c').ownBlock ≠ some k := fun k hk e => by have := (o0.lt k e).1; omega
      rw [hG] at BX ⊢
      replace GL : w1.heap.size ≤ G := by omega
      clear hG
      have gl : w1.heap.size ≤ G := GL
      have b0 := BX.cell 0 rfl
      have b1 := BX.cell 1 rfl
      have b2 := BX.cell 2 rfl
      have f0 := BX.free 0
      have f1 := BX.free 1
      have f2 := BX.free 2
      have zx := BX.lt
      (unfold wpComes; simp only [List.getElem?_toArray, List.getElem?_cons_succ, List.getElem?_cons_zero, Option.some.injEq]; refine ⟨_, rfl, fun K hK => ?_⟩)
      go_wp2
      refine hK _ _ (.inl (by trivial)) ?_
      clear hK K
      refine wpZ_end (by kernel_rfl) ?_
      go_wp2_with fail
      go_meet
      exact ⟨G, a, c', rfl, ((UX.setCell gl _).setCell gl _).setCell gl _, gl, ((BX.set 0 _).set 1 _).set 2 _, ((OX.setOther (NX G rfl) _).setOther (NX G rfl) _).setOther (NX G rfl) _, fun k hk e => NX k (by rw [e]) hk⟩
  case rest =>
    obtain ⟨g, a, c', rfl, hst⟩ := hcut
    have HST := hid hst
    have B2 := B1.ext hst.ext
    clear p0 p1 p2 hst
    have p0 := B2.cell 0 rfl
    have p1 := B2.cell 1 rfl
    have p2 := B2.cell 2 rfl
    have zz := HST.out.ext.size
    go_wp2_with fail
    refine (iIsValidImage_any lo hi _ _ _ (HV.out.ext hh (X1.trans HST.out.ext)) (by have := X1.size; omega)).mono ?_
    rw [HK.out]
    rintro e w2 ⟨rfl, x2⟩
    have hst := HST.out.to x2
    have R2 := hid ((R1.ext HST.out.ext).ext x2)
    have q1 := hst.box.cell 1 rfl
    have zq := hst.box.lt
    have S0 := hid (show FSt w1 w2 g W H (.slice a n c') (flipR W 0 I.px) from hst)
    clear p0 p1 p2 x2 hst HST B2 zz
    go_wp2
    go_loopw [19] (fun i wr => ∃ k : Nat, k ≤ H ∧ i = .int .i64 k ∧ FSt w1 wr g W H (.slice a n c') (flipR W k I.px)) (fun i _ => H - (intOf i).toNat)
    case atStart => exact ⟨0, by omega, rfl, S0.out⟩
    case round =>
      clear S0 q1 zq
      obtain ⟨k, hk, rfl, hst⟩ := hrel
      have HST := hid hst
      have b0 := hst.box.cell 0 rfl
      have b1 := hst.box.cell 1 rfl
      have b2 := hst.box.cell 2 rfl
      have zb := hst.box.lt
      clear hst
      by_cases hlt : k < H
      · have hrow : (k + 1) * W ≤ n := by rw [← hn.out]; exact Nat.mul_le_mul_right _ hlt
        have hlen : (flipR W k I.px).length = n := by rw [flipR_length, hl'.out]
        obtain ⟨g', y, eg, -, -, -, -, -, -⟩ := HST.out.own.at hlen.symm (k := 0) (by omega)
        subst eg
        obtain ⟨_, _, ec, hcc⟩ := HST.out.own.ints
        simp only [Value.slice.injEq] at ec
        obtain ⟨rfl, -, rfl⟩ := ec
        have hnc : n ≤ c' := by have := hcc.1; omega
        replace hrow := hid hrow
        replace hlen := hid hlen
        clear hcc
        go_wp2_with fail
        refine (picRow_any g' 0 c' n W H k _ (by omega) hW hW1 hrow.out hnc).mono ?_
        rintro e w3 ⟨rfl, x3⟩
        have S3 := HST.out.to x3
        have HS3 := hid S3
        have hnext : setsL (flipR W k I.px) (k * W) (((flipR W k I.px).drop (k * W)).take W).reverse = flipR W (k + 1) I.px := by
          have h1 : (k + 1) * W ≤ I.px.length := by rw [hl'.out]; exact hrow.out
          have h2 := h1
          rw [Nat.add_mul, Nat.one_mul] at h2
          have h3 := flipR_drop W k I.px (by omega)
          have e1 : ((I.px.drop (k * W)).take W).reverse.length = W := by rw [List.length_reverse, List.length_take, List.length_drop]; omega
          rw [h3, setsL_eq _ _ _ (by rw [e1, flipR_length]; omega), flipR_succ W k I.px h1, e1, ← List.drop_drop, h3, List.drop_drop, Nat.add_mul, Nat.one_mul]
          rfl
        have HN := hid hnext
        have hseg : k * W + W ≤ (flipR W k I.px).length := by rw [hlen.out]; have := hrow.out; rw [Nat.add_mul, Nat.one_mul] at this; exact this
        have hxl : (flipR W k I.px).length ≤ 1000000 := by rw [hlen.out]; omega
        have HR := hid (revSeg (o := k * W) (m := W) (cap := c' - k * W) w3 S3.own hlen.out.symm hseg hxl)
        clear S3 x3 hnext hseg hxl HST b0 b1 b2 zb
        go_wp2_with fail
        refine HR.out.mono ?_
        rw [HN.out]
        rintro e w4 ⟨rfl, o4, g4⟩
        have S4 : FSt w1 w4 g W H (.slice (some ⟨g', 0, none⟩) n c') (flipR W (k + 1) I.px) := by
          have hne := HS3.out.ne g' rfl
          exact ⟨Ext.grown HS3.out.ext g4 (fun q hq => by simp only [Option.some.injEq] at hq; subst hq; exact (HS3.out.own.lt _ rfl).1), HS3.out.low, HS3.out.box.grown g4 (fun e => by simp only [Option.some.injEq] at e; omega), o4, HS3.out.ne⟩
        have HS4 := hid S4
        clear S4 o4 g4 HR HS3
        go_wp2
        go_roundw
        case rel => exact ⟨k + 1, by omega, by go_num, HS4.out⟩
        case measure => simp [intOf]; omega
      · obtain rfl : k = H := by omega
        have R3 := R1.ext HST.out.ext
        have r0 := R3.cell 0 rfl
        have r1 := R3.cell 1 rfl
        have r2 := R3.cell 2 rfl
        have f0 := R3.free 0
        have f1 := R3.free 1
        have f2 := R3.free 2
        have zr := R3.lt
        have lo1 := X1.size
        have iW : I64 (W : Int) := ⟨by omega, by omega⟩
        have iH : I64 (k : Int) := ⟨by omega, by omega⟩
        go_wp2
        refine bodyPost_ret (v := .agg #[.int .i64 (W : Nat), .int .i64 (k : Nat), .slice a n c']) (by simp [results, Tryd.results12, go_sem, *]) rfl ⟨_, rfl, ⟨_, rfl, iW, iH, ?_⟩, ?_⟩
        · exact (((HST.out.own.setLow (by simp; omega) _).setLow (by simp; omega) _).setLow (by simp; omega) _).low (by omega)
        · exact (((X1.trans HST.out.ext).setCell (by simp) _).setCell (by simp) _).setCell (by simp) _
end Go.Proofs.YtodblnccgpiigaaDoor
