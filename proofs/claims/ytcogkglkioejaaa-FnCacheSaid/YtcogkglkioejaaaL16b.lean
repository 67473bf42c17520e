/- This text proves which tiles the reference's TilesFor hands back. -/
import Derived.Test.YtcogkglkioejaaaTileS2
import Derived.Test.YtcogkglkioejaaaL15i
import Derived.Deep.Heap
namespace Go.Proofs.Ytcogkglkioejaaa
open Go.RowKit

theorem clampL_bd {l L : Int} (h : 0 ≤ L) : 0 ≤ clampI l 0 L ∧ clampI l 0 L ≤ L := by
  unfold clampI
  split
  · omega
  · split <;> omega
theorem l02N_num {n c : Int} (h : clampI n (-1000000) 1000000 = c) (w : World) : Calls Try.prog 68 #[.int .i64 n] w fun e w' => e = .returned (.int .i64 c) ∧ w = w' := by
  go_enter Try.func68, Try.ntmps68
  go_wp2_with fail
  refine (sClamp_val h _).mono ?_
  rintro e w1 ⟨rfl, rfl⟩
  go_wp2
  go_ret
  exact ⟨rfl, rfl⟩

/-- tile k of the four that a look-up at x, y reads, on level c with n texels on a side -/
def tileK (c x y : Int) (n k : Nat) : T3 := ⟨c, fmod (x + (k % 2 : Nat)) n / 2, fmod (y + (k / 2 : Nat)) n / 2⟩
/-- the first k of them, each once -/
def tilesTo (c x y : Int) (n : Nat) : Nat → TL
  | 0 => TL.nil
  | k + 1 => (tilesTo c x y n k).add (tileK c x y n k)
def Tex.tilesR (t : Tex) (u v l : Int) : TL :=
  if t.okB then tilesTo (clampI l 0 t.log) (posX u (t.mip (clampI l 0 t.log).toNat).n) (posX v (t.mip (clampI l 0 t.log).toNat).n) (t.mip (clampI l 0 t.log).toNat).n 4 else TL.nil
theorem TL.add_n (s : TL) (t : T3) : (s.add t).n ≤ s.n + 1 := by
  unfold TL.add
  split
  · omega
  · simp [TL.snoc]
theorem tilesTo_n (c x y : Int) (n : Nat) : ∀ k, (tilesTo c x y n k).n ≤ k
  | 0 => Nat.le_refl _
  | k + 1 => Nat.le_trans (TL.add_n _ _) (by have := tilesTo_n c x y n k; omega)
theorem tileK_I {c x y : Int} {n k : Nat} (hc : I64 c) (hn : 1 ≤ n) (hn' : n ≤ 16) : (tileK c x y n k).I := by
  obtain ⟨a, ha, hal⟩ := fmod_nat (x + (k % 2 : Nat)) hn
  obtain ⟨b, hb, hbl⟩ := fmod_nat (y + (k / 2 : Nat)) hn
  unfold tileK
  rw [ha, hb]
  exact ⟨hc, ⟨by show _ ≤ (a : Int) / 2; omega, by show (a : Int) / 2 ≤ _; omega⟩, ⟨by show _ ≤ (b : Int) / 2; omega, by show (b : Int) / 2 ≤ _; omega⟩⟩

/-- an empty slice that was just made -/
theorem TL.nil_new (w : World) (lo : Nat) (h : lo ≤ w.heap.size) : TL.nil.Own lo (w.alloc (.cells #[] 60)) (.slice (some ⟨w.heap.size, 0, none⟩) 0 0) :=
  ⟨⟨rfl, .inr ⟨w.heap.size, 0, #[], rfl, h, Go.Deep.blk_alloc_new _ _, Nat.le_refl _, by unfold maxLen; omega, rfl, rfl⟩⟩, fun i h => by simp [TL.nil] at h⟩

/-- on the way through the reference's loop: a box with the texture; the slice v holds the first k tiles -/
structure QSt (w wr : World) (lg : Int) (u : Value) (s : TL) (lo : Nat) (v : Value) : Prop where
  ext : Ext w wr
  lt : w.heap.size < wr.heap.size
  c0 : wr.cell? ⟨w.heap.size, 0, none⟩ = some (.int .i64 lg)
  c1 : wr.cell? ⟨w.heap.size, 1, none⟩ = some u
  own : s.Own lo wr v
theorem QSt.to {w wr w' : World} {lg : Int} {u : Value} {s : TL} {lo : Nat} {v : Value} (h : QSt w wr lg u s lo v) (e : Ext wr w') : QSt w w' lg u s lo v :=
  ⟨h.ext.trans e, Nat.lt_of_lt_of_le h.lt e.size, (e.cells.1 _ _ h.lt).trans h.c0, (e.cells.1 _ _ h.lt).trans h.c1, h.own.ext e⟩

theorem QSt.push {w w3 w4 : World} {lg : Int} {u : Value} {s s' : TL} {v v' : Value} {o : Obj} (h : QSt w w3 lg u s (w.heap.size + 1) v) (hg : (w3.alloc o).grownBy w4 v.ownBlock) (hown : s'.Own (w.heap.size + 1) w4 v') : QSt w w4 lg u s' (w.heap.size + 1) v' := by
  have hz := hg.size
  simp only [World.size_alloc] at hz
  have hl := h.lt
  have hb : w4.heap[w.heap.size]? = w3.heap[w.heap.size]? := (hg.block w.heap.size (by simp; omega) (fun e => by have := (h.own.lt _ e.symm).1; omega)).trans (Ext.block (w := w3) (by repeat (with_reducible (first | assumption | exact Ext.refl _ | apply Ext.alloc | apply Ext.drew | apply Ext.drewN))) hl)
  exact ⟨(h.ext.alloc o).grown hg (fun k e => by have := (h.own.lt k e).1; omega), by omega, (World.cell?_of_block (w := w3) hb).trans h.c0, (World.cell?_of_block (w := w3) hb).trans h.c1, hown⟩

set_option maxRecDepth 10000 in
set_option maxHeartbeats 3200000 in
theorem sTilesFor_any (lo hi : Nat) (v : Value) (t : Tex) (ua va l : Int) (w : World) (hv : TexR lo hi w v t) (hh : hi ≤ w.heap.size) :
    Calls Try.prog 39 #[v, .int .i64 ua, .int .i64 va, .int .i64 l] w fun e w' => ∃ r, e = .returned r ∧ (t.tilesR ua va l).Own w.heap.size w' r ∧ Ext w w' := by
  obtain ⟨u, rfl, hlog⟩ := hv.shape
  have HV := hid hv
  clear hv
  by_cases hb : t.okB = true
  · have ht := Tex.okB_iff.1 hb
    obtain ⟨c0, c4⟩ := clampL_bd (l := l) ht.log0
    have t4 := ht.log4
    have e1 : t.tilesR ua va l = tilesTo (clampI l 0 t.log) (posX ua (t.mip (clampI l 0 t.log).toNat).n) (posX va (t.mip (clampI l 0 t.log).toNat).n) (t.mip (clampI l 0 t.log).toNat).n 4 := by unfold Tex.tilesR; rw [if_pos hb]
    rw [e1]
    obtain ⟨c, hc⟩ : ∃ c, clampI l 0 t.log = c := ⟨_, rfl⟩
    rw [hc] at c0 c4 ⊢
    obtain ⟨hm, hml⟩ := ht.mip c.toNat (by omega)
    have hti : ∀ x y : Int, t.tile x y c = tileV c (fmod x (t.mip c.toNat).n / 2) (fmod y (t.mip c.toNat).n / 2) := fun x y => by unfold Tex.tile; rw [if_pos (by simp only [Bool.and_eq_true, inB_iff]; exact ⟨hb, c0, c4⟩)]
    obtain ⟨m, hmm⟩ : ∃ m, t.mip c.toNat = m := ⟨_, rfl⟩
    rw [hmm] at hm hml hti ⊢
    have HB := hid hb
    have HC := hid hc
    have x1 := posX_bd ua hm.n_pos hm.n_le
    have x2 := posX_bd va hm.n_pos hm.n_le
    have s1 := posS_prod ua hm.n_pos hm.n_le
    have s2 := posS_prod va hm.n_pos hm.n_le
    have y1 : fdiv (posS ua m.n) 256 = posX ua m.n := rfl
    have y2 : fdiv (posS va m.n) 256 = posX va m.n := rfl
    unfold posS at y1 y2
    have hl : m.log = t.log - c := by rw [hml]; omega
    obtain ⟨n, hn⟩ : ∃ n, m.n = n := ⟨_, rfl⟩
    have HN := hid (show 2 ^ (t.log - c).toNat = n by rw [← hl]; exact hn)
    have n1 := hm.n_pos
    have n2 := hm.n_le
    rw [hn] at x1 x2 s1 s2 y1 y2 hti n1 n2 ⊢
    obtain ⟨cu, hcu⟩ : ∃ c, clampI ua (-1000000) 1000000 = c := ⟨_, rfl⟩
    obtain ⟨cv, hcv⟩ : ∃ c, clampI va (-1000000) 1000000 = c := ⟨_, rfl⟩
    have CU := hid hcu
    have CV := hid hcv
    rw [hcu] at s1 y1
    rw [hcv] at s2 y2
    obtain ⟨qu, hqu⟩ : ∃ c, cu * (n : Int) = c := ⟨_, rfl⟩
    obtain ⟨qv, hqv⟩ : ∃ c, cv * (n : Int) = c := ⟨_, rfl⟩
    rw [hqu] at s1 y1
    rw [hqv] at s2 y2
    obtain ⟨x, ex⟩ : ∃ x, posX ua n = x := ⟨_, rfl⟩
    obtain ⟨y, ey⟩ : ∃ x, posX va n = x := ⟨_, rfl⟩
    rw [ex] at x1 y1 ⊢
    rw [ey] at x2 y2 ⊢
    have Y1 := hid y1
    have Y2 := hid y2
    have HTI := hid hti
    have HT := hid ht
    clear hb ht e1 hc hm hml hti hmm hn hl hcu hcv ex ey y1 y2
    go_enter Try.func39, Try.ntmps39
    go_wp2_with fail
    refine (sIsValidTexture_val HB.out lo hi _ _ (HV.out.ext hh (by repeat (with_reducible (first | assumption | exact Ext.refl _ | apply Ext.alloc | apply Ext.drew | apply Ext.drewN)))) (by simp; omega)).mono ?_
    rintro e w1 ⟨rfl, h1⟩
    have N1 := ((TL.nil_new (w.alloc (.cells #[.int .i64 t.log, u] 25)) (w.heap.size + 1) (by simp)).ext h1)
    have E1 : Ext w w1 := Ext.trans (by repeat (with_reducible (first | assumption | exact Ext.refl _ | apply Ext.alloc | apply Ext.drew | apply Ext.drewN))) h1
    obtain ⟨k1, f1⟩ := h1.cells
    have z1 := h1.size
    simp only [World.size_alloc] at z1
    have q1 : w.heap.size < w1.heap.size := by omega
    have q2 : w.heap.size + 1 < w1.heap.size := by omega
    have p1 := k1 w.heap.size 0 (by simp; omega)
    have p2 := k1 w.heap.size 1 (by simp; omega)
    simp [go_sem] at p1 p2
    have HS := hid (QSt.mk E1 q1 p1 p2 N1)
    clear k1 f1 h1 N1
    go_wp2_with (first
      | (go_at_call 66; refine (sClamp_val HC.out _).mono ?_; rintro e w2 ⟨rfl, rfl⟩)
      | (go_at_call 50; refine (l15Size_val (by omega) (by omega) HN.out _).mono ?_; rintro e w2 ⟨rfl, rfl⟩)
      | (go_at_call 68; (with_reducible first | refine (l02N_num CU.out _).mono ?_ | refine (l02N_num CV.out _).mono ?_); rintro e w2 ⟨rfl, rfl⟩)
      | (go_at_call 67; (with_reducible first | refine (sFloorDiv_val (I64.mk (by omega) (by omega)) Y1.out _).mono ?_ | refine (sFloorDiv_val (I64.mk (by omega) (by omega)) Y2.out _).mono ?_); rintro e w2 ⟨rfl, rfl⟩))
    go_loopw [9, 13] (fun o i wr => ∃ k : Nat, k ≤ 4 ∧ i = .int .i64 k ∧ QSt w wr t.log u (tilesTo c x y n k) (w.heap.size + 1) o) (fun _ i _ => 4 - (intOf i).toNat)
    case atStart => exact ⟨0, by omega, rfl, by simpa [tilesTo] using HS.out⟩
    case round =>
      clear HS p1 p2 q1 q2 z1
      obtain ⟨k, hk, rfl, hs⟩ := hrel
      obtain ⟨oa, oc, rfl, hol⟩ := hs.own.form
      have p0 := hs.lt
      have p1 := hs.c0
      have p2 := hs.c1
      have HS := hid hs
      by_cases hlt : k < 4
      · have hk4 : k = 0 ∨ k = 1 ∨ k = 2 ∨ k = 3 := by omega
        clear hs
        rcases hk4 with h | h | h | h <;> subst h
        · obtain ⟨X, hX⟩ : ∃ X, fmod x (n : Int) / 2 = X := ⟨_, rfl⟩
          obtain ⟨Y, hY⟩ : ∃ X, fmod y (n : Int) / 2 = X := ⟨_, rfl⟩
          have hT : tileK c x y n 0 = ⟨c, X, Y⟩ := by rw [← hX, ← hY]; simp [tileK]
          have hI : (⟨c, X, Y⟩ : T3).I := hT ▸ tileK_I ⟨by omega, by omega⟩ n1 n2
          have hst := hid (show tilesTo c x y n (0 + 1) = (tilesTo c x y n 0).add ⟨c, X, Y⟩ by rw [← hT]; rfl)
          have HO := fun (W : World) (E : Ext w W) => sTileOf_any lo hi _ t x y c W (HV.out.ext hh E) (Nat.le_trans hh E.size) ⟨by omega, by omega⟩ ⟨by omega, by omega⟩
          simp only [HTI.out, hX, hY, tileV] at HO
          have HO := hid HO
          have hsn := tilesTo_n c x y n 0
          obtain ⟨s, hs⟩ : ∃ s, tilesTo c x y n 0 = s := ⟨_, rfl⟩
          rw [hs] at HS hst hsn hol ⊢
          clear hX hY hT hs
          go_wp2_with fail
          refine (HO.out _ HS.out.ext).mono ?_
          rintro e w2 ⟨rfl, h2⟩
          have Q2 := HS.out.to h2
          clear HS p0 p1 p2 h2 HO
          go_wp2_with fail
          refine (l16Find_any _ _ _ s c X Y _ ((Q2.own.ext (by repeat (with_reducible (first | assumption | exact Ext.refl _ | apply Ext.alloc | apply Ext.drew | apply Ext.drewN)))).R) (Nat.le_refl _)).mono ?_
          rintro e w3 ⟨r, rfl, hr, h3⟩
          have E3 : Ext w2 w3 := Ext.trans (by repeat (with_reducible (first | assumption | exact Ext.refl _ | apply Ext.alloc | apply Ext.drew | apply Ext.drewN))) h3
          have Q3 := Q2.to E3
          have z3 := h3.size
          simp only [World.size_alloc] at z3
          have b0 := h3.cells.1 w2.heap.size 0 (by simp)
          have b1 := h3.cells.1 w2.heap.size 1 (by simp)
          have b2 := h3.cells.1 w2.heap.size 2 (by simp)
          simp [go_sem] at b0 b1 b2
          have b3 : w2.heap.size < w3.heap.size := by omega
          have hQ := hid Q3
          have hq1 := Q3.lt
          clear Q2 h3 E3 Q3
          by_cases h0 : 0 ≤ r
          · have he : s.add ⟨c, X, Y⟩ = s := by unfold TL.add; rw [if_pos (hr.2 h0)]
            have HE := hid he
            clear hr he
            go_wp2
            go_roundw
            case rel => exact ⟨0 + 1, by omega, by go_num, by rw [hst.out, HE.out]; exact hQ.out⟩
            case measure => simp [intOf]
          · have he : s.add ⟨c, X, Y⟩ = s.snoc ⟨c, X, Y⟩ := by unfold TL.add; rw [if_neg (fun h => h0 (hr.1 h))]
            have HE := hid he
            clear hr he
            go_wp2_with (at_builtin; refine wpList_append_tile _ rfl _ _ rfl (w.heap.size + 1) (.slice oa s.n oc) s rfl (hQ.out.own.ext (by repeat (with_reducible (first | assumption | exact Ext.refl _ | apply Ext.alloc | apply Ext.drew | apply Ext.drewN)))) ⟨c, X, Y⟩ hI w3.heap.size rfl (by simp [go_sem]) (by simp [go_sem]) (by simp [go_sem]) (by omega) (by simp; omega) ?_; intro v' w4 hown hg)
            go_roundw
            case rel => exact ⟨0 + 1, by omega, by go_num, by rw [hst.out, HE.out]; exact hQ.out.push hg hown⟩
            case measure => simp [intOf]
        · obtain ⟨X, hX⟩ : ∃ X, fmod (x + 1) (n : Int) / 2 = X := ⟨_, rfl⟩
          obtain ⟨Y, hY⟩ : ∃ X, fmod y (n : Int) / 2 = X := ⟨_, rfl⟩
          have hT : tileK c x y n 1 = ⟨c, X, Y⟩ := by rw [← hX, ← hY]; simp [tileK]
          have hI : (⟨c, X, Y⟩ : T3).I := hT ▸ tileK_I ⟨by omega, by omega⟩ n1 n2
          have hst := hid (show tilesTo c x y n (1 + 1) = (tilesTo c x y n 1).add ⟨c, X, Y⟩ by rw [← hT]; rfl)
          have HO := fun (W : World) (E : Ext w W) => sTileOf_any lo hi _ t (x + 1) y c W (HV.out.ext hh E) (Nat.le_trans hh E.size) ⟨by omega, by omega⟩ ⟨by omega, by omega⟩
          simp only [HTI.out, hX, hY, tileV] at HO
          have HO := hid HO
          have hsn := tilesTo_n c x y n 1
          obtain ⟨s, hs⟩ : ∃ s, tilesTo c x y n 1 = s := ⟨_, rfl⟩
          rw [hs] at HS hst hsn hol ⊢
          clear hX hY hT hs
          go_wp2_with fail
          refine (HO.out _ HS.out.ext).mono ?_
          rintro e w2 ⟨rfl, h2⟩
          have Q2 := HS.out.to h2
          clear HS p0 p1 p2 h2 HO
          go_wp2_with fail
          refine (l16Find_any _ _ _ s c X Y _ ((Q2.own.ext (by repeat (with_reducible (first | assumption | exact Ext.refl _ | apply Ext.alloc | apply Ext.drew | apply Ext.drewN)))).R) (Nat.le_refl _)).mono ?_
          rintro e w3 ⟨r, rfl, hr, h3⟩
          have E3 : Ext w2 w3 := Ext.trans (by repeat (with_reducible (first | assumption | exact Ext.refl _ | apply Ext.alloc | apply Ext.drew | apply Ext.drewN))) h3
          have Q3 := Q2.to E3
          have z3 := h3.size
          simp only [World.size_alloc] at z3
          have b0 := h3.cells.1 w2.heap.size 0 (by simp)
          have b1 := h3.cells.1 w2.heap.size 1 (by simp)
          have b2 := h3.cells.1 w2.heap.size 2 (by simp)
          simp [go_sem] at b0 b1 b2
          have b3 : w2.heap.size < w3.heap.size := by omega
          have hQ := hid Q3
          have hq1 := Q3.lt
          clear Q2 h3 E3 Q3
          by_cases h0 : 0 ≤ r
          · have he : s.add ⟨c, X, Y⟩ = s := by unfold TL.add; rw [if_pos (hr.2 h0)]
            have HE := hid he
            clear hr he
            go_wp2
            go_roundw
            case rel => exact ⟨1 + 1, by omega, by go_num, by rw [hst.out, HE.out]; exact hQ.out⟩
            case measure => simp [intOf]
          · have he : s.add ⟨c, X, Y⟩ = s.snoc ⟨c, X, Y⟩ := by unfold TL.add; rw [if_neg (fun h => h0 (hr.1 h))]
            have HE := hid he
            clear hr he
            go_wp2_with (at_builtin; refine wpList_append_tile _ rfl _ _ rfl (w.heap.size + 1) (.slice oa s.n oc) s rfl (hQ.out.own.ext (by repeat (with_reducible (first | assumption | exact Ext.refl _ | apply Ext.alloc | apply Ext.drew | apply Ext.drewN)))) ⟨c, X, Y⟩ hI w3.heap.size rfl (by simp [go_sem]) (by simp [go_sem]) (by simp [go_sem]) (by omega) (by simp; omega) ?_; intro v' w4 hown hg)
            go_roundw
            case rel => exact ⟨1 + 1, by omega, by go_num, by rw [hst.out, HE.out]; exact hQ.out.push hg hown⟩
            case measure => simp [intOf]
        · obtain ⟨X, hX⟩ : ∃ X, fmod x (n : Int) / 2 = X := ⟨_, rfl⟩
          obtain ⟨Y, hY⟩ : ∃ X, fmod (y + 1) (n : Int) / 2 = X := ⟨_, rfl⟩
          have hT : tileK c x y n 2 = ⟨c, X, Y⟩ := by rw [← hX, ← hY]; simp [tileK]
          have hI : (⟨c, X, Y⟩ : T3).I := hT ▸ tileK_I ⟨by omega, by omega⟩ n1 n2
          have hst := hid (show tilesTo c x y n (2 + 1) = (tilesTo c x y n 2).add ⟨c, X, Y⟩ by rw [← hT]; rfl)
          have HO := fun (W : World) (E : Ext w W) => sTileOf_any lo hi _ t x (y + 1) c W (HV.out.ext hh E) (Nat.le_trans hh E.size) ⟨by omega, by omega⟩ ⟨by omega, by omega⟩
          simp only [HTI.out, hX, hY, tileV] at HO
          have HO := hid HO
          have hsn := tilesTo_n c x y n 2
          obtain ⟨s, hs⟩ : ∃ s, tilesTo c x y n 2 = s := ⟨_, rfl⟩
          rw [hs] at HS hst hsn hol ⊢
          clear hX hY hT hs
          go_wp2_with fail
          refine (HO.out _ HS.out.ext).mono ?_
          rintro e w2 ⟨rfl, h2⟩
          have Q2 := HS.out.to h2
          clear HS p0 p1 p2 h2 HO
          go_wp2_with fail
          refine (l16Find_any _ _ _ s c X Y _ ((Q2.own.ext (by repeat (with_reducible (first | assumption | exact Ext.refl _ | apply Ext.alloc | apply Ext.drew | apply Ext.drewN)))).R) (Nat.le_refl _)).mono ?_
          rintro e w3 ⟨r, rfl, hr, h3⟩
          have E3 : Ext w2 w3 := Ext.trans (by repeat (with_reducible (first | assumption | exact Ext.refl _ | apply Ext.alloc | apply Ext.drew | apply Ext.drewN))) h3
          have Q3 := Q2.to E3
          have z3 := h3.size
          simp only [World.size_alloc] at z3
          have b0 := h3.cells.1 w2.heap.size 0 (by simp)
          have b1 := h3.cells.1 w2.heap.size 1 (by simp)
          have b2 := h3.cells.1 w2.heap.size 2 (by simp)
          simp [go_sem] at b0 b1 b2
          have b3 : w2.heap.size < w3.heap.size := by omega
          have hQ := hid Q3
          have hq1 := Q3.lt
          clear Q2 h3 E3 Q3
          by_cases h0 : 0 ≤ r
          · have he : s.add ⟨c, X, Y⟩ = s := by unfold TL.add; rw [if_pos (hr.2 h0)]
            have HE := hid he
            clear hr he
            go_wp2
            go_roundw
            case rel => exact ⟨2 + 1, by omega, by go_num, by rw [hst.out, HE.out]; exact hQ.out⟩
            case measure => simp [intOf]
          · have he : s.add ⟨c, X, Y⟩ = s.snoc ⟨c, X, Y⟩ := by unfold TL.add; rw [if_neg (fun h => h0 (hr.1 h))]
            have HE := hid he
            clear hr he
            go_wp2_with (at_builtin; refine wpList_append_tile _ rfl _ _ rfl (w.heap.size + 1) (.slice oa s.n oc) s rfl (hQ.out.own.ext (by repeat (with_reducible (first | assumption | exact Ext.refl _ | apply Ext.alloc | apply Ext.drew | apply Ext.drewN)))) ⟨c, X, Y⟩ hI w3.heap.size rfl (by simp [go_sem]) (by simp [go_sem]) (by simp [go_sem]) (by omega) (by simp; omega) ?_; intro v' w4 hown hg)
            go_roundw
            case rel => exact ⟨2 + 1, by omega, by go_num, by rw [hst.out, HE.out]; exact hQ.out.push hg hown⟩
            case measure => simp [intOf]
        · obtain ⟨X, hX⟩ : ∃ X, fmod (x + 1) (n : Int) / 2 = X := ⟨_, rfl⟩
          obtain ⟨Y, hY⟩ : ∃ X, fmod (y + 1) (n : Int) / 2 = X := ⟨_, rfl⟩
          have hT : tileK c x y n 3 = ⟨c, X, Y⟩ := by rw [← hX, ← hY]; simp [tileK]
          have hI : (⟨c, X, Y⟩ : T3).I := hT ▸ tileK_I ⟨by omega, by omega⟩ n1 n2
          have hst := hid (show tilesTo c x y n (3 + 1) = (tilesTo c x y n 3).add ⟨c, X, Y⟩ by rw [← hT]; rfl)
          have HO := fun (W : World) (E : Ext w W) => sTileOf_any lo hi _ t (x + 1) (y + 1) c W (HV.out.ext hh E) (Nat.le_trans hh E.size) ⟨by omega, by omega⟩ ⟨by omega, by omega⟩
          simp only [HTI.out, hX, hY, tileV] at HO
          have HO := hid HO
          have hsn := tilesTo_n c x y n 3
          obtain ⟨s, hs⟩ : ∃ s, tilesTo c x y n 3 = s := ⟨_, rfl⟩
          rw [hs] at HS hst hsn hol ⊢
          clear hX hY hT hs
          go_wp2_with fail
          refine (HO.out _ HS.out.ext).mono ?_
          rintro e w2 ⟨rfl, h2⟩
          have Q2 := HS.out.to h2
          clear HS p0 p1 p2 h2 HO
          go_wp2_with fail
          refine (l16Find_any _ _ _ s c X Y _ ((Q2.own.ext (by repeat (with_reducible (first | assumption | exact Ext.refl _ | apply Ext.alloc | apply Ext.drew | apply Ext.drewN)))).R) (Nat.le_refl _)).mono ?_
          rintro e w3 ⟨r, rfl, hr, h3⟩
          have E3 : Ext w2 w3 := Ext.trans (by repeat (with_reducible (first | assumption | exact Ext.refl _ | apply Ext.alloc | apply Ext.drew | apply Ext.drewN))) h3
          have Q3 := Q2.to E3
          have z3 := h3.size
          simp only [World.size_alloc] at z3
          have b0 := h3.cells.1 w2.heap.size 0 (by simp)
          have b1 := h3.cells.1 w2.heap.size 1 (by simp)
          have b2 := h3.cells.1 w2.heap.size 2 (by simp)
          simp [go_sem] at b0 b1 b2
          have b3 : w2.heap.size < w3.heap.size := by omega
          have hQ := hid Q3
          have hq1 := Q3.lt
          clear Q2 h3 E3 Q3
          by_cases h0 : 0 ≤ r
          · have he : s.add ⟨c, X, Y⟩ = s := by unfold TL.add; rw [if_pos (hr.2 h0)]
            have HE := hid he
            clear hr he
            go_wp2
            go_roundw
            case rel => exact ⟨3 + 1, by omega, by go_num, by rw [hst.out, HE.out]; exact hQ.out⟩
            case measure => simp [intOf]
          · have he : s.add ⟨c, X, Y⟩ = s.snoc ⟨c, X, Y⟩ := by unfold TL.add; rw [if_neg (fun h => h0 (hr.1 h))]
            have HE := hid he
            clear hr he
            go_wp2_with (at_builtin; refine wpList_append_tile _ rfl _ _ rfl (w.heap.size + 1) (.slice oa s.n oc) s rfl (hQ.out.own.ext (by repeat (with_reducible (first | assumption | exact Ext.refl _ | apply Ext.alloc | apply Ext.drew | apply Ext.drewN)))) ⟨c, X, Y⟩ hI w3.heap.size rfl (by simp [go_sem]) (by simp [go_sem]) (by simp [go_sem]) (by omega) (by simp; omega) ?_; intro v' w4 hown hg)
            go_roundw
            case rel => exact ⟨3 + 1, by omega, by go_num, by rw [hst.out, HE.out]; exact hQ.out.push hg hown⟩
            case measure => simp [intOf]
      · obtain rfl : k = 4 := by omega
        go_wp2
        go_ret
        exact ⟨_, rfl, hs.own.low (by omega), hs.ext⟩
  · have e1 : t.tilesR ua va l = TL.nil := by unfold Tex.tilesR; rw [if_neg hb]
    rw [e1]
    have HB := hid (Bool.eq_false_iff.2 hb)
    clear hb e1
    go_enter Try.func39, Try.ntmps39
    go_wp2_with fail
    refine (sIsValidTexture_val HB.out lo hi _ _ (HV.out.ext hh (by repeat (with_reducible (first | assumption | exact Ext.refl _ | apply Ext.alloc | apply Ext.drew | apply Ext.drewN)))) (by simp; omega)).mono ?_
    rintro e w1 ⟨rfl, h1⟩
    go_wp2
    go_ret
    exact ⟨_, rfl, TL.nil_own _ _, Ext.trans (by repeat (with_reducible (first | assumption | exact Ext.refl _ | apply Ext.alloc | apply Ext.drew | apply Ext.drewN))) h1⟩
end Go.Proofs.Ytcogkglkioejaaa
