/- This text proves what the reference's halving of a texture computes, and the program's exported one. -/
import Derived.Test.YtjfcngbepjdfnaaGreatL15d
namespace Go.Proofs.YtjfcngbepjdfnaaGreat
open Go.RowKit

/-- the next level and true; or the empty texture and false -/
def Tex.halfR (t : Tex) : Tex × Bool := if t.okB && decide (t.log ≠ 0) then (t.half, true) else (⟨0, []⟩, false)

theorem iIsValidTexture_val {t : Tex} {b : Bool} (h : t.okB = b) (lo hi : Nat) (v : Value) (w : World) (hv : TexR lo hi w v t) (hh : hi ≤ w.heap.size) :
    Calls Tryz.prog 67 #[v] w fun e w' => e = .returned (.bool b) ∧ Ext w w' := h ▸ iIsValidTexture_any lo hi v t w hv hh
theorem OwnTex.zero (lo : Nat) (w : World) : OwnTex lo w (.agg #[.int .i64 0, .slice none 0 0]) ⟨0, []⟩ := ⟨_, rfl, ⟨by decide, by decide⟩, OwnInts.nil _ _⟩
theorem OwnTex.setLow {lo : Nat} {w : World} {v : Value} {t : Tex} (h : OwnTex lo w v t) {p : Addr} (hp : p.block < lo) (u : Value) : OwnTex lo (w.setCell p u) v t := by
  obtain ⟨x, h1, h2, h3⟩ := h
  exact ⟨x, h1, h2, h3.setLow hp u⟩
theorem OwnTex.form {lo : Nat} {w : World} {v : Value} {t : Tex} (h : OwnTex lo w v t) : ∃ a c, v = .agg #[.int .i64 t.log, .slice a t.px.length c] ∧ I64 t.log := by
  obtain ⟨x, h1, h2, h3⟩ := h
  obtain ⟨a, c, rfl, _⟩ := h3.form
  exact ⟨a, c, h1, h2⟩
theorem OwnTex.low {lo lo' : Nat} {w : World} {v : Value} {t : Tex} (h : OwnTex lo w v t) (hl : lo' ≤ lo) : OwnTex lo' w v t := by
  obtain ⟨x, h1, h2, h3⟩ := h
  exact ⟨x, h1, h2, h3.low hl⟩
theorem TexR.shape {lo hi : Nat} {w : World} {v : Value} {t : Tex} (h : TexR lo hi w v t) : ∃ u, v = .agg #[.int .i64 t.log, u] ∧ I64 t.log := by
  obtain ⟨u, h1, h2, _⟩ := h
  exact ⟨u, h1, h2⟩

/-- the boxes of the reference's halving, and what it has gathered in block g -/
structure SSt (w wr : World) (t : Tex) (u : Value) (g m k : Nat) (a : Option Addr) (c : Nat) : Prop where
  ext : Ext w wr
  pos : w.heap.size + 1 < g
  size : g < wr.heap.size
  p0 : wr.cell? ⟨w.heap.size, 0, none⟩ = some (.int .i64 t.log)
  p1 : wr.cell? ⟨w.heap.size, 1, none⟩ = some u
  r0 : wr.cell? ⟨w.heap.size + 1, 0, none⟩ = some (.int .i64 0)
  r1 : wr.cell? ⟨w.heap.size + 1, 1, none⟩ = some (.slice none 0 0)
  f0 : wr.frozen? ⟨w.heap.size + 1, 0, none⟩ = false
  f1 : wr.frozen? ⟨w.heap.size + 1, 1, none⟩ = false
  o0 : wr.cell? ⟨g, 0, none⟩ = some (.int .i64 (t.log - 1))
  o1 : wr.cell? ⟨g, 1, none⟩ = some (.slice a k c)
  g1 : wr.frozen? ⟨g, 1, none⟩ = false
  own : OwnInts (g + 1) wr (.slice a k c) (t.halfPx m k)

theorem SSt.to {w wr wr' : World} {t : Tex} {u : Value} {g m k : Nat} {a : Option Addr} {c : Nat} (h : SSt w wr t u g m k a c) (e : Ext wr wr') : SSt w wr' t u g m k a c := by
  obtain ⟨hc, hf⟩ := e.cells
  have hs := h.size
  have hp := h.pos
  have hz := e.size
  exact ⟨h.ext.trans e, hp, by omega, by rw [hc _ _ (by omega)]; exact h.p0, by rw [hc _ _ (by omega)]; exact h.p1, by rw [hc _ _ (by omega)]; exact h.r0, by rw [hc _ _ (by omega)]; exact h.r1,
    by rw [hf _ _ (by omega)]; exact h.f0, by rw [hf _ _ (by omega)]; exact h.f1, by rw [hc _ _ (by omega)]; exact h.o0, by rw [hc _ _ (by omega)]; exact h.o1, by rw [hf _ _ (by omega)]; exact h.g1, h.own.ext e⟩

theorem SSt.push {w wr w1 : World} {t : Tex} {u : Value} {g m k : Nat} {a a' : Option Addr} {c c' n' : Nat} (h : SSt w wr t u g m k a c) (hg : wr.grownBy w1 (Value.slice a k c).ownBlock)
    (hown : OwnInts (g + 1) w1 (.slice a' n' c') (t.halfPx m k ++ [t.avgK m k])) :
    SSt w (w1.setCell ⟨g, 1, none⟩ (.slice a' n' c')) t u g m (k + 1) a' c' ∧ n' = k + 1 := by
  rw [← Tex.halfPx_succ] at hown
  obtain ⟨a2, cap2, hv, _⟩ := hown.form
  rw [Tex.halfPx_length] at hv
  simp only [Value.slice.injEq] at hv
  obtain ⟨_, rfl, _⟩ := hv
  have hs := h.size
  have hp := h.pos
  have hz := hg.size
  have hlt := h.own.lt
  have hne : ∀ b, b < g + 1 → some b ≠ (Value.slice a k c).ownBlock := fun b hb e => by have := (hlt b e.symm).1; omega
  have hc : ∀ b o, b < g + 1 → w1.cell? ⟨b, o, none⟩ = wr.cell? ⟨b, o, none⟩ := fun b o hb => World.cell?_of_block (w := wr) (hg.block b (by omega) (hne b hb))
  have hf : ∀ b o, b < g + 1 → w1.frozen? ⟨b, o, none⟩ = wr.frozen? ⟨b, o, none⟩ := fun b o hb => World.frozen?_of_block (w := wr) (hg.block b (by omega) (hne b hb))
  have hd : ∀ b o, b < g → (w1.setCell ⟨g, 1, none⟩ (.slice a' (k + 1) c')).cell? ⟨b, o, none⟩ = wr.cell? ⟨b, o, none⟩ := fun b o hb => by
    rw [World.cell?_setCell_other _ _ _ _ (fun e => by simp only [Addr.mk.injEq] at e; omega), hc b o (by omega)]
  refine ⟨⟨(h.ext.grown hg (fun b e => by have := (hlt b e).1; omega)).setCell (by show w.heap.size ≤ g; omega) _, hp, by rw [World.size_setCell]; omega, by rw [hd _ _ (by omega)]; exact h.p0, by rw [hd _ _ (by omega)]; exact h.p1,
    by rw [hd _ _ (by omega)]; exact h.r0, by rw [hd _ _ (by omega)]; exact h.r1, by rw [World.frozen?_setCell, hf _ _ (by omega)]; exact h.f0, by rw [World.frozen?_setCell, hf _ _ (by omega)]; exact h.f1, ?_, ?_,
    by rw [World.frozen?_setCell, hf _ _ (by omega)]; exact h.g1, hown.setLow (by simp) _⟩, rfl⟩
  · rw [World.cell?_setCell_other _ _ _ _ (by simp), hc _ _ (by omega)]; exact h.o0
  · exact World.cell?_setCell_same _ _ _ ((hc _ _ (by omega)).trans h.o1)

theorem sIsValidTexture_val {t : Tex} {b : Bool} (h : t.okB = b) (lo hi : Nat) (v : Value) (w : World) (hv : TexR lo hi w v t) (hh : hi ≤ w.heap.size) :
    Calls Tryz.prog 64 #[v] w fun e w' => e = .returned (.bool b) ∧ Ext w w' := h ▸ sIsValidTexture_any lo hi v t w hv hh
theorem l15Size_half {l : Int} {m : Nat} (h0 : 1 ≤ l) (h4 : l ≤ 4) (hm : 2 ^ (l - 1).toNat = m) (w : World) :
    Calls Tryz.prog 76 #[.int .i64 (l - 1)] w fun e w' => e = .returned (.int .i64 m) ∧ w = w' := by
  subst hm
  exact l15Size_tex (t := ⟨l - 1, []⟩) (by show 0 ≤ l - 1; omega) (by show l - 1 ≤ 4; omega) w
theorem l15Texel_val {t : Tex} {x y r : Int} (ht : t.Ok) (hr : t.at x y = r) (lo hi : Nat) (v : Value) (w : World) (hv : TexR lo hi w v t) (hh : hi ≤ w.heap.size) :
    Calls Tryz.prog 119 #[v, .int .i64 x, .int .i64 y] w fun e w' => e = .returned (.int .i64 r) ∧ Ext w w' := hr ▸ l15Texel_any lo hi v t x y w hv hh ht

theorem block_lt {i j m : Nat} (hj : j < m) (hi : i < m) (hm : m ≤ 8) : j * m + i < 1000000000 := by
  have h1 := Nat.mul_le_mul (Nat.le_of_lt hj) hm
  have h2 := Nat.mul_le_mul hm (Nat.le_refl 8)
  have h3 := Nat.mul_le_mul (Nat.le_of_lt hj) (Nat.le_refl m)
  have h4 := Nat.mul_le_mul hm hm
  omega

set_option maxRecDepth 10000 in
set_option maxHeartbeats 1600000 in
theorem sHalf_valid (lo hi : Nat) (v : Value) (t : Tex) (w : World) (hv : TexR lo hi w v t) (hh : hi ≤ w.heap.size) (ht : t.Ok) (hl1 : 1 ≤ t.log) :
    Calls Tryz.prog 124 #[v] w fun e w' => ∃ v', e = .returned (.tuple #[v', .bool true]) ∧ OwnTex w.heap.size w' v' t.half ∧ Ext w w' := by
  obtain ⟨u, rfl, hlog⟩ := hv.shape
  have h4 := ht.log4
  obtain ⟨m, hm⟩ : ∃ m, 2 ^ (t.log - 1).toNat = m := ⟨_, rfl⟩
  have hn : t.n = 2 * m := by rw [ht.half_n hl1, hm]
  have hm8 : m ≤ 8 := by have := ht.n_le; omega
  have HM := hid hm
  have HN := hid hn
  have H1 := hid (Tex.okB_iff.2 ht)
  have HV := hid hv
  have HT := hid ht
  have h2b : (t.log == 0) = false := by rw [beq_eq_false_iff_ne]; omega
  clear hv ht hm hn
  go_enter Tryz.func124, Tryz.ntmps124
  go_wp2_with (first
    | (go_at_call 64; refine (sIsValidTexture_val H1.out lo hi _ _ (HV.out.ext hh (by repeat (with_reducible (first | assumption | exact Ext.refl _ | apply Ext.alloc | apply Ext.drew | apply Ext.drewN)))) (by simp; omega)).mono ?_; rintro e w1 ⟨rfl, hx⟩; obtain ⟨c1, f1⟩ := hx.cells; have z1 := hx.size; simp only [World.size_alloc] at z1; have q0 : w.heap.size < w1.heap.size := (by omega); have q1 : w.heap.size + 1 < w1.heap.size := (by omega))
    | (go_at_call 76; refine (l15Size_half hl1 h4 HM.out _).mono ?_; rintro e w2 ⟨rfl, rfl⟩))
  have hx0 : Ext w w1 := Ext.trans (by repeat (with_reducible (first | assumption | exact Ext.refl _ | apply Ext.alloc | apply Ext.drew | apply Ext.drewN))) hx
  go_loopw [6] (fun y wr => ∃ (j : Nat) (a : Option Addr) (c : Nat), j ≤ m ∧ y = .int .i64 j ∧ SSt w wr t u w1.heap.size m (j * m) a c) (fun y _ => m - (intOf y).toNat)
  case atStart =>
    refine ⟨0, none, 0, by omega, rfl, ?_⟩
    rw [Nat.zero_mul]
    exact ⟨hx0.alloc _, q1, by simp, by simp [go_sem, *], by simp [go_sem, *], by simp [go_sem, *], by simp [go_sem, *], by simp [go_sem, *], by simp [go_sem, *], by simp [go_sem], by simp [go_sem], by simp [go_sem], OwnInts.nil _ _⟩
  case round =>
    clear c1 f1 hx hx0
    obtain ⟨j, a, c, hj, rfl, hst⟩ := hrel
    have HS := hid hst
    clear hst
    by_cases hjm : j < m
    · go_wp2
      go_loopw [7] (fun x wr => ∃ (i : Nat) (a : Option Addr) (c : Nat), i ≤ m ∧ x = .int .i64 i ∧ SSt w wr t u w1.heap.size m (j * m + i) a c) (fun x _ => m - (intOf x).toNat)
      case atStart => exact ⟨0, a, c, by omega, rfl, HS.out⟩
      case round =>
        clear HS
        obtain ⟨i, a, c, hi', rfl, hst⟩ := hrel
        have HS := hid hst
        have hsz := hst.size
        have o0 := hst.o0
        have o1 := hst.o1
        have p0 := hst.p0
        have p1 := hst.p1
        have hsz0 : w.heap.size < wr.heap.size := by omega
        clear hst
        by_cases him : i < m
        · have hav := t.avgK_at (i := i) (j := j) him
          rw [Tex.avg] at hav
          have d1 := HT.out.at_range (2 * i) (2 * j)
          have d2 := HT.out.at_range (2 * i + 1) (2 * j)
          have d3 := HT.out.at_range (2 * i) (2 * j + 1)
          have d4 := HT.out.at_range (2 * i + 1) (2 * j + 1)
          obtain ⟨r1, e1⟩ : ∃ r, t.at (2 * i) (2 * j) = r := ⟨_, rfl⟩
          obtain ⟨r2, e2⟩ : ∃ r, t.at (2 * i + 1) (2 * j) = r := ⟨_, rfl⟩
          obtain ⟨r3, e3⟩ : ∃ r, t.at (2 * i) (2 * j + 1) = r := ⟨_, rfl⟩
          obtain ⟨r4, e4⟩ : ∃ r, t.at (2 * i + 1) (2 * j + 1) = r := ⟨_, rfl⟩
          rw [e1] at hav d1
          rw [e2] at hav d2
          rw [e3] at hav d3
          rw [e4] at hav d4
          have E1 := hid e1
          have E2 := hid e2
          have E3 := hid e3
          have E4 := hid e4
          have HAV := hid hav
          clear hav e1 e2 e3 e4
          have HX := hid (HS.out.ext)
          have hhr : hi ≤ wr.heap.size := by omega
          clear o0 o1
          go_wp2
          refine wp_region_ext (by kernel_rfl) (by kernel_rfl) ?_
          repeat (go_big_quiet_step ((go_at_call 119; with_reducible first
            | exact grow_call (l15Texel_val HT.out E1.out lo hi _ _ ((HV.out.ext hh HX.out).ext hhr (grow_ext _ _)) (Nat.le_trans hhr (grow_ext _ _).size))
            | exact grow_call (l15Texel_val HT.out E2.out lo hi _ _ ((HV.out.ext hh HX.out).ext hhr (grow_ext _ _)) (Nat.le_trans hhr (grow_ext _ _).size))
            | exact grow_call (l15Texel_val HT.out E3.out lo hi _ _ ((HV.out.ext hh HX.out).ext hhr (grow_ext _ _)) (Nat.le_trans hhr (grow_ext _ _).size))
            | exact grow_call (l15Texel_val HT.out E4.out lo hi _ _ ((HV.out.ext hh HX.out).ext hhr (grow_ext _ _)) (Nat.le_trans hhr (grow_ext _ _).size)))))
          refine wpQuiet_nil ?_
          intro w2 hx2
          have HS2 := hid (HS.out.to hx2)
          clear HS HX hsz p0 p1 hsz0 hhr hx2
          have hsz := HS2.out.size
          have o1 := HS2.out.o1
          have g1 := HS2.out.g1
          have hji := hid (block_lt hjm him hm8)
          go_wp2_with (at_builtin; refine wpList_append1 _ rfl _ _ rfl (w1.heap.size + 1) (.slice a (j * m + i) c) (t.halfPx m (j * m + i)) rfl (HS2.out.own.alloc _) ((r1 + r2 + r3 + r4) / 4) ⟨(by omega), (by omega)⟩ w2.heap.size rfl (by simp [go_sem]) (by rw [Tex.halfPx_length]; exact hji.out) (by simp; omega) ?_; intro v' w3 hown hg; rw [← HAV.out] at hown; obtain ⟨a', c', hv', _⟩ := hown.form; subst hv'; have HS3 := hid ((HS2.out.to (by repeat (with_reducible (first | assumption | exact Ext.refl _ | apply Ext.alloc | apply Ext.drew | apply Ext.drewN)))).push hg hown); obtain ⟨hst, hn'⟩ := HS3.out; rw [hn'] at hst; have HN' := hid hn'; have HST := hid hst; have hs3 : Same 0 (w1.heap.size + 1) w2 w3 := fun bb _ hbb => (hg.block bb (by simp; omega) (fun e => by have := (HS2.out.own.lt bb e.symm).1; omega)).trans (Ext.block (w := w2) (by repeat (with_reducible (first | assumption | exact Ext.refl _ | apply Ext.alloc | apply Ext.drew | apply Ext.drewN))) (by omega)); have y1 : w3.cell? ⟨w1.heap.size, 1, none⟩ = some (.slice a (j * m + i) c) := (hs3.cell (Nat.zero_le _) (by omega)).trans HS2.out.o1; have y2 : w3.frozen? ⟨w1.heap.size, 1, none⟩ = false := (hs3.frozen (Nat.zero_le _) (by omega)).trans HS2.out.g1; clear hst hn' hs3 hown hg HS2 HS3 o1 g1 hsz)
          go_roundw
          case rel => exact ⟨i + 1, a', c', by omega, by go_num, by rw [← Nat.add_assoc, Tex.halfPx_length]; exact HST.out⟩
          case measure => simp [intOf]; omega
        · go_wp2
          obtain rfl : i = m := by omega
          go_roundw
          case rel => exact ⟨j + 1, a, c, by omega, by go_num, by rw [Nat.add_mul, Nat.one_mul]; exact HS.out⟩
          case measure => simp [intOf]; omega
    · have hsz := HS.out.size
      have o0 := HS.out.o0
      have o1 := HS.out.o1
      have x2 := HS.out.r0
      have x3 := HS.out.r1
      have x4 := HS.out.f0
      have x5 := HS.out.f1
      have q2 : w.heap.size < wr.heap.size := by omega
      have q3 : w.heap.size + 1 < wr.heap.size := by omega
      obtain rfl : j = m := by omega
      go_wp2
      have hown := HS.out.own
      have hext := HS.out.ext
      refine bodyPost_ret (v := .tuple #[.agg #[.int .i64 (t.log - 1), .slice a (j * j) c], .bool true]) (by simp [results, Tryz.results124, go_sem, *]) rfl ⟨_, rfl, ⟨_, rfl, ⟨by show _ ≤ t.log - 1; omega, by show t.log - 1 ≤ _; omega⟩, ?_⟩, ?_⟩
      · have : t.half.px = t.halfPx j (j * j) := by rw [Tex.half, HM.out]
        rw [this]
        exact ((hown.setLow (by simp; omega) _).setLow (by simp; omega) _).low (by omega)
      · exact (hext.setCell (by simp) _).setCell (by simp) _

set_option maxHeartbeats 800000 in
theorem sHalfTexture_any (lo hi : Nat) (v : Value) (t : Tex) (w : World) (hv : TexR lo hi w v t) (hh : hi ≤ w.heap.size) :
    Calls Tryz.prog 124 #[v] w fun e w' => ∃ v', e = .returned (.tuple #[v', .bool t.halfR.2]) ∧ OwnTex w.heap.size w' v' t.halfR.1 ∧ Ext w w' := by
  by_cases h1 : t.okB = true
  · by_cases h2 : t.log = 0
    · have e1 : t.halfR = (⟨0, []⟩, false) := by simp [Tex.halfR, h2]
      rw [e1]
      obtain ⟨u, rfl, hlog⟩ := hv.shape
      have HV := hid hv
      have H1 := hid h1
      clear hv h1 e1
      generalize hl : t.log = l at *
      subst h2
      go_enter Tryz.func124, Tryz.ntmps124
      go_wp2_with (go_at_call 64; refine (sIsValidTexture_val H1.out lo hi _ _ (HV.out.ext hh (by repeat (with_reducible (first | assumption | exact Ext.refl _ | apply Ext.alloc | apply Ext.drew | apply Ext.drewN)))) (by simp; omega)).mono ?_; rintro e w1 ⟨rfl, hx⟩; obtain ⟨c1, f1⟩ := hx.cells; have z1 := hx.size; simp only [World.size_alloc] at z1)
      have hx0 : Ext w w1 := Ext.trans (by repeat (with_reducible (first | assumption | exact Ext.refl _ | apply Ext.alloc | apply Ext.drew | apply Ext.drewN))) hx
      exact bodyPost_ret (v := .tuple #[.agg #[.int .i64 0, .slice none 0 0], .bool false]) (by simp [results, Tryz.results124, go_sem, *]) rfl ⟨_, rfl, OwnTex.zero _ _, (hx0.setCell (by simp) _).setCell (by simp) _⟩
    · have ht := Tex.okB_iff.1 h1
      have e1 : t.halfR = (t.half, true) := by simp [Tex.halfR, h2, h1]
      rw [e1]
      exact sHalf_valid lo hi v t w hv hh ht (by have := ht.log0; omega)
  · have e1 : t.halfR = (⟨0, []⟩, false) := by simp [Tex.halfR, h1]
    rw [e1]
    obtain ⟨u, rfl, hlog⟩ := hv.shape
    have HV := hid hv
    have H1 := hid (Bool.eq_false_iff.2 h1)
    clear hv h1 e1
    generalize hl : t.log = l at *
    go_enter Tryz.func124, Tryz.ntmps124
    go_wp2_with (go_at_call 64; refine (sIsValidTexture_val H1.out lo hi _ _ (HV.out.ext hh (by repeat (with_reducible (first | assumption | exact Ext.refl _ | apply Ext.alloc | apply Ext.drew | apply Ext.drewN)))) (by simp; omega)).mono ?_; rintro e w1 ⟨rfl, hx⟩; obtain ⟨c1, f1⟩ := hx.cells; have z1 := hx.size; simp only [World.size_alloc] at z1)
    have hx0 : Ext w w1 := Ext.trans (by repeat (with_reducible (first | assumption | exact Ext.refl _ | apply Ext.alloc | apply Ext.drew | apply Ext.drewN))) hx
    exact bodyPost_ret (v := .tuple #[.agg #[.int .i64 0, .slice none 0 0], .bool false]) (by simp [results, Tryz.results124, go_sem, *]) rfl ⟨_, rfl, OwnTex.zero _ _, (hx0.setCell (by simp) _).setCell (by simp) _⟩
end Go.Proofs.YtjfcngbepjdfnaaGreat
