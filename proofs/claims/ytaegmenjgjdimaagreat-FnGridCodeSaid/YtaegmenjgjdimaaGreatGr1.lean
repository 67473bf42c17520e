/- This text holds the reading of grids and proves when a grid is valid, on both sides. -/
import Derived.Test.YtaegmenjgjdimaaGreatSh15
namespace Go.Proofs.YtaegmenjgjdimaaGreat
open Go.RowKit

/-- a grid: its rate, its points (m of them, five numbers each), its time, its texture -/
structure Grd where
  n : Int
  m : Nat
  f : Nat → Int
  tm : Int
  t : Tex
def Grd.R (g : Grd) (lo hi : Nat) (w : World) (v : Value) : Prop := ∃ pu tu, v = .agg #[.int .i64 g.n, pu, .int .i64 g.tm, .int .i64 g.t.log, tu] ∧ I64 g.n ∧ I64 g.tm ∧ I64 g.t.log ∧ Flats 5 lo hi w pu g.m g.f ∧ Ints lo hi w tu g.t.px
theorem Grd.R.same {g : Grd} {lo hi : Nat} {w w' : World} {v : Value} (h : g.R lo hi w v) (s : Same lo hi w w') : g.R lo hi w' v := by
  obtain ⟨pu, tu, h1, h2, h3, h4, h5, h6⟩ := h
  exact ⟨pu, tu, h1, h2, h3, h4, h5.same s, h6.same s⟩
theorem Grd.R.ext {g : Grd} {lo hi : Nat} {w w' : World} {v : Value} (h : g.R lo hi w v) (hh : hi ≤ w.heap.size) (e : Ext w w') : g.R lo hi w' v := h.same (e.same hh)
theorem Grd.R.wide {g : Grd} {lo hi lo' hi' : Nat} {w : World} {v : Value} (h : g.R lo hi w v) (h1 : lo' ≤ lo) (h2 : hi ≤ hi') : g.R lo' hi' w v := by
  obtain ⟨pu, tu, g1, g2, g3, g4, g5, g6⟩ := h
  exact ⟨pu, tu, g1, g2, g3, g4, g5.wide h1 h2, g6.wide h1 h2⟩
/-- the five numbers of point k -/
def ptL (f : Nat → Int) (k : Nat) : List Int := [f (k * 5), f (k * 5 + 1), f (k * 5 + 2), f (k * 5 + 3), f (k * 5 + 4)]
def ptB (f : Nat → Int) (k : Nat) : Bool := (ptL f k).all fun x => inB x (-1000000) 1000000
theorem ptB_all (f : Nat → Int) (k : Nat) : ((ptL f k).all fun x => inB x (-1000000) 1000000) = ptB f k := by unfold ptB; with_reducible rfl
def Grd.okB (g : Grd) : Bool := inB g.n 1 8 && decide ((g.m : Int) = g.n * g.n) && inB g.tm 0 256 && g.t.okB && (List.range g.m).all (ptB g.f)
theorem sq_bd {n : Int} (h : inB n 1 8 = true) : 1 ≤ n * n ∧ n * n ≤ 64 := by
  have h := inB_iff.1 h
  rcases (show n = 1 ∨ n = 2 ∨ n = 3 ∨ n = 4 ∨ n = 5 ∨ n = 6 ∨ n = 7 ∨ n = 8 by omega) with rfl | rfl | rfl | rfl | rfl | rfl | rfl | rfl <;> decide
theorem rng_all {p : Nat → Bool} {m : Nat} (h : ∀ i, i < m → p i = true) : (List.range m).all p = true := List.all_eq_true.2 fun i hi => h i (List.mem_range.1 hi)
theorem rng_no {p : Nat → Bool} {m i : Nat} (hi : i < m) (h : p i = false) : (List.range m).all p = false := by
  rw [List.all_eq_false]
  exact ⟨i, List.mem_range.2 hi, by simp [h]⟩
/-- five numbers laid as a fresh row -/
theorem Ints.lit5At (w : World) {q : Nat} (hq : w.heap.size = q) {x : List Int} {a b c d e : Int} (hx : x = [a, b, c, d, e]) (hi : ∀ y ∈ x, I64 y) : Ints q (q + 1) (w.alloc (.cells #[.int .i64 a, .int .i64 b, .int .i64 c, .int .i64 d, .int .i64 e] 3)) (.slice (some ⟨q, 0, none⟩) 5 5) x := by
  subst hx hq
  refine ⟨_, 5, rfl, Nat.le_refl _, by unfold maxLen; omega, fun i y hy => ⟨hi y (List.mem_of_getElem? hy), w.heap.size, 0, rfl, Nat.le_refl _, by omega, ?_⟩⟩
  have hl := (List.getElem?_eq_some_iff.1 hy).1
  simp only [List.length_cons, List.length_nil] at hl
  rcases (show i = 0 ∨ i = 1 ∨ i = 2 ∨ i = 3 ∨ i = 4 by omega) with rfl | rfl | rfl | rfl | rfl <;> (simp at hy; subst hy; simp [go_sem])

theorem allWithin_val {xs : List Int} {lo hi : Int} {r : Bool} (h : (xs.all fun x => inB x lo hi) = r) (l0 h0 : Nat) (u : Value) (w : World) (hu : Ints l0 h0 w u xs) :
    Calls Tryz.prog 92 #[u, .int .i64 lo, .int .i64 hi] w fun e w' => e = .returned (.bool r) ∧ w = w' := h ▸ allWithin_any l0 h0 u xs lo hi w hu
set_option maxHeartbeats 1600000 in
theorem iIsValidGrid_any (lo hi : Nat) (v : Value) (g : Grd) (w : World) (hv : g.R lo hi w v) (hh : hi ≤ w.heap.size) :
    Calls Tryz.prog 55 #[v] w fun e w' => e = .returned (.bool g.okB) ∧ Ext w w' := by
  obtain ⟨pu, tu, rfl, hn, ht, hl, hp, hu⟩ := hv
  obtain ⟨a, cap, rfl, HP⟩ := hp.open
  obtain ⟨a', cap', rfl, HU⟩ := hu.open
  have l1 := HP.le
  have l2 := HP.cap
  have HT := hid (show TexR lo hi w (.agg #[.int .i64 g.t.log, .slice a' g.t.px.length cap']) g.t from ⟨_, rfl, hl, hu⟩)
  clear hp hu hn ht hl
  cases h1 : inB g.n 1 8
  · have e : g.okB = false := by unfold Grd.okB; rw [h1]; rfl
    rw [e]
    go_enter Tryz.func55, Tryz.ntmps55
    go_wp2_with (go_at_call 25; refine (within_val h1 _).mono ?_; rintro e w1 ⟨rfl, rfl⟩)
    go_ret
    exact ⟨rfl, (by repeat (with_reducible (first | assumption | exact Ext.refl _ | apply Ext.alloc | apply Ext.drew | apply Ext.drewN)))⟩
  have hb := sq_bd h1
  obtain ⟨P, hP⟩ : ∃ P, g.n * g.n = P := ⟨_, rfl⟩
  rw [hP] at hb
  by_cases h2 : (g.m : Int) = P
  case neg =>
    have e2 : ((g.m : Int) != P) = true := by simp [h2]
    have e : g.okB = false := by unfold Grd.okB; rw [hP, decide_eq_false h2]; simp
    rw [e]
    clear h2 e
    go_enter Tryz.func55, Tryz.ntmps55
    go_wp2_with (go_at_call 25; refine (within_val h1 _).mono ?_; rintro e w1 ⟨rfl, rfl⟩)
    go_ret
    exact ⟨rfl, (by repeat (with_reducible (first | assumption | exact Ext.refl _ | apply Ext.alloc | apply Ext.drew | apply Ext.drewN)))⟩
  have e2 : ((g.m : Int) != P) = false := by simp [h2]
  have H2 := hid h2
  have hm : g.m ≤ 64 := by omega
  clear h2
  cases h3 : inB g.tm 0 256
  · have e : g.okB = false := by simp only [Grd.okB, h3, Bool.and_false, Bool.false_and]
    rw [e]
    go_enter Tryz.func55, Tryz.ntmps55
    go_wp2_with (go_at_call 25; (first | with_reducible refine (within_val h1 _).mono ?_ | with_reducible refine (within_val h3 _).mono ?_); rintro e w1 ⟨rfl, rfl⟩)
    go_ret
    exact ⟨rfl, (by repeat (with_reducible (first | assumption | exact Ext.refl _ | apply Ext.alloc | apply Ext.drew | apply Ext.drewN)))⟩
  cases h4 : g.t.okB
  · have e : g.okB = false := by simp only [Grd.okB, h4, Bool.and_false, Bool.false_and]
    rw [e]
    go_enter Tryz.func55, Tryz.ntmps55
    go_wp2_with (first | (go_at_call 25; (first | with_reducible refine (within_val h1 _).mono ?_ | with_reducible refine (within_val h3 _).mono ?_); rintro e w1 ⟨rfl, rfl⟩) | (go_at_call 91; refine (iIsValidTexture_val h4 lo hi _ _ (HT.out.ext hh (by repeat (with_reducible (first | assumption | exact Ext.refl _ | apply Ext.alloc | apply Ext.drew | apply Ext.drewN)))) (by simp; omega)).mono ?_; rintro e w1 ⟨rfl, x1⟩))
    go_ret
    exact ⟨rfl, Ext.trans (by repeat (with_reducible (first | assumption | exact Ext.refl _ | apply Ext.alloc | apply Ext.drew | apply Ext.drewN))) x1⟩
  have hOK : g.okB = (List.range g.m).all (ptB g.f) := by simp only [Grd.okB, h1, hP, decide_eq_true H2.out, h3, h4, Bool.true_and]
  rw [hOK]
  clear hOK
  go_enter Tryz.func55, Tryz.ntmps55
  go_wp2_with (first | (go_at_call 25; (first | with_reducible refine (within_val h1 _).mono ?_ | with_reducible refine (within_val h3 _).mono ?_); rintro e w1 ⟨rfl, rfl⟩) | (go_at_call 91; refine (iIsValidTexture_val h4 lo hi _ _ (HT.out.ext hh (by repeat (with_reducible (first | assumption | exact Ext.refl _ | apply Ext.alloc | apply Ext.drew | apply Ext.drewN)))) (by simp; omega)).mono ?_; rintro e w1 ⟨rfl, x1⟩; obtain ⟨d0, d1⟩ : w.heap.size < w1.heap.size ∧ w1.cell? ⟨w.heap.size, 1, none⟩ = some (.slice a g.m cap) := ⟨by have := x1.size; simp at this; omega, by rw [x1.cells.1 _ _ (by simp)]; simp [go_sem]⟩))
  have X1 := hid (Ext.trans (by repeat (with_reducible (first | assumption | exact Ext.refl _ | apply Ext.alloc | apply Ext.drew | apply Ext.drewN))) x1 : Ext w w1)
  clear x1
  go_loopw [35] (fun i wr => ∃ k : Nat, k ≤ g.m ∧ i = .int .i64 k ∧ (∀ j, j < k → ptB g.f j = true) ∧ Ext w wr) (fun i _ => g.m - (intOf i).toNat)
  case atStart => exact ⟨0, by omega, rfl, fun j h => by omega, X1.out⟩
  case round =>
    obtain ⟨k, hk, rfl, hall, hx⟩ := hrel
    have HA := hid hall
    clear hall
    by_cases hlt : k < g.m
    · obtain ⟨b, off, rfl, hb1, hb2, hc⟩ := HP.at hlt (by decide)
      have c0 := (hx.cells.1 b _ (by omega)).trans (hc 0 (by decide))
      have c1 := (hx.cells.1 b _ (by omega)).trans (hc 1 (by decide))
      have c2 := (hx.cells.1 b _ (by omega)).trans (hc 2 (by decide))
      have c3 := (hx.cells.1 b _ (by omega)).trans (hc 3 (by decide))
      have c4 := (hx.cells.1 b _ (by omega)).trans (hc 4 (by decide))
      simp only [Nat.add_zero] at c0
      have HX := hid hx
      have hbw : b < wr.heap.size := by have := hx.size; omega
      have h9 : ∀ y ∈ ptL g.f k, I64 y := by
        intro y hy
        simp only [ptL, List.mem_cons, List.not_mem_nil, or_false] at hy
        rcases hy with rfl | rfl | rfl | rfl | rfl
        · exact HP.i64 (j := 0) hlt (by decide)
        · exact HP.i64 (j := 1) hlt (by decide)
        · exact HP.i64 (j := 2) hlt (by decide)
        · exact HP.i64 (j := 3) hlt (by decide)
        · exact HP.i64 (j := 4) hlt (by decide)
      have H9 := hid h9
      clear hc hx h9
      obtain ⟨r, hr⟩ : ∃ r, ptB g.f k = r := ⟨_, rfl⟩
      have HR := hid hr
      clear hr
      go_wp2_with fail
      have hR2 := (ptB_all g.f k).trans HR.out
      refine (allWithin_val hR2 (wr.heap.size + 1) (wr.heap.size + 1 + 1) _ _ (Ints.lit5At _ (by simp) rfl H9.out)).mono ?_
      clear hR2
      rintro e w2 ⟨rfl, rfl⟩
      cases r
      · go_wp2
        go_ret
        exact ⟨ret_bool (rng_no hlt HR.out).symm, by have hx := HX.out; exact (by repeat (first | with_reducible assumption | with_reducible exact Ext.refl _ | with_reducible apply Ext.alloc | with_reducible apply Ext.drew | with_reducible apply Ext.drewN | (with_reducible refine Ext.setCell ?_ (by simp; omega) _) | (with_reducible refine Ext.setCell ?_ (by simp) _)))⟩
      · go_wp2
        go_roundw
        case rel => exact ⟨k + 1, by omega, by go_num, fun j hj => by
          by_cases e : j = k
          · subst e; exact HR.out
          · exact HA.out j (by omega), by have hx := HX.out; exact (by repeat (first | with_reducible assumption | with_reducible exact Ext.refl _ | with_reducible apply Ext.alloc | with_reducible apply Ext.drew | with_reducible apply Ext.drewN | (with_reducible refine Ext.setCell ?_ (by simp; omega) _) | (with_reducible refine Ext.setCell ?_ (by simp) _)))⟩
        case measure => simp [intOf]; omega
    · go_wp2
      go_ret
      obtain rfl : k = g.m := by omega
      exact ⟨ret_bool (rng_all HA.out).symm, hx⟩
end Go.Proofs.YtaegmenjgjdimaaGreat
