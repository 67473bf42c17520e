/- This text proves what the laws' helper functions over whole grids compute. -/
import Derived.Test.YtjfcngbepjdfnaaGreatLk1
namespace Go.Proofs.YtjfcngbepjdfnaaGreat
open Go.RowKit

theorem Bx.frozen {w : World} {B : Nat} {cs : Array Value} {t : TypeId} (h : Bx w B cs t) (i : Nat) : w.frozen? ⟨B, i, none⟩ = false := by
  unfold Bx at h
  simp [World.frozen?, h]
theorem Bx.ext {w w' : World} {B : Nat} {cs : Array Value} {t : TypeId} (h : Bx w B cs t) (e : Ext w w') : Bx w' B cs t := h.kp (e.kp h.lt)
theorem Bx.set {w : World} {B : Nat} {cs : Array Value} {t : TypeId} (h : Bx w B cs t) (i : Nat) (v : Value) : Bx (w.setCell ⟨B, i, none⟩ v) B (cs.setIfInBounds i v) t := by
  unfold Bx at *
  simp [World.setCell, Array.getElem?_modify, h]
theorem Bx.other {w : World} {B : Nat} {cs : Array Value} {t : TypeId} (h : Bx w B cs t) {p : Addr} (hp : B ≠ p.block) (v : Value) : Bx (w.setCell p v) B cs t := (Below.heap_setCell _ _ _ _ hp).trans h
theorem Bx.same {w : World} {B : Nat} {cs cs' : Array Value} {t : TypeId} (h : Bx w B cs t) (e : cs = cs') : Bx w B cs' t := e ▸ h
theorem szPointS_val {left r : Int} {n : Nat} (h : szRes left n = r) (lo hi : Nat) (u : Value) (f : Nat → Int) (w : World) (hu : Flats 5 lo hi w u n f) (h1 : 0 ≤ left) (h2 : left ≤ 1048576) :
    Calls Tryz.prog 17 #[u, .int .i64 left] w fun e w' => e = .returned (.int .i64 r) ∧ w = w' := h ▸ szPointS_any lo hi u n f left w hu h1 h2
/-- what is left behind a grid; below 0: too large -/
def Grd.sz (g : Grd) (left : Int) : Int := if szRes left g.m < 0 then -1 else szRes (szRes left g.m) g.t.px.length
def Grd.small (g : Grd) : Prop := g.m ≤ 1048576 ∧ g.t.px.length ≤ 1048576
theorem Grd.sz_small {g : Grd} {left : Int} (h1 : 0 ≤ left) (h2 : left ≤ 1048576) (h : ¬g.sz left < 0) : g.small ∧ g.sz left ≤ left ∧ 0 ≤ g.sz left := by
  unfold Grd.sz szRes at *
  by_cases h3 : left - (g.m : Int) < 0
  · simp only [if_pos h3] at h
    simp only [if_pos (show (-1 : Int) < 0 by decide)] at h
    exact absurd (by decide) h
  · simp only [if_neg h3] at h ⊢
    by_cases h5 : left - (g.m : Int) - (g.t.px.length : Int) < 0
    · simp only [if_pos h5] at h
      exact absurd (by decide) h
    · simp only [if_neg h5] at h ⊢
      exact ⟨⟨by omega, by omega⟩, by omega, by omega⟩
theorem Grd.sz_bd {g : Grd} {left : Int} (h1 : 0 ≤ left) (h : g.sz left < 0) : g.sz left = -1 := by
  unfold Grd.sz at *
  split
  · rfl
  · rename_i h3
    rw [if_neg h3] at h
    exact szRes_neg _ _ h
set_option maxHeartbeats 1600000 in
theorem szGrid_val {left r : Int} {g : Grd} (hr : g.sz left = r) (lo hi : Nat) (v : Value) (w : World) (hv : g.R lo hi w v) (hh : hi ≤ w.heap.size) (h1 : 0 ≤ left) (h2 : left ≤ 1048576) :
    Calls Tryz.prog 6 #[v, .int .i64 left] w fun e w' => e = .returned (.int .i64 r) ∧ Ext w w' := by
  obtain ⟨pu, tu, rfl, hn, ht, hl, hp, hu⟩ := hv
  obtain ⟨a, cap, rfl, HP⟩ := hp.open
  obtain ⟨a', cap', rfl, HU⟩ := hu.open
  have HT := hid (show TexR lo hi w (.agg #[.int .i64 g.t.log, .slice a' g.t.px.length cap']) g.t from ⟨_, rfl, hl, hu⟩)
  have HP2 := hid hp
  clear hp hu
  obtain ⟨s1, hs1⟩ : ∃ s, szRes left g.m = s := ⟨_, rfl⟩
  have hb := szRes_ge left g.m
  have hb2 := szRes_le left g.m h1
  rw [hs1] at hb hb2
  unfold Grd.sz at hr
  rw [hs1] at hr
  have HS1 := hid hs1
  clear hs1
  by_cases hn1 : s1 < 0
  · rw [if_pos hn1] at hr
    subst hr
    go_enter Tryz.func6, Tryz.ntmps6
    go_wp2_with fail
    refine (szPointS_val HS1.out lo hi _ g.f _ (HP2.out.ext hh (by repeat (with_reducible (first | assumption | exact Ext.refl _ | apply Ext.alloc | apply Ext.drew | apply Ext.drewN)))) h1 h2).mono ?_
    rintro e w1 ⟨rfl, rfl⟩
    go_wp2
    go_ret
    exact ⟨rfl, (by repeat (with_reducible (first | assumption | exact Ext.refl _ | apply Ext.alloc | apply Ext.drew | apply Ext.drewN)))⟩
  · rw [if_neg hn1] at hr
    obtain ⟨s2, hs2⟩ : ∃ s, szRes s1 g.t.px.length = s := ⟨_, rfl⟩
    rw [hs2] at hr
    subst hr
    have hng := szRes_neg s1 g.t.px.length
    rw [hs2] at hng
    have HS2 := hid hs2
    replace hng := hid hng
    clear hs2
    have x0 : Ext w (w.alloc (.cells #[.int .i64 g.n, .slice a g.m cap, .int .i64 g.tm, .int .i64 g.t.log, .slice a' g.t.px.length cap'] 31)) := (by repeat (with_reducible (first | assumption | exact Ext.refl _ | apply Ext.alloc | apply Ext.drew | apply Ext.drewN)))
    go_enter Tryz.func6, Tryz.ntmps6
    go_wp2_with fail
    refine (szPointS_val HS1.out lo hi _ g.f _ (HP2.out.ext hh (by repeat (with_reducible (first | assumption | exact Ext.refl _ | apply Ext.alloc | apply Ext.drew | apply Ext.drewN)))) h1 h2).mono ?_
    rintro e w1 ⟨rfl, rfl⟩
    go_wp2_with fail
    refine (szTexture_val HS2.out lo hi _ _ (HT.out.ext hh (by repeat (with_reducible (first | assumption | exact Ext.refl _ | apply Ext.alloc | apply Ext.drew | apply Ext.drewN)))) (by simp; omega) (by omega) (by omega)).mono ?_
    rintro e w2 ⟨rfl, x2⟩
    have X2 := x0.trans x2
    go_wp2
    all_goals go_ret
    all_goals first
      | exact ⟨ret_int (hng.out (by assumption)).symm, X2⟩
      | exact ⟨rfl, X2⟩
set_option maxRecDepth 20000 in
set_option maxHeartbeats 3200000 in
theorem toGrid_any (lo hi : Nat) (v : Value) (g : Grd) (w : World) (hv : g.R lo hi w v) (hh : hi ≤ w.heap.size) (hsz : g.small) :
    Calls Tryz.prog 9 #[v] w fun e w' => ∃ v', e = .returned v' ∧ g.O w.heap.size w'.heap.size w' v' ∧ Ext w w' := by
  obtain ⟨pu, tu, rfl, hn, ht, hl, hp, hu⟩ := hv
  obtain ⟨a, cap, rfl, HP⟩ := hp.open
  obtain ⟨a', cap', rfl, HU⟩ := hu.open
  have HT := hid (show TexR lo hi w (.agg #[.int .i64 g.t.log, .slice a' g.t.px.length cap']) g.t from ⟨_, rfl, hl, hu⟩)
  have HP2 := hid hp
  have h9 := hid (fun i (hi : i < g.m * 5) => (HP.cell i hi).1)
  clear hp hu
  obtain ⟨z1, z2⟩ := hsz
  have hn9 := hid hn
  have ht9 := hid ht
  have hl9 := hid hl
  clear hn ht hl
  have x0 : Ext w (((w.alloc (.cells #[.int .i64 g.n, .slice a g.m cap, .int .i64 g.tm, .int .i64 g.t.log, .slice a' g.t.px.length cap'] 31)).alloc (.cells #[.int .i64 0, .slice none 0 0, .int .i64 0, .int .i64 0, .slice none 0 0] 43)).alloc (.cells #[.int .i64 g.n, .slice none 0 0, .int .i64 0, .int .i64 0, .slice none 0 0] 43)) := (by repeat (with_reducible (first | assumption | exact Ext.refl _ | apply Ext.alloc | apply Ext.drew | apply Ext.drewN)))
  have bA := Bx.made w #[.int .i64 g.n, .slice a g.m cap, .int .i64 g.tm, .int .i64 g.t.log, .slice a' g.t.px.length cap'] 31
  have bB := Bx.madeAt (B := w.heap.size + 1) (w.alloc (.cells #[.int .i64 g.n, .slice a g.m cap, .int .i64 g.tm, .int .i64 g.t.log, .slice a' g.t.px.length cap'] 31)) #[.int .i64 0, .slice none 0 0, .int .i64 0, .int .i64 0, .slice none 0 0] 43 (by simp)
  have bC := Bx.madeAt (B := w.heap.size + 1 + 1) ((w.alloc (.cells #[.int .i64 g.n, .slice a g.m cap, .int .i64 g.tm, .int .i64 g.t.log, .slice a' g.t.px.length cap'] 31)).alloc (.cells #[.int .i64 0, .slice none 0 0, .int .i64 0, .int .i64 0, .slice none 0 0] 43)) #[.int .i64 g.n, .slice none 0 0, .int .i64 0, .int .i64 0, .slice none 0 0] 43 (by simp)
  replace bA := (bA.ext ((Ext.refl _).alloc (.cells #[.int .i64 0, .slice none 0 0, .int .i64 0, .int .i64 0, .slice none 0 0] 43))).ext ((Ext.refl _).alloc (.cells #[.int .i64 g.n, .slice none 0 0, .int .i64 0, .int .i64 0, .slice none 0 0] 43))
  replace bB := bB.ext ((Ext.refl _).alloc (.cells #[.int .i64 g.n, .slice none 0 0, .int .i64 0, .int .i64 0, .slice none 0 0] 43))
  go_enter Tryz.func9, Tryz.ntmps9
  go_wp2_with fail
  refine (toPointS_any lo hi _ g.m g.f _ (HP2.out.ext hh x0) (Nat.le_trans hh x0.size) z1).mono ?_
  rintro e w1 ⟨rfl, hR, x1⟩
  simp only [World.size_alloc] at hR
  have bA1 := bA.ext x1
  have bB1 := bB.ext x1
  have bC1 := bC.ext x1
  have X1 := x0.trans x1
  have hs1 := x1.size
  simp only [World.size_alloc] at hs1
  have hs3 := hR.lt
  have HX1 := hid X1
  have HR1 := hid hR
  clear bA bB bC x0 x1 X1 hR
  have p := bA1.lt
  have p0 := bA1.cell 0
  simp only [List.getElem?_toArray, List.getElem?_cons_zero, List.getElem?_cons_succ] at p0
  have p1 := bA1.cell 1
  simp only [List.getElem?_toArray, List.getElem?_cons_zero, List.getElem?_cons_succ] at p1
  have p2 := bA1.cell 2
  simp only [List.getElem?_toArray, List.getElem?_cons_zero, List.getElem?_cons_succ] at p2
  have p3 := bA1.cell 3
  simp only [List.getElem?_toArray, List.getElem?_cons_zero, List.getElem?_cons_succ] at p3
  have p4 := bA1.cell 4
  simp only [List.getElem?_toArray, List.getElem?_cons_zero, List.getElem?_cons_succ] at p4
  have q := bC1.lt
  have q0 := bC1.cell 0
  simp only [List.getElem?_toArray, List.getElem?_cons_zero, List.getElem?_cons_succ] at q0
  have q1 := bC1.cell 1
  simp only [List.getElem?_toArray, List.getElem?_cons_zero, List.getElem?_cons_succ] at q1
  have q2 := bC1.cell 2
  simp only [List.getElem?_toArray, List.getElem?_cons_zero, List.getElem?_cons_succ] at q2
  have q3 := bC1.cell 3
  simp only [List.getElem?_toArray, List.getElem?_cons_zero, List.getElem?_cons_succ] at q3
  have q4 := bC1.cell 4
  simp only [List.getElem?_toArray, List.getElem?_cons_zero, List.getElem?_cons_succ] at q4
  have qf0 := bC1.frozen 0
  have qf1 := bC1.frozen 1
  have qf2 := bC1.frozen 2
  have qf3 := bC1.frozen 3
  have qf4 := bC1.frozen 4
  have bB2 := hid ((bB1.other (p := ⟨w.heap.size + 1 + 1, 1, none⟩) (by simp) (.slice (some ⟨w.heap.size + 1 + 1 + 1, 0, none⟩) g.m g.m)).other (p := ⟨w.heap.size + 1 + 1, 2, none⟩) (by simp) (.int .i64 g.tm))
  have bC2 := hid ((bC1.set 1 (.slice (some ⟨w.heap.size + 1 + 1 + 1, 0, none⟩) g.m g.m)).set 2 (.int .i64 g.tm))
  have X2 := hid ((HX1.out.setCell (p := ⟨w.heap.size + 1 + 1, 1, none⟩) (by simp; omega) (.slice (some ⟨w.heap.size + 1 + 1 + 1, 0, none⟩) g.m g.m)).setCell (p := ⟨w.heap.size + 1 + 1, 2, none⟩) (by simp; omega) (.int .i64 g.tm))
  have HR2 := hid ((HR1.out.other (a := ⟨w.heap.size + 1 + 1, 1, none⟩) (by simp) (.slice (some ⟨w.heap.size + 1 + 1 + 1, 0, none⟩) g.m g.m)).other (a := ⟨w.heap.size + 1 + 1, 2, none⟩) (by simp) (.int .i64 g.tm))
  clear bA1 bB1 bC1 HX1 HR1
  go_wp2_with fail
  refine (toTexture_any lo hi _ g.t _ (HT.out.ext hh X2.out) (by simp; omega) z2).mono ?_
  rintro e w2 ⟨v2, rfl, ⟨u2, rfl, _, hO⟩, x2⟩
  obtain ⟨a2, c2, rfl, _⟩ := hO.form
  have bB3 := bB2.out.ext x2
  have bC3 := (bC2.out.ext x2).same (cs' := #[.int .i64 g.n, .slice (some ⟨w.heap.size + 1 + 1 + 1, 0, none⟩) g.m g.m, .int .i64 g.tm, .int .i64 0, .slice none 0 0]) rfl
  have hs2 := x2.size
  simp only [World.size_setCell] at hs2 hO
  have X3 := hid (X2.out.trans x2)
  have HR3 := hid (HR2.out.ext x2)
  have HO := hid hO
  have hol := hO.lt
  clear p p0 p1 p2 p3 p4 q q0 q1 q2 q3 q4 qf0 qf1 qf2 qf3 qf4 x2 hO
  have q := bC3.lt
  have q0 := bC3.cell 0
  simp only [List.getElem?_toArray, List.getElem?_cons_zero, List.getElem?_cons_succ] at q0
  have q1 := bC3.cell 1
  simp only [List.getElem?_toArray, List.getElem?_cons_zero, List.getElem?_cons_succ] at q1
  have q2 := bC3.cell 2
  simp only [List.getElem?_toArray, List.getElem?_cons_zero, List.getElem?_cons_succ] at q2
  have q3 := bC3.cell 3
  simp only [List.getElem?_toArray, List.getElem?_cons_zero, List.getElem?_cons_succ] at q3
  have q4 := bC3.cell 4
  simp only [List.getElem?_toArray, List.getElem?_cons_zero, List.getElem?_cons_succ] at q4
  have qf0 := bC3.frozen 0
  have qf1 := bC3.frozen 1
  have qf2 := bC3.frozen 2
  have qf3 := bC3.frozen 3
  have qf4 := bC3.frozen 4
  have r := bB3.lt
  have r0 := bB3.cell 0
  simp only [List.getElem?_toArray, List.getElem?_cons_zero, List.getElem?_cons_succ] at r0
  have r1 := bB3.cell 1
  simp only [List.getElem?_toArray, List.getElem?_cons_zero, List.getElem?_cons_succ] at r1
  have r2 := bB3.cell 2
  simp only [List.getElem?_toArray, List.getElem?_cons_zero, List.getElem?_cons_succ] at r2
  have r3 := bB3.cell 3
  simp only [List.getElem?_toArray, List.getElem?_cons_zero, List.getElem?_cons_succ] at r3
  have r4 := bB3.cell 4
  simp only [List.getElem?_toArray, List.getElem?_cons_zero, List.getElem?_cons_succ] at r4
  have rf0 := bB3.frozen 0
  have rf1 := bB3.frozen 1
  have rf2 := bB3.frozen 2
  have rf3 := bB3.frozen 3
  have rf4 := bB3.frozen 4
  clear bB3 bC3
  go_wp2
  refine bodyPost_ret (v := .agg #[.int .i64 g.n, .slice (some ⟨w.heap.size + 1 + 1 + 1, 0, none⟩) g.m g.m, .int .i64 g.tm, .int .i64 g.t.log, .slice a2 g.t.px.length c2]) (by simp [results, Tryz.results9, go_sem, *]) rfl ⟨_, rfl, ⟨w.heap.size + 1 + 1 + 1, _, rfl, by omega, ?_, ?_, ⟨?_, ?_⟩, hn9.out, ht9.out, hl9.out, h9.out, z1⟩, ?_⟩
  · have := HR3.out.lt
    simp
    omega
  · have hR := HR3.out
    repeat (with_reducible refine RowI.other ?_ (by simp <;> omega) _)
    exact hR
  · have h1 := HO.out
    refine OwnInts.low (lo := w.heap.size + 1 + 1 + 1 + 1) ?_ (by omega)
    repeat (with_reducible refine OwnInts.setLow ?_ (by simp <;> omega) _)
    have h2 := h1.low (show w.heap.size + 1 + 1 + 1 + 1 ≤ _ by omega)
    with_reducible exact h2
  · intro k hk
    have := (hol k hk).2
    simp
    omega
  · have hX := X3.out
    exact (by repeat (first | with_reducible assumption | with_reducible exact Ext.refl _ | with_reducible apply Ext.alloc | with_reducible apply Ext.drew | with_reducible apply Ext.drewN | (with_reducible refine Ext.setCell ?_ (by simp; omega) _) | (with_reducible refine Ext.setCell ?_ (by simp) _)))
end Go.Proofs.YtjfcngbepjdfnaaGreat
