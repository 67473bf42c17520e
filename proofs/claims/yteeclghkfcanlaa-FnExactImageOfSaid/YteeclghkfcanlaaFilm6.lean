/- This text proves what the laws' helper functions over films do. -/
import Derived.Test.YteeclghkfcanlaaFilm5
namespace Go.Proofs.Yteeclghkfcanlaa
open Go.RowKit

theorem OwnBools.form {lo : Nat} {w : World} {v : Value} {n : Nat} {f : Nat → Bool} (h : OwnBools lo w v n f) : ∃ a cap, v = .slice a n cap ∧ n ≤ 9223372036854775807 := by
  obtain ⟨h1, h2⟩ := h
  rcases h2 with ⟨rfl, h4⟩ | ⟨g, cap, cur, rfl, hb, hg, hc, hm, hs, ht⟩
  · exact ⟨none, 0, by rw [h4], by omega⟩
  · exact ⟨some ⟨g, 0, none⟩, cap, rfl, by unfold maxLen at hm; omega⟩
theorem OwnBools.lt {lo : Nat} {w : World} {v : Value} {n : Nat} {f : Nat → Bool} (h : OwnBools lo w v n f) : ∀ k, v.ownBlock = some k → lo ≤ k ∧ k < w.heap.size := World.ownsRow.lt h
theorem OwnBools.at {lo : Nat} {w : World} {a : Option Addr} {n cap : Nat} {f : Nat → Bool} (h : OwnBools lo w (.slice a n cap) n f) {k : Nat} (hk : k < n) :
    ∃ g, a = some ⟨g, 0, none⟩ ∧ lo ≤ g ∧ g < w.heap.size ∧ w.cell? ⟨g, k, none⟩ = some (.bool (f k)) ∧ w.frozen? ⟨g, k, none⟩ = false ∧
      ∀ x, OwnBools lo (w.setCell ⟨g, k, none⟩ (.bool x)) (.slice a n cap) n (fun j => if j = k then x else f j) ∧ w.grownBy (w.setCell ⟨g, k, none⟩ (.bool x)) (some g) := by
  have hown' : w.ownsRow lo 4 1 (.slice a n cap) n ((List.range n).map fun i => .bool (f i)) := h
  rcases hown'.2 with ⟨h1, h4⟩ | ⟨g, cap', cur, h1, hb, hg, hc, hm, hs, ht⟩
  · omega
  · simp only [Value.slice.injEq, true_and] at h1
    obtain ⟨rfl, rfl⟩ := h1
    refine ⟨g, rfl, hb, (Array.getElem?_eq_some_iff.1 hg).1, ?_, hown'.frozenAt k, fun x => ?_⟩
    · rw [hown'.cellAt k (by omega)]; simp [hk]
    · have hst := hown'.stored k (.bool x)
      rw [map_set] at hst
      have e : (fun j => if j = k then Value.bool x else Value.bool (f j)) = fun j => Value.bool (if j = k then x else f j) := by
        funext j
        split <;> rfl
      rw [e] at hst
      exact hst

set_option maxHeartbeats 800000 in
theorem markBoolS_any (lo : Nat) (u : Value) (n : Nat) (f : Nat → Bool) (k0 : Int) (w : World) (hu : OwnBools lo w u n f) (h0 : 0 ≤ k0) (hsz : k0 + n ≤ 1152921504606846976) :
    Calls Try.prog 58 #[u, .int .i64 k0] w fun e w' => e = .returned (.int .i64 (k0 + n)) ∧ w.grownBy w' u.ownBlock := by
  obtain ⟨a, cap, rfl, hlen⟩ := hu.form
  have HU := hid hu
  clear hu
  go_enter Try.func58, Try.ntmps58
  go_wp2
  go_loopw [1, 5] (fun q i wr => ∃ k : Nat, k ≤ n ∧ i = .int .i64 k ∧ q = .int .i64 (k0 + k) ∧ (∃ f', OwnBools lo wr (.slice a n cap) n f') ∧ w.grownBy wr (Value.slice a n cap).ownBlock) (fun _ i _ => n - (intOf i).toNat)
  case atStart => exact ⟨0, by omega, rfl, by simp, ⟨_, HU.out⟩, grownBy.refl _ _⟩
  case round =>
    obtain ⟨k, hk, rfl, rfl, ⟨f', hown⟩, hg⟩ := hrel
    by_cases hlt : k < n
    · obtain ⟨g, rfl, hb1, hb2, hc, hf, hst⟩ := hown.at hlt
      have HS := hid (fun x => (⟨⟨_, (hst x).1⟩, grownBy.trans hg (hst x).2⟩ : (∃ f', OwnBools lo (wr.setCell ⟨g, k, none⟩ (.bool x)) (.slice (some ⟨g, 0, none⟩) n cap) n f') ∧ w.grownBy (wr.setCell ⟨g, k, none⟩ (.bool x)) (Value.slice (some ⟨g, 0, none⟩) n cap).ownBlock))
      clear hst hg hown
      go_wp2
      go_roundw
      case rel => exact ⟨k + 1, by omega, by go_num, by go_num, (HS.out _).1, (HS.out _).2⟩
      case measure => simp [intOf]; omega
    · obtain rfl : k = n := by omega
      have HG := hid hg
      clear hg hown
      go_wp2
      go_ret
      exact ⟨rfl, HG.out⟩

/-- what szFilm answers at the bound of the laws -/
def Fm.fits (F : Fm) : Prop := F.px.length + F.n ≤ 1048576
def Fm.sz (F : Fm) : Int := if F.px.length + F.n ≤ 1048576 then 1048576 - F.px.length - F.n else -1

set_option maxHeartbeats 800000 in
theorem szFilm_val {F : Fm} {r : Int} (hr : F.sz = r) (lo hi : Nat) (v : Value) (w : World) (hv : F.R lo hi w v) (hh : hi ≤ w.heap.size) :
    Calls Try.prog 15 #[v, .int .i64 1048576] w fun e w' => e = .returned (.int .i64 r) ∧ Ext w w' := by
  subst hr
  obtain ⟨u, d, rfl, _, _, hu, hd⟩ := hv
  by_cases h1 : F.px.length ≤ 1048576
  · have e1 : szRes 1048576 F.px.length = 1048576 - F.px.length := by unfold szRes; rw [if_neg (by omega)]
    have HS := fun w hu => e1 ▸ szIntS_res lo hi u F.px 1048576 w hu (by decide) (by decide)
    have HS := hid HS
    clear e1
    by_cases h2 : F.px.length + F.n ≤ 1048576
    · have e2 : szRes (1048576 - F.px.length) F.n = 1048576 - F.px.length - F.n := by unfold szRes; rw [if_neg (by omega)]
      have HB := fun w hu => e2 ▸ szBoolS_any lo hi d F.n F.dn (1048576 - F.px.length) w hu (by omega) (by omega)
      have HB := hid HB
      have er := hid (show F.sz = 1048576 - F.px.length - F.n by unfold Fm.sz; rw [if_pos h2])
      clear e2
      go_enter Try.func15, Try.ntmps15
      go_wp2_with fail
      refine (HS.out _ (hu.ext hh (by repeat (with_reducible (first | assumption | exact Ext.refl _ | apply Ext.alloc | apply Ext.drew | apply Ext.drewN))))).mono ?_
      rintro e w1 ⟨rfl, rfl⟩
      go_wp2_with fail
      refine (HB.out _ (hd.ext hh (by repeat (with_reducible (first | assumption | exact Ext.refl _ | apply Ext.alloc | apply Ext.drew | apply Ext.drewN))))).mono ?_
      rintro e w1 ⟨rfl, rfl⟩
      go_wp2
      go_ret
      exact ⟨ret_int er.out.symm, (by repeat (with_reducible (first | assumption | exact Ext.refl _ | apply Ext.alloc | apply Ext.drew | apply Ext.drewN)))⟩
    · have e2 : szRes (1048576 - F.px.length) F.n = -1 := by unfold szRes; rw [if_pos (by omega)]
      have HB := fun w hu => e2 ▸ szBoolS_any lo hi d F.n F.dn (1048576 - F.px.length) w hu (by omega) (by omega)
      have HB := hid HB
      have er := hid (show F.sz = -1 by unfold Fm.sz; rw [if_neg h2])
      clear e2
      go_enter Try.func15, Try.ntmps15
      go_wp2_with fail
      refine (HS.out _ (hu.ext hh (by repeat (with_reducible (first | assumption | exact Ext.refl _ | apply Ext.alloc | apply Ext.drew | apply Ext.drewN))))).mono ?_
      rintro e w1 ⟨rfl, rfl⟩
      go_wp2_with fail
      refine (HB.out _ (hd.ext hh (by repeat (with_reducible (first | assumption | exact Ext.refl _ | apply Ext.alloc | apply Ext.drew | apply Ext.drewN))))).mono ?_
      rintro e w1 ⟨rfl, rfl⟩
      go_wp2
      go_ret
      exact ⟨ret_int er.out.symm, (by repeat (with_reducible (first | assumption | exact Ext.refl _ | apply Ext.alloc | apply Ext.drew | apply Ext.drewN)))⟩
  · have e1 : szRes 1048576 F.px.length = -1 := by unfold szRes; rw [if_pos (by omega)]
    have HS := fun w hu => e1 ▸ szIntS_res lo hi u F.px 1048576 w hu (by decide) (by decide)
    have HS := hid HS
    have er := hid (show F.sz = -1 by unfold Fm.sz; rw [if_neg (by omega)])
    clear e1
    go_enter Try.func15, Try.ntmps15
    go_wp2_with fail
    refine (HS.out _ (hu.ext hh (by repeat (with_reducible (first | assumption | exact Ext.refl _ | apply Ext.alloc | apply Ext.drew | apply Ext.drewN))))).mono ?_
    rintro e w1 ⟨rfl, rfl⟩
    go_wp2
    go_ret
    exact ⟨ret_int er.out.symm, (by repeat (with_reducible (first | assumption | exact Ext.refl _ | apply Ext.alloc | apply Ext.drew | apply Ext.drewN)))⟩

/-- v is the film, and owns its pixels and, behind them, its marks -/
def Fm.Own (F : Fm) (lo : Nat) (w : World) (v : Value) : Prop := ∃ u d m, v = .agg #[.int .i64 F.w, .int .i64 F.h, u, d] ∧ I64 F.w ∧ I64 F.h ∧ OwnInts lo w u F.px ∧ (∀ k, u.ownBlock = some k → k < m) ∧ lo ≤ m ∧ OwnBools m w d F.n F.dn
theorem Fm.Own.form {F : Fm} {lo : Nat} {w : World} {v : Value} (h : F.Own lo w v) : ∃ a c a' c', v = .agg #[.int .i64 F.w, .int .i64 F.h, .slice a F.px.length c, .slice a' F.n c'] := by
  obtain ⟨u, d, m, rfl, _, _, h1, _, _, h2⟩ := h
  obtain ⟨a, c, rfl, _⟩ := h1.form
  obtain ⟨a', c', rfl, _⟩ := h2.form
  exact ⟨a, c, a', c', rfl⟩
theorem Bools.wide {lo hi lo' hi' : Nat} {w : World} {v : Value} {n : Nat} {f : Nat → Bool} (h : Bools lo hi w v n f) (h1 : lo' ≤ lo) (h2 : hi ≤ hi') : Bools lo' hi' w v n f := by
  obtain ⟨a, cap, g1, g2, g3, g4⟩ := h
  refine ⟨a, cap, g1, g2, g3, fun i hx => ?_⟩
  obtain ⟨b, off, h6, h7, h8, h9⟩ := g4 i hx
  exact ⟨b, off, h6, by omega, by omega, h9⟩
theorem Fm.Own.R {F : Fm} {lo : Nat} {w : World} {v : Value} (h : F.Own lo w v) : F.R lo w.heap.size w v := by
  obtain ⟨u, d, m, rfl, i1, i2, h1, _, h3, h2⟩ := h
  exact ⟨u, d, rfl, i1, i2, h1.ints, h2.bools.wide h3 (Nat.le_refl _)⟩
theorem Fm.Own.ext {F : Fm} {lo : Nat} {w w' : World} {v : Value} (h : F.Own lo w v) (e : Ext w w') : F.Own lo w' v := by
  obtain ⟨u, d, m, rfl, i1, i2, h1, h4, h3, h2⟩ := h
  exact ⟨u, d, m, rfl, i1, i2, h1.ext e, h4, h3, h2.ext e⟩
theorem Fm.Own.kept {F : Fm} {lo : Nat} {w w' : World} {v : Value} (h : F.Own lo w v) (s : Same lo w.heap.size w w') : F.Own lo w' v := by
  obtain ⟨u, d, m, rfl, i1, i2, h1, h4, h3, h2⟩ := h
  exact ⟨u, d, m, rfl, i1, i2, h1.kept s, h4, h3, h2.kept fun b hb hb' => s b (by omega) hb'⟩
/-- the film's rows lie below M -/
def filmUnder (v : Value) (M : Nat) : Prop := ∀ a b u d, v = .agg #[a, b, u, d] → (∀ k, u.ownBlock = some k → k < M) ∧ ∀ k, d.ownBlock = some k → k < M
theorem Fm.Own.under {F : Fm} {lo : Nat} {w : World} {v : Value} (h : F.Own lo w v) : filmUnder v w.heap.size := by
  obtain ⟨u, d, m, rfl, _, _, h1, _, _, h2⟩ := h
  intro a b u' d' e
  simp only [Value.agg.injEq] at e
  obtain ⟨_, _, rfl, rfl⟩ : Value.int .i64 F.w = a ∧ Value.int .i64 F.h = b ∧ u = u' ∧ d = d' := by simpa using e
  exact ⟨fun k hk => (h1.lt k hk).2, fun k hk => (h2.lt k hk).2⟩

/-- box B holds a value of four cells -/
structure QBox (w : World) (B : Nat) (a b c d : Value) : Prop where
  lt : B < w.heap.size
  c0 : w.cell? ⟨B, 0, none⟩ = some a
  c1 : w.cell? ⟨B, 1, none⟩ = some b
  c2 : w.cell? ⟨B, 2, none⟩ = some c
  c3 : w.cell? ⟨B, 3, none⟩ = some d
theorem QBox.at {w w' : World} {B : Nat} {a b c d : Value} (h : QBox w B a b c d) (hz : w.heap.size ≤ w'.heap.size) (s : w'.heap[B]? = w.heap[B]?) : QBox w' B a b c d :=
  ⟨Nat.lt_of_lt_of_le h.lt hz, (World.cell?_of_block (w := w) s).trans h.c0, (World.cell?_of_block (w := w) s).trans h.c1, (World.cell?_of_block (w := w) s).trans h.c2, (World.cell?_of_block (w := w) s).trans h.c3⟩
theorem QBox.ext {w w' : World} {B : Nat} {a b c d : Value} (h : QBox w B a b c d) (e : Ext w w') : QBox w' B a b c d := h.at e.size (e.block h.lt)
theorem QBox.made (w : World) (a b c d : Value) (ty : TypeId) : QBox (w.alloc (.cells #[a, b, c, d] ty)) w.heap.size a b c d := ⟨by simp, by simp [go_sem], by simp [go_sem], by simp [go_sem], by simp [go_sem]⟩
theorem QBox.madeAt {B : Nat} (w : World) (a b c d : Value) (ty : TypeId) (h : w.heap.size = B) : QBox (w.alloc (.cells #[a, b, c, d] ty)) B a b c d := h ▸ QBox.made w a b c d ty
theorem QBox.setOther {w : World} {B : Nat} {a b c d : Value} (h : QBox w B a b c d) {p : Addr} (hp : p.block ≠ B) (u : Value) : QBox (w.setCell p u) B a b c d := by
  have k : ∀ i, (w.setCell p u).cell? ⟨B, i, none⟩ = w.cell? ⟨B, i, none⟩ := fun i => World.cell?_setCell_other _ _ _ _ (fun e => hp (by rw [e]))
  exact ⟨by simpa using h.lt, (k 0).trans h.c0, (k 1).trans h.c1, (k 2).trans h.c2, (k 3).trans h.c3⟩
theorem QBox.set2 {w : World} {B : Nat} {a b c d : Value} (h : QBox w B a b c d) (u : Value) : QBox (w.setCell ⟨B, 2, none⟩ u) B a b u d :=
  ⟨by simpa using h.lt, (World.cell?_setCell_other _ _ _ _ (by simp)).trans h.c0, (World.cell?_setCell_other _ _ _ _ (by simp)).trans h.c1, World.cell?_setCell_same _ _ _ h.c2, (World.cell?_setCell_other _ _ _ _ (by simp)).trans h.c3⟩

set_option maxHeartbeats 800000 in
theorem toFilm_any (lo hi : Nat) (v : Value) (F : Fm) (w : World) (hv : F.R lo hi w v) (hh : hi ≤ w.heap.size) (h : F.px.length + F.n ≤ 1048576) :
    Calls Try.prog 17 #[v] w fun e w' => ∃ v', e = .returned v' ∧ F.Own w.heap.size w' v' ∧ Ext w w' := by
  obtain ⟨u, d, rfl, i1, i2, hu, hd⟩ := hv
  go_enter Try.func17, Try.ntmps17
  go_wp2_with fail
  refine (toIntS_any lo hi u F.px _ (hu.ext hh (by repeat (first | with_reducible assumption | with_reducible exact Ext.refl _ | with_reducible apply Ext.alloc | with_reducible apply Ext.drew | with_reducible apply Ext.drewN | (with_reducible refine Ext.setCell ?_ (by simp; omega) _) | (with_reducible refine Ext.setCell ?_ (by simp) _)))) (by simp; omega) (by omega)).mono ?_
  rintro e w1 ⟨v1, rfl, hv1, hx⟩
  obtain ⟨a, cap, rfl, _⟩ := hv1.form
  have hz := hx.size
  have b0 : QBox w1 w.heap.size _ _ _ _ := ((QBox.made w _ _ _ _ _).ext (by repeat (with_reducible (first | assumption | exact Ext.refl _ | apply Ext.alloc | apply Ext.drew | apply Ext.drewN)))).ext hx
  have hx' := (Ext.trans (by repeat (first | with_reducible assumption | with_reducible exact Ext.refl _ | with_reducible apply Ext.alloc | with_reducible apply Ext.drew | with_reducible apply Ext.drewN | (with_reducible refine Ext.setCell ?_ (by simp; omega) _) | (with_reducible refine Ext.setCell ?_ (by simp) _))) hx : Ext w w1)
  have b1 : QBox w1 (w.heap.size + 1) _ _ _ _ := ((QBox.madeAt (w.alloc _) _ _ _ _ _ (by simp)).ext (Ext.alloc (Ext.refl _) _)).ext hx
  have b2 : QBox w1 (w.heap.size + 1 + 1) _ _ _ _ := (QBox.madeAt ((w.alloc _).alloc _) _ _ _ _ _ (by simp)).ext hx
  have fz1 : ∀ k, w1.frozen? ⟨w.heap.size + 1, k, none⟩ = false := fun k => (hx.cells.2 _ k (by simp)).trans (by simp [go_sem])
  have fz2 : ∀ k, w1.frozen? ⟨w.heap.size + 1 + 1, k, none⟩ = false := fun k => (hx.cells.2 _ k (by simp)).trans (by simp [go_sem])
  simp only [World.size_alloc] at hz
  have s1 : w.heap.size < w1.heap.size := by omega
  obtain ⟨_, _, _, _, c3⟩ := b0
  have f2 := fz2 2
  have e2 := b2.c2
  have s2 := b2.lt
  clear hx
  go_wp2_with fail
  refine (toBoolS_any lo hi d F.n F.dn _ (hd.ext hh (Ext.setCell hx' (by simp; omega) _)) (by simp; omega) (by omega)).mono ?_
  rintro e w2 ⟨v2, rfl, hv2, hx2⟩
  obtain ⟨a2, cap2, rfl, _⟩ := hv2.form
  have hz2 := hx2.size
  have B1 : QBox w2 (w.heap.size + 1) _ _ _ _ := (b1.setOther (by simp) _).ext hx2
  have B2 : QBox w2 (w.heap.size + 1 + 1) _ _ _ _ := (b2.set2 _).ext hx2
  have FZ1 : ∀ k, w2.frozen? ⟨w.heap.size + 1, k, none⟩ = false := fun k => (hx2.cells.2 _ k (by simp; omega)).trans ((World.frozen?_setCell _ _ _ _).trans (fz1 k))
  have FZ2 : ∀ k, w2.frozen? ⟨w.heap.size + 1 + 1, k, none⟩ = false := fun k => (hx2.cells.2 _ k (by simp; omega)).trans ((World.frozen?_setCell _ _ _ _).trans (fz2 k))
  simp only [World.size_setCell] at hz2
  clear b1 b2 fz1 fz2 c3 f2 e2 s2
  obtain ⟨l1, p0, p1, p2, p3⟩ := B1
  obtain ⟨l2, q0, q1, q2, q3⟩ := B2
  have O1 : OwnInts (w.heap.size + 1 + 1 + 1) w2 (.slice a F.px.length cap) F.px := by simpa using (hv1.setLow (p := ⟨w.heap.size + 1 + 1, 2, none⟩) (by simp) _).ext hx2
  have HX := Ext.trans (Ext.setCell hx' (p := ⟨w.heap.size + 1 + 1, 2, none⟩) (by simp; omega) _) hx2
  clear hx2 hx'
  go_wp2
  refine bodyPost_ret (v := .agg #[.int .i64 F.w, .int .i64 F.h, .slice a F.px.length cap, .slice a2 F.n cap2]) (by simp [results, Try.results17, go_sem, *]) rfl ⟨_, rfl, ⟨_, _, w1.heap.size, rfl, i1, i2, ?_, fun k hk => (hv1.lt k hk).2, by omega, ?_⟩, ?_⟩
  · refine OwnInts.low (lo := w.heap.size + 1 + 1 + 1) ?_ (by omega)
    repeat (refine OwnInts.setLow ?_ (by first | (simp; done) | (simp; omega)) _)
    exact O1
  · simp only [World.size_setCell] at hv2
    repeat (refine OwnBools.setLow ?_ (by first | (simp; done) | (simp; omega)) _)
    exact hv2
  · exact (by repeat (first | with_reducible assumption | with_reducible exact Ext.refl _ | with_reducible apply Ext.alloc | with_reducible apply Ext.drew | with_reducible apply Ext.drewN | (with_reducible refine Ext.setCell ?_ (by simp; omega) _) | (with_reducible refine Ext.setCell ?_ (by simp) _)))
end Go.Proofs.Yteeclghkfcanlaa
