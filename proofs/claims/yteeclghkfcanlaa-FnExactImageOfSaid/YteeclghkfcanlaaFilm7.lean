/- This text proves what the laws' comparisons and marks of films and images do. -/
import Derived.Test.YteeclghkfcanlaaFilm6
import Derived.Test.YteeclghkfcanlaaFilm3
import Derived.Test.YteeclghkfcanlaaLawKit
namespace Go.Proofs.Yteeclghkfcanlaa
open Go.RowKit

/-- v reads in w as the image -/
def Im.R (I : Im) (lo hi : Nat) (w : World) (v : Value) : Prop := ∃ u, v = .agg #[.int .i64 I.w, .int .i64 I.h, u] ∧ Ints lo hi w u I.px
theorem Im.Own.R {I : Im} {lo : Nat} {w : World} {v : Value} (h : I.Own lo w v) : I.R lo w.heap.size w v := by
  obtain ⟨u, rfl, h1⟩ := h
  exact ⟨u, rfl, h1.ints⟩
theorem Im.R.same {I : Im} {lo hi : Nat} {w w' : World} {v : Value} (h : I.R lo hi w v) (s : Same lo hi w w') : I.R lo hi w' v := by
  obtain ⟨u, rfl, h1⟩ := h
  exact ⟨u, rfl, h1.same s⟩
theorem Im.R.ext {I : Im} {lo hi : Nat} {w w' : World} {v : Value} (h : I.R lo hi w v) (hh : hi ≤ w.heap.size) (e : Ext w w') : I.R lo hi w' v := h.same (e.same hh)
theorem Im.Own.kept {I : Im} {lo : Nat} {w w' : World} {v : Value} (h : I.Own lo w v) (s : Same lo w.heap.size w w') : I.Own lo w' v := by
  obtain ⟨u, rfl, h1⟩ := h
  exact ⟨u, rfl, h1.kept s⟩
theorem Im.Own.ext {I : Im} {lo : Nat} {w w' : World} {v : Value} (h : I.Own lo w v) (e : Ext w w') : I.Own lo w' v := h.kept (e.same (Nat.le_refl _))
theorem Im.Own.form {I : Im} {lo : Nat} {w : World} {v : Value} (h : I.Own lo w v) : ∃ a c, v = .agg #[.int .i64 I.w, .int .i64 I.h, .slice a I.px.length c] := by
  obtain ⟨u, rfl, h1⟩ := h
  obtain ⟨a, c, rfl, _⟩ := h1.form
  exact ⟨a, c, rfl⟩
theorem Im.Own.under {I : Im} {lo : Nat} {w : World} {v : Value} (h : I.Own lo w v) : ∀ a b u k, v = .agg #[a, b, u] → u.ownBlock = some k → k < w.heap.size := by
  obtain ⟨x, rfl, h3⟩ := h
  intro a b u k e hk
  simp only [Value.agg.injEq] at e
  obtain ⟨_, _, rfl⟩ : Value.int .i64 I.w = a ∧ Value.int .i64 I.h = b ∧ x = u := by simpa using e
  exact (h3.lt k hk).2
def Im.marked (I : Im) : Im := { I with px := upFrom 1 I.px.length }

theorem eqIntS_same (lo hi lo' hi' : Nat) (u v : Value) (xs : List Int) (w : World) (hu : Ints lo hi w u xs) (hv : Ints lo' hi' w v xs) :
    Calls Try.prog 55 #[u, v] w fun e w' => e = .returned (.bool true) ∧ Ext w w' := by
  refine (eqIntS_any lo hi lo' hi' u v xs xs w hu hv).mono ?_
  rintro e w' ⟨rfl, n, rfl⟩
  exact ⟨by rw [decide_eq_true rfl], (Ext.refl w).drewN n⟩

set_option maxHeartbeats 800000 in
theorem eqFilm_same (lo hi lo' hi' : Nat) (v v' : Value) (F : Fm) (w : World) (hv : F.R lo hi w v) (hh : hi ≤ w.heap.size) (hv' : F.R lo' hi' w v' ) (hh' : hi' ≤ w.heap.size) :
    Calls Try.prog 20 #[v, v'] w fun e w' => e = .returned (.bool true) ∧ Ext w w' := by
  obtain ⟨u, d, rfl, i1, i2, hu, hd⟩ := hv
  obtain ⟨u', d', rfl, _, _, hu', hd'⟩ := hv'
  go_enter Try.func20, Try.ntmps20
  go_wp2_with fail
  refine (eqIntS_same lo hi lo' hi' u u' F.px _ (hu.ext hh (by repeat (with_reducible (first | assumption | exact Ext.refl _ | apply Ext.alloc | apply Ext.drew | apply Ext.drewN)))) (hu'.ext hh' (by repeat (with_reducible (first | assumption | exact Ext.refl _ | apply Ext.alloc | apply Ext.drew | apply Ext.drewN))))).mono ?_
  rintro e w1 ⟨rfl, x1⟩
  have E1 : Ext w w1 := Ext.trans (by repeat (with_reducible (first | assumption | exact Ext.refl _ | apply Ext.alloc | apply Ext.drew | apply Ext.drewN))) x1
  have b0 : QBox w1 w.heap.size _ _ _ _ := ((QBox.made w _ _ _ _ _).ext (by repeat (with_reducible (first | assumption | exact Ext.refl _ | apply Ext.alloc | apply Ext.drew | apply Ext.drewN)))).ext x1
  have b1 : QBox w1 (w.heap.size + 1) _ _ _ _ := (QBox.madeAt (w.alloc _) _ _ _ _ _ (by simp)).ext x1
  obtain ⟨l0, _, _, _, p3⟩ := b0
  obtain ⟨l1, _, _, _, q3⟩ := b1
  clear x1
  go_wp2_with fail
  refine (eqBoolS_same lo hi lo' hi' d d' F.n F.dn _ (hd.ext hh E1) (hd'.ext hh' E1)).mono ?_
  rintro e w2 ⟨rfl, x2⟩
  go_wp2
  go_ret
  exact ⟨rfl, E1.trans x2⟩

set_option maxHeartbeats 800000 in
theorem eqImage_same (lo hi lo' hi' : Nat) (v v' : Value) (I : Im) (w : World) (hv : I.R lo hi w v) (hh : hi ≤ w.heap.size) (hv' : I.R lo' hi' w v' ) (hh' : hi' ≤ w.heap.size) :
    Calls Try.prog 19 #[v, v'] w fun e w' => e = .returned (.bool true) ∧ Ext w w' := by
  obtain ⟨u, rfl, hu⟩ := hv
  obtain ⟨u', rfl, hu'⟩ := hv'
  go_enter Try.func19, Try.ntmps19
  go_wp2_with fail
  refine (eqIntS_same lo hi lo' hi' u u' I.px _ (hu.ext hh (by repeat (with_reducible (first | assumption | exact Ext.refl _ | apply Ext.alloc | apply Ext.drew | apply Ext.drewN)))) (hu'.ext hh' (by repeat (with_reducible (first | assumption | exact Ext.refl _ | apply Ext.alloc | apply Ext.drew | apply Ext.drewN))))).mono ?_
  rintro e w1 ⟨rfl, x1⟩
  go_wp2
  go_ret
  exact ⟨rfl, Ext.trans (by repeat (with_reducible (first | assumption | exact Ext.refl _ | apply Ext.alloc | apply Ext.drew | apply Ext.drewN))) x1⟩

set_option maxHeartbeats 800000 in
theorem markFilm_in {F : Fm} {r : Int} (hr : 1 + (F.px.length : Int) + F.n = r) (lo M : Nat) (v : Value) (w : World) (hv : F.Own lo w v) (hM : filmUnder v M) (hlo : lo ≤ w.heap.size) (hsz : F.px.length + F.n ≤ 1048576) :
    Calls Try.prog 21 #[v, .int .i64 1] w fun e w' => e = .returned (.int .i64 r) ∧ Part lo M w w' := by
  obtain ⟨u, d, m, rfl, i1, i2, hu, hum, hlm, hd⟩ := hv
  obtain ⟨M1, M2⟩ := hM _ _ _ _ rfl
  have HL1 := hid hu.lt
  have HL2 := hid hd.lt
  go_enter Try.func21, Try.ntmps21
  go_wp2_with fail
  refine (markIntS_any lo u F.px 1 _ (hu.alloc _) (by decide) (by omega)).mono ?_
  rintro e w1 ⟨rfl, hv1, hg⟩
  have hz := hg.size
  simp only [World.size_alloc] at hz
  have lt : w.heap.size < w1.heap.size := by omega
  have c3 : w1.cell? ⟨w.heap.size, 3, none⟩ = some d := (World.cell?_of_block (hg.block w.heap.size (by simp) (fun k => by have := (HL1.out _ k.symm).2; omega))).trans (by simp [go_sem])
  have hd1 : OwnBools m w1 d F.n F.dn := (hd.ext (by repeat (with_reducible (first | assumption | exact Ext.refl _ | apply Ext.alloc | apply Ext.drew | apply Ext.drewN)))).kept fun b hb hb' => hg.block b hb' (fun k => by have := hum _ k.symm; omega)
  have hg1 : w.grownBy w1 u.ownBlock := grownBy.trans (World.grownBy_alloc _ _ _) hg
  clear hg hv1
  go_wp2_with fail
  refine (markBoolS_any m d F.n F.dn (1 + F.px.length) _ hd1 (by omega) (by omega)).mono ?_
  rintro e w2 ⟨rfl, hg2⟩
  go_wp2
  go_ret
  have z1 := hg1.size
  refine ⟨rfl, Nat.le_trans z1 hg2.size, ⟨hg2.os.trans hg1.os, hg2.tape.trans hg1.tape, hg2.output.trans hg1.output, Nat.le_trans z1 hg2.size, fun k hk => ?_⟩, fun b hb hlt' => ?_⟩
  · exact (hg2.block k (by omega) (fun e => by have := (HL2.out k e.symm).1; omega)).trans (hg1.block k (by omega) (fun e => by have := (HL1.out k e.symm).1; omega))
  · exact (hg2.block b (by omega) (fun e => by have := M2 _ e.symm; omega)).trans (hg1.block b (by omega) (fun e => by have := M1 _ e.symm; omega))

set_option maxHeartbeats 800000 in
theorem markImage_in {I : Im} {r : Int} (hr : 1 + (I.px.length : Int) = r) (lo M : Nat) (v : Value) (w : World) (hv : I.Own lo w v) (hM : ∀ a b u k, v = .agg #[a, b, u] → u.ownBlock = some k → k < M) (hlo : lo ≤ w.heap.size) (hsz : I.px.length ≤ 1048576) :
    Calls Try.prog 22 #[v, .int .i64 1] w fun e w' => e = .returned (.int .i64 r) ∧ I.marked.Own lo w' v ∧ Part lo M w w' := by
  obtain ⟨u, rfl, hu⟩ := hv
  have HM := hid (hM _ _ _ · rfl)
  have HL := hid hu.lt
  clear hM
  go_enter Try.func22, Try.ntmps22
  go_wp2_with fail
  refine (markIntS_any lo u I.px 1 _ (hu.alloc _) (by decide) (by omega)).mono ?_
  rintro e w1 ⟨rfl, hv1, hg0⟩
  have hg := grownBy.trans (World.grownBy_alloc _ _ _) hg0
  clear hg0
  go_wp2
  go_ret
  refine ⟨rfl, ⟨u, rfl, hv1⟩, hg.size, ⟨hg.os, hg.tape, hg.output, hg.size, fun k hk => ?_⟩, fun b hb hlt' => hg.block b hlt' (fun hk => by have := HM.out _ hk.symm; omega)⟩
  exact hg.block k (by omega) (fun e => by have := (HL.out k e.symm).1; omega)

set_option maxHeartbeats 800000 in
theorem heldImage_marked {I : Im} {r : Int} (hr : 1 + (I.px.length : Int) = r) (lo hi : Nat) (v : Value) (w : World) (hv : I.marked.R lo hi w v) (hh : hi ≤ w.heap.size) (hsz : I.px.length ≤ 1048576) :
    Calls Try.prog 23 #[v, .int .i64 1] w fun e w' => e = .returned (.int .i64 r) ∧ Ext w w' := by
  obtain ⟨u, rfl, hu⟩ := hv
  have hl : (upFrom 1 I.px.length).length = I.px.length := upFrom_length _ _
  have e : heldRes (upFrom 1 I.px.length) 1 = r := by
    unfold heldRes
    rw [hl, if_pos rfl]
    exact hr
  have HH := fun w hu => e ▸ heldIntS_any lo hi u (upFrom 1 I.px.length) 1 w hu (by decide) (by rw [hl]; omega)
  have HH := hid HH
  have r0 : 0 ≤ r := by omega
  have r1 : r ≤ 2000000 := by omega
  clear e hl hr
  go_enter Try.func23, Try.ntmps23
  go_wp2_with fail
  refine (HH.out _ (hu.ext hh (by repeat (with_reducible (first | assumption | exact Ext.refl _ | apply Ext.alloc | apply Ext.drew | apply Ext.drewN))))).mono ?_
  rintro e w1 ⟨rfl, rfl⟩
  go_wp2
  go_ret
  exact ⟨rfl, (by repeat (with_reducible (first | assumption | exact Ext.refl _ | apply Ext.alloc | apply Ext.drew | apply Ext.drewN)))⟩
end Go.Proofs.Yteeclghkfcanlaa
