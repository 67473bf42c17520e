/- This text proves what Apply and ApplyAll of both sides hand back. -/
import Derived.Test.YtkcghoeklbcihaaGreatDoorL04d
import Derived.Test.YtkcghoeklbcihaaGreatDoorFlat
namespace Go.Proofs.YtkcghoeklbcihaaGreatDoor
open Go.RowKit

/-- three numbers -/
structure V3 where
  (x y z : Int)
def V3.V (t : V3) : Value := .agg #[.int .i64 t.x, .int .i64 t.y, .int .i64 t.z]
def Xf.app (t : Xf) (p : V3) : V3 := if t.ok then ⟨appC t.m0 t.m1 t.m2 t.x p.x p.y p.z, appC t.m3 t.m4 t.m5 t.y p.x p.y p.z, appC t.m6 t.m7 t.m8 t.z p.x p.y p.z⟩ else p

theorem iApply_val {t : Xf} {p q : V3} (h : t.app p = q) (ht : t.I) (w : World) : Calls Tryz.prog 12 #[t.V, p.V] w fun e w' => e = .returned q.V ∧ Ext w w' := by
  subst h
  obtain ⟨m0, m1, m2, m3, m4, m5, m6, m7, m8, o1, o2, o3⟩ := t
  obtain ⟨x, y, z⟩ := p
  cases hok : (⟨m0, m1, m2, m3, m4, m5, m6, m7, m8, o1, o2, o3⟩ : Xf).ok
  · rw [Xf.app, hok]
    exact iApply_no _ _ _ _ _ _ _ _ _ _ _ _ _ _ _ ht hok w
  · rw [Xf.app, hok]
    exact iApply_ok _ _ _ _ _ _ _ _ _ _ _ _ _ _ _ ht hok w
/-- transform i of a slice -/
def xfAt (f : Nat → Int) (i : Nat) : Xf := ⟨f (i * 12), f (i * 12 + 1), f (i * 12 + 2), f (i * 12 + 3), f (i * 12 + 4), f (i * 12 + 5), f (i * 12 + 6), f (i * 12 + 7), f (i * 12 + 8), f (i * 12 + 9), f (i * 12 + 10), f (i * 12 + 11)⟩
/-- the first n transforms of a slice, one after another -/
def appAll (f : Nat → Int) : Nat → V3 → V3
  | 0, p => p
  | n + 1, p => (xfAt f n).app (appAll f n p)
theorem xfAt_I {lo hi : Nat} {w : World} {a : Option Addr} {cap n : Nat} {f : Nat → Int} (h : FlatsAt 12 lo hi w a cap n f) {i : Nat} (hi' : i < n) : (xfAt f i).I := by
  refine ⟨fun m hm => ?_, h.i64 hi' (by decide), h.i64 hi' (by decide), h.i64 hi' (by decide)⟩
  simp only [Xf.ms, xfAt, List.mem_cons, List.not_mem_nil, or_false] at hm
  rcases hm with h1 | h1 | h1 | h1 | h1 | h1 | h1 | h1 | h1 <;> subst h1
  · exact h.i64 (j := 0) hi' (by decide)
  all_goals exact h.i64 hi' (by decide)

/-- a box with three numbers -/
structure ABox (w : World) (b : Nat) (x y z : Int) : Prop where
  lt : b < w.heap.size
  c0 : w.cell? ⟨b, 0, none⟩ = some (.int .i64 x)
  c1 : w.cell? ⟨b, 1, none⟩ = some (.int .i64 y)
  c2 : w.cell? ⟨b, 2, none⟩ = some (.int .i64 z)
  f0 : w.frozen? ⟨b, 0, none⟩ = false
  f1 : w.frozen? ⟨b, 1, none⟩ = false
  f2 : w.frozen? ⟨b, 2, none⟩ = false
theorem ABox.ext {w w' : World} {b : Nat} {x y z : Int} (h : ABox w b x y z) (e : Ext w w') : ABox w' b x y z :=
  ⟨Nat.lt_of_lt_of_le h.lt e.size, (e.cells.1 b _ h.lt).trans h.c0, (e.cells.1 b _ h.lt).trans h.c1, (e.cells.1 b _ h.lt).trans h.c2, (e.cells.2 b _ h.lt).trans h.f0, (e.cells.2 b _ h.lt).trans h.f1, (e.cells.2 b _ h.lt).trans h.f2⟩

set_option maxRecDepth 20000 in
set_option maxHeartbeats 1600000 in
theorem iApplyAll_val (lo hi : Nat) (u : Value) (n : Nat) (f : Nat → Int) (p q : V3) (hq : appAll f n p = q) (w : World) (hu : Flats 12 lo hi w u n f) (hh : hi ≤ w.heap.size) :
    Calls Tryz.prog 11 #[u, p.V] w fun e w' => e = .returned q.V ∧ Ext w w' := by
  obtain ⟨a, cap, rfl, HU⟩ := hu.open
  clear hu
  have hle := HU.le
  have hcap := HU.cap
  have HQ := hid hq
  clear hq
  obtain ⟨x, y, z⟩ := p
  unfold V3.V
  go_enter Tryz.func11, Tryz.ntmps11
  go_wp2
  go_loopw [9] (fun i wr => ∃ (k : Nat) (p1 p2 p3 : Int), k ≤ n ∧ i = .int .i64 k ∧ Ext w wr ∧ ABox wr w.heap.size p1 p2 p3 ∧ ABox wr (w.heap.size + 1) 0 0 0 ∧ appAll f k ⟨x, y, z⟩ = ⟨p1, p2, p3⟩) (fun i _ => n - (intOf i).toNat)
  case atStart =>
    refine ⟨0, x, y, z, by omega, rfl, (by repeat (with_reducible (first | assumption | exact Ext.refl _ | apply Ext.alloc | apply Ext.drew | apply Ext.drewN))), ?_, ?_, rfl⟩
    all_goals constructor
    all_goals first | omega | (simp; done) | (simp [go_sem]; done)
  case round =>
    obtain ⟨k, p1, p2, p3, hk, rfl, hx, hb, hr, he⟩ := hrel
    by_cases hlt : k < n
    · obtain ⟨b, off, rfl, hb1, hb2, hc⟩ := HU.at hlt (by decide)
      have c0 := (hx.cells.1 b _ (by omega)).trans (hc 0 (by decide))
      have c1 := (hx.cells.1 b _ (by omega)).trans (hc 1 (by decide))
      have c2 := (hx.cells.1 b _ (by omega)).trans (hc 2 (by decide))
      have c3 := (hx.cells.1 b _ (by omega)).trans (hc 3 (by decide))
      have c4 := (hx.cells.1 b _ (by omega)).trans (hc 4 (by decide))
      have c5 := (hx.cells.1 b _ (by omega)).trans (hc 5 (by decide))
      have c6 := (hx.cells.1 b _ (by omega)).trans (hc 6 (by decide))
      have c7 := (hx.cells.1 b _ (by omega)).trans (hc 7 (by decide))
      have c8 := (hx.cells.1 b _ (by omega)).trans (hc 8 (by decide))
      have c9 := (hx.cells.1 b _ (by omega)).trans (hc 9 (by decide))
      have c10 := (hx.cells.1 b _ (by omega)).trans (hc 10 (by decide))
      have c11 := (hx.cells.1 b _ (by omega)).trans (hc 11 (by decide))
      simp only [Nat.add_zero] at c0
      obtain ⟨q, hqq⟩ : ∃ q, (xfAt f k).app ⟨p1, p2, p3⟩ = q := ⟨_, rfl⟩
      obtain ⟨q1, q2, q3⟩ := q
      have HA := hid (fun w => iApply_val hqq (xfAt_I HU hlt) w)
      simp only [xfAt, Xf.V, V3.V] at HA
      have hs : b < wr.heap.size := by have := hx.size; omega
      have he' : appAll f (k + 1) ⟨x, y, z⟩ = ⟨q1, q2, q3⟩ := by rw [appAll, he, hqq]
      have HE := hid he'
      have HX := hid hx
      have HB := hid hb
      have HR := hid hr
      have v0 := hb.lt
      have v1 := hb.c0
      have v2 := hb.c1
      have v3 := hb.c2
      clear hc hqq he he' hx hb hr
      go_wp2_with fail
      refine (HA.out _).mono ?_
      rintro e w2 ⟨rfl, h2⟩
      have h3 : Ext wr w2 := Ext.trans (by repeat (first | with_reducible assumption | with_reducible exact Ext.refl _ | with_reducible apply Ext.alloc | with_reducible apply Ext.drew | with_reducible apply Ext.drewN | (with_reducible refine Ext.setCell ?_ (by simp; omega) _) | (with_reducible refine Ext.setCell ?_ (by simp) _))) h2
      have hb := HB.out.ext h3
      have hr := HR.out.ext h3
      have hx := HX.out.trans h3
      have HR2 := hid hr
      have HX2 := hid hx
      clear h2 h3 HB HR HX hr hx v1 v2 v3 c0 c1 c2 c3 c4 c5 c6 c7 c8 c9 c10 c11
      obtain ⟨v4, v5, v6, v7, v8, v9, v10⟩ := hb
      go_wp2
      go_roundw
      case rel =>
        have hx := HX2.out
        have hr := HR2.out
        obtain ⟨r4, r5, r6, r7, r8, r9, r10⟩ := hr
        refine ⟨k + 1, q1, q2, q3, by omega, by go_num, (by repeat (first | with_reducible assumption | with_reducible exact Ext.refl _ | with_reducible apply Ext.alloc | with_reducible apply Ext.drew | with_reducible apply Ext.drewN | (with_reducible refine Ext.setCell ?_ (by simp; omega) _) | (with_reducible refine Ext.setCell ?_ (by simp) _))), ?_, ?_, HE.out⟩
        all_goals constructor
        all_goals simp [go_sem, *]
      case measure => simp [intOf]; omega
    · obtain rfl : k = n := by omega
      have HE := hid he
      obtain ⟨v4, v5, v6, v7, v8, v9, v10⟩ := hb
      obtain ⟨r4, r5, r6, r7, r8, r9, r10⟩ := hr
      have hq := HQ.out
      rw [he] at hq
      clear he
      subst hq
      go_wp2
      exact bodyPost_ret (v := .agg #[.int .i64 p1, .int .i64 p2, .int .i64 p3]) (by simp [results, Tryz.results11, go_sem, *]) rfl ⟨rfl, (by repeat (first | with_reducible assumption | with_reducible exact Ext.refl _ | with_reducible apply Ext.alloc | with_reducible apply Ext.drew | with_reducible apply Ext.drewN | (with_reducible refine Ext.setCell ?_ (by simp; omega) _) | (with_reducible refine Ext.setCell ?_ (by simp) _)))⟩

end Go.Proofs.YtkcghoeklbcihaaGreatDoor
