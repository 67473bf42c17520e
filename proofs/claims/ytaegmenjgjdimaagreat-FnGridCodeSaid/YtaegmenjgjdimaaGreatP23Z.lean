/- Texts of this claim, one behind another: L02c, L02d, L02e, Gd1, Gd2, Gd3, Gd4, Gd5, Gd6, LawGrd, LiftTex, LiftBy0, P23. -/
import Derived.Test.YtaegmenjgjdimaaGreatP23Y4
import Derived.Deep.Cut
import Derived.Deep.CutRange
import Derived.Laws.StructEq
import Derived.Test.YtaegmenjgjdimaaGreatFlat
import Derived.Test.YtaegmenjgjdimaaGreatP23Y2
import Derived.Test.YtaegmenjgjdimaaGreatGr1
import Derived.Test.YtaegmenjgjdimaaGreatP23Y3
import Derived.Test.YtaegmenjgjdimaaGreatL15g
import Derived.Test.YtaegmenjgjdimaaGreatL15e
import Derived.Test.YtaegmenjgjdimaaGreatEx2
import Derived.OpenShut
import Derived.ShutString
import Derived.ChangeOld
import Derived.Below
import Derived.Carry
import Derived.Lib.SmallJoins
import Derived.Test.YtaegmenjgjdimaaGreatRows
import Derived.ProofKit
set_option linter.unusedSimpArgs false
set_option linter.unusedVariables false
section
/- This text proves what the sum of two vectors is: the program's and the reference's; and when a vector is valid. -/
namespace Go.Proofs.YtaegmenjgjdimaaGreat
open Go.RowKit

def addC (x k : Int) : Int := cl (cl x + cl k)
theorem cl_bd (n : Int) : -1000000 ≤ cl n ∧ cl n ≤ 1000000 := by
  unfold cl clampI
  split
  · omega
  · split <;> omega

end Go.Proofs.YtaegmenjgjdimaaGreat
end

section
/- This text proves what the program's product of two vectors is. -/
namespace Go.Proofs.YtaegmenjgjdimaaGreat
open Go.RowKit

def dotC (x y z k l m : Int) : Int := cl x * cl k + cl y * cl l + cl z * cl m
theorem mul_range {a b : Int} (h1 : -1000000 ≤ a) (h2 : a ≤ 1000000) (h3 : -1000000 ≤ b) (h4 : b ≤ 1000000) : -1000000000000 ≤ a * b ∧ a * b ≤ 1000000000000 := by
  have k1 := Int.mul_nonneg (show 0 ≤ 1000000 - a by omega) (show 0 ≤ 1000000 - b by omega)
  have k2 := Int.mul_nonneg (show 0 ≤ 1000000 + a by omega) (show 0 ≤ 1000000 + b by omega)
  have k3 := Int.mul_nonneg (show 0 ≤ 1000000 - a by omega) (show 0 ≤ 1000000 + b by omega)
  have k4 := Int.mul_nonneg (show 0 ≤ 1000000 + a by omega) (show 0 ≤ 1000000 - b by omega)
  simp only [Int.sub_mul, Int.mul_sub, Int.add_mul, Int.mul_add] at k1 k2 k3 k4
  omega

end Go.Proofs.YtaegmenjgjdimaaGreat
end

section
/- This text proves when a vector is valid: the program's word and the reference's. -/
namespace Go.Proofs.YtaegmenjgjdimaaGreat
open Go.RowKit

def okVec (x y z : Int) : Bool := inB x (-1000000) 1000000 && inB y (-1000000) 1000000 && inB z (-1000000) 1000000
theorem cl_fix (n : Int) : (n = cl n) ↔ inB n (-1000000) 1000000 = true := by
  rw [inB_iff]
  unfold cl clampI
  split
  · omega
  · split <;> omega

theorem run_eqVec (x y z a b c : Int) (w : World) : (binOp .eql 106 (.agg #[.int .i64 x, .int .i64 y, .int .i64 z]) (.agg #[.int .i64 a, .int .i64 b, .int .i64 c])).run Tryz.prog w = .ok (.bool (decide (x = a) && (decide (y = b) && decide (z = c)))) w := by
  by_cases h1 : x = a
  · by_cases h2 : y = b
    · by_cases h3 : z = c <;> simp [go_sem, Tryz.underlying106, Tryz.stoodInHeld106, Tryz.underlying3, h1, h2, h3]
    · simp [go_sem, Tryz.underlying106, Tryz.stoodInHeld106, Tryz.underlying3, h1, h2]
  · simp [go_sem, Tryz.underlying106, Tryz.stoodInHeld106, Tryz.underlying3, h1]
theorem okVec_eq (x y z : Int) : (decide (x = cl x) && (decide (y = cl y) && decide (z = cl z))) = okVec x y z := by
  simp only [cl_fix, okVec, Bool.decide_eq_true, Bool.and_assoc]

set_option maxHeartbeats 800000 in
theorem sIsValidVec_val {x y z : Int} (w : World) :
    Calls Tryz.prog 112 #[.agg #[.int .i64 x, .int .i64 y, .int .i64 z]] w fun e w' => e = .returned (.bool (okVec x y z)) ∧ Ext w w' := by
  obtain ⟨a, ha⟩ : ∃ a, cl x = a := ⟨_, rfl⟩
  obtain ⟨b, hb⟩ : ∃ a, cl y = a := ⟨_, rfl⟩
  obtain ⟨c, hc⟩ : ∃ a, cl z = a := ⟨_, rfl⟩
  have HA := hid ha
  have HB := hid hb
  have HC := hid hc
  have HO := hid (show (decide (x = a) && (decide (y = b) && decide (z = c))) = okVec x y z by rw [← ha, ← hb, ← hc]; exact okVec_eq x y z)
  clear ha hb hc
  have hq := fun w => run_eqVec x y z a b c w
  go_enter Tryz.func112, Tryz.ntmps112
  go_wp2
  refine wp_region_ext (by kernel_rfl) (by kernel_rfl) ?_
  repeat (go_big_quiet_step ((go_at_call 113; exact grow_call (l02V_val HA.out HB.out HC.out _))))
  refine wpQuiet_nil ?_
  intro w1 h1
  go_wp2
  go_ret
  exact ⟨ret_bool HO.out, Ext.trans (by repeat (with_reducible (first | assumption | exact Ext.refl _ | apply Ext.alloc | apply Ext.drew | apply Ext.drewN))) h1⟩
end Go.Proofs.YtaegmenjgjdimaaGreat
end

section
/- This text proves the draw of patches: their corners' numbers are small; and the points of such patches. -/
namespace Go.Proofs.YtaegmenjgjdimaaGreat
open Go.RowKit

/-- small numbers -/
def SmF (f : Nat → Int) : Prop := ∀ i, -1000 ≤ f i ∧ f i ≤ 1000
theorem SmF.put {f : Nat → Int} (h : SmF f) (i : Nat) {x : Int} (hx : -1000 ≤ x ∧ x ≤ 1000) : SmF (fun j => if j = i then x else f j) := fun j => by
  show -1000 ≤ (if j = i then x else f j) ∧ (if j = i then x else f j) ≤ 1000
  split
  · exact hx
  · exact h j
theorem RowI.put1 {w : World} {b : Nat} {t : TypeId} {n : Nat} {f : Nat → Int} (h : RowI w b t n f) (i : Nat) (x : Int) : RowI (w.setCell ⟨b, i, none⟩ (.int .i64 x)) b t n (fun j => if j = i then x else f j) := by
  have := World.rowIs.set h i (.int .i64 x)
  refine World.rowIs.congr this fun j hj => ?_
  show _ = Value.int .i64 (if j = i then x else f j)
  split <;> rfl
theorem twelve1 {i : Nat} (h : i < 12) : i = 0 ∨ i = 1 ∨ i = 2 ∨ i = 3 ∨ i = 4 ∨ i = 5 ∨ i = 6 ∨ i = 7 ∨ i = 8 ∨ i = 9 ∨ i = 10 ∨ i = 11 := by omega
theorem row12_zero {w : World} {b : Nat} {t : TypeId} (hb : w.heap.size = b) : RowI (w.alloc (.cells #[.int .i64 0, .int .i64 0, .int .i64 0, .int .i64 0, .int .i64 0, .int .i64 0, .int .i64 0, .int .i64 0, .int .i64 0, .int .i64 0, .int .i64 0, .int .i64 0] t)) b t 12 (fun _ => 0) :=
  hb ▸ World.rowIs_alloc _ _ _ _ fun i hi => by rcases twelve1 hi with h | h | h | h | h | h | h | h | h | h | h | h <;> subst h <;> rfl
set_option maxRecDepth 20000 in
set_option maxHeartbeats 6400000 in
theorem l05Draw_any (hi B : Nat) (w : World) (hc : Cur hi w B) : Calls Tryz.prog 49 #[.pointer (some ⟨B, 0, none⟩)] w fun e w' => ∃ f : Nat → Int, e = .returned (.agg #[.int .i64 (f 0), .int .i64 (f 1), .int .i64 (f 2), .int .i64 (f 3), .int .i64 (f 4), .int .i64 (f 5), .int .i64 (f 6), .int .i64 (f 7), .int .i64 (f 8), .int .i64 (f 9), .int .i64 (f 10), .int .i64 (f 11)]) ∧ SmF f ∧ Cur hi w' B ∧ Gr B w w' := by
  have HC0 := hid hc
  have zB := hc.lt
  have A0 := row12_zero (w := w) (t := 109) rfl
  have A1 := row12_zero (w := w.alloc (.cells #[.int .i64 0, .int .i64 0, .int .i64 0, .int .i64 0, .int .i64 0, .int .i64 0, .int .i64 0, .int .i64 0, .int .i64 0, .int .i64 0, .int .i64 0, .int .i64 0] 109)) (t := 109) (b := w.heap.size + 1) (World.size_alloc _ _)
  have HA0 := hid (A0.alloc (.cells #[.int .i64 0, .int .i64 0, .int .i64 0, .int .i64 0, .int .i64 0, .int .i64 0, .int .i64 0, .int .i64 0, .int .i64 0, .int .i64 0, .int .i64 0, .int .i64 0] 109))
  have HA1 := hid A1
  have x1 : Ext w ((w.alloc (.cells #[.int .i64 0, .int .i64 0, .int .i64 0, .int .i64 0, .int .i64 0, .int .i64 0, .int .i64 0, .int .i64 0, .int .i64 0, .int .i64 0, .int .i64 0, .int .i64 0] 109)).alloc (.cells #[.int .i64 0, .int .i64 0, .int .i64 0, .int .i64 0, .int .i64 0, .int .i64 0, .int .i64 0, .int .i64 0, .int .i64 0, .int .i64 0, .int .i64 0, .int .i64 0] 109)) := (by repeat (with_reducible (first | assumption | exact Ext.refl _ | apply Ext.alloc | apply Ext.drew | apply Ext.drewN)))
  have HX1 := hid x1
  have HC1 := hid (hc.ext x1)
  clear hc A0 A1 x1
  go_enter Tryz.func49, Tryz.ntmps49
  go_wp2_with fail
  refine (l01Below_any hi B 160 _ HC1.out (by decide) ⟨by decide, by decide⟩).mono ?_
  rintro e w3 ⟨x, rfl, hx, C3, G3⟩
  go_wp2_with fail
  refine (l01Below_any hi B 160 _ C3 (by decide) ⟨by decide, by decide⟩).mono ?_
  rintro e w4 ⟨y, rfl, hy, C4, G4⟩
  go_wp2_with fail
  refine (l01Below_any hi B 200 _ C4 (by decide) ⟨by decide, by decide⟩).mono ?_
  rintro e w5 ⟨z, rfl, hz, C5, G5⟩
  have G6 := (G3.trans G4).trans G5
  have HG6 := hid ((Gr.refl B w).ext HX1.out |>.trans G6)
  have HR6 := hid (HA1.out.of (G6.block _ HA1.out.lt (by simp; omega)))
  have HQ6 := hid (HA0.out.of (G6.block _ HA0.out.lt (by simp; omega)))
  have HC6 := hid C5
  clear C3 G3 C4 G4 C5 G5 G6 HC1 HX1 HA0 HA1 HC0
  go_wp2_with fail
  go_loopw [18] (fun i wr => ∃ k : Nat, k ≤ 4 ∧ i = .int .i64 (k : Nat) ∧ ∃ f, RowI wr w.heap.size 109 12 (fun _ => 0) ∧ RowI wr (w.heap.size + 1) 109 12 f ∧ SmF f ∧ Cur hi wr B ∧ Gr B w wr) (fun i _ => 4 - (intOf i).toNat)
  case atStart => exact ⟨0, by omega, rfl, fun _ => 0, HQ6.out, HR6.out, (fun i => ⟨by show (-1000 : Int) ≤ 0; decide, by show (0 : Int) ≤ 1000; decide⟩), HC6.out, HG6.out⟩
  case round =>
    obtain ⟨k, hk, rfl, f, hq, hr, hf, C, G⟩ := hrel
    have HQ := hid hq
    have HR := hid hr
    have HC := hid C
    have HG := hid G
    clear hq hr C G HR6 HC6 HG6 HQ6
    by_cases hlt : k < 4
    · have hk4 : k = 0 ∨ k = 1 ∨ k = 2 ∨ k = 3 := by omega
      rcases hk4 with h | h | h | h <;> subst h
      · go_wp2_with fail
        refine (l01Below_any hi B 60 _ HC.out (by decide) ⟨by decide, by decide⟩).mono ?_
        rintro e w3 ⟨a3, rfl, ha3, C3, G3⟩
        go_wp2_with fail
        refine (l01Below_any hi B 60 _ C3 (by decide) ⟨by decide, by decide⟩).mono ?_
        rintro e w4 ⟨a4, rfl, ha4, C4, G4⟩
        go_wp2_with fail
        refine (l01Below_any hi B 30 _ C4 (by decide) ⟨by decide, by decide⟩).mono ?_
        rintro e w5 ⟨a5, rfl, ha5, C5, G5⟩
        have G6 := (G3.trans G4).trans G5
        have HC6 := hid C5
        have HG6 := hid (HG.out.trans G6)
        have HR6 := hid (HR.out.of (G6.block _ HR.out.lt (by simp; omega)))
        have HQ6 := hid (HQ.out.of (G6.block _ HQ.out.lt (by simp; omega)))
        have e0 := HR6.out.frozen 0
        have e1 := HR6.out.frozen 1
        have e2 := HR6.out.frozen 2
        have d0 := HR6.out.cell (i := 0) (by decide)
        have d1 := HR6.out.cell (i := 1) (by decide)
        have d2 := HR6.out.cell (i := 2) (by decide)
        have s6 := HR6.out.lt
        clear C3 G3 C4 G4 C5 G5 G6 HC HG HR HQ
        go_wp2
        go_roundw
        case rel => exact ⟨1, by omega, by go_num, _, ((HQ6.out.other (by simp) _).other (by simp) _).other (by simp) _, ((HR6.out.put1 0 _).put1 1 _).put1 2 _, ((hf.put 0 (by omega)).put 1 (by omega)).put 2 (by omega), ((HC6.out.setNew (by omega) _ _).setNew (by omega) _ _).setNew (by omega) _ _, ((HG6.out.setNew (by omega) _ _).setNew (by omega) _ _).setNew (by omega) _ _⟩
        case measure => simp [intOf]
      · go_wp2_with fail
        refine (l01Below_any hi B 60 _ HC.out (by decide) ⟨by decide, by decide⟩).mono ?_
        rintro e w3 ⟨a3, rfl, ha3, C3, G3⟩
        go_wp2_with fail
        refine (l01Below_any hi B 60 _ C3 (by decide) ⟨by decide, by decide⟩).mono ?_
        rintro e w4 ⟨a4, rfl, ha4, C4, G4⟩
        go_wp2_with fail
        refine (l01Below_any hi B 30 _ C4 (by decide) ⟨by decide, by decide⟩).mono ?_
        rintro e w5 ⟨a5, rfl, ha5, C5, G5⟩
        have G6 := (G3.trans G4).trans G5
        have HC6 := hid C5
        have HG6 := hid (HG.out.trans G6)
        have HR6 := hid (HR.out.of (G6.block _ HR.out.lt (by simp; omega)))
        have HQ6 := hid (HQ.out.of (G6.block _ HQ.out.lt (by simp; omega)))
        have e0 := HR6.out.frozen 3
        have e1 := HR6.out.frozen 4
        have e2 := HR6.out.frozen 5
        have d0 := HR6.out.cell (i := 3) (by decide)
        have d1 := HR6.out.cell (i := 4) (by decide)
        have d2 := HR6.out.cell (i := 5) (by decide)
        have s6 := HR6.out.lt
        clear C3 G3 C4 G4 C5 G5 G6 HC HG HR HQ
        go_wp2
        go_roundw
        case rel => exact ⟨2, by omega, by go_num, _, ((HQ6.out.other (by simp) _).other (by simp) _).other (by simp) _, ((HR6.out.put1 3 _).put1 4 _).put1 5 _, ((hf.put 3 (by omega)).put 4 (by omega)).put 5 (by omega), ((HC6.out.setNew (by omega) _ _).setNew (by omega) _ _).setNew (by omega) _ _, ((HG6.out.setNew (by omega) _ _).setNew (by omega) _ _).setNew (by omega) _ _⟩
        case measure => simp [intOf]
      · go_wp2_with fail
        refine (l01Below_any hi B 60 _ HC.out (by decide) ⟨by decide, by decide⟩).mono ?_
        rintro e w3 ⟨a3, rfl, ha3, C3, G3⟩
        go_wp2_with fail
        refine (l01Below_any hi B 60 _ C3 (by decide) ⟨by decide, by decide⟩).mono ?_
        rintro e w4 ⟨a4, rfl, ha4, C4, G4⟩
        go_wp2_with fail
        refine (l01Below_any hi B 30 _ C4 (by decide) ⟨by decide, by decide⟩).mono ?_
        rintro e w5 ⟨a5, rfl, ha5, C5, G5⟩
        have G6 := (G3.trans G4).trans G5
        have HC6 := hid C5
        have HG6 := hid (HG.out.trans G6)
        have HR6 := hid (HR.out.of (G6.block _ HR.out.lt (by simp; omega)))
        have HQ6 := hid (HQ.out.of (G6.block _ HQ.out.lt (by simp; omega)))
        have e0 := HR6.out.frozen 6
        have e1 := HR6.out.frozen 7
        have e2 := HR6.out.frozen 8
        have d0 := HR6.out.cell (i := 6) (by decide)
        have d1 := HR6.out.cell (i := 7) (by decide)
        have d2 := HR6.out.cell (i := 8) (by decide)
        have s6 := HR6.out.lt
        clear C3 G3 C4 G4 C5 G5 G6 HC HG HR HQ
        go_wp2
        go_roundw
        case rel => exact ⟨3, by omega, by go_num, _, ((HQ6.out.other (by simp) _).other (by simp) _).other (by simp) _, ((HR6.out.put1 6 _).put1 7 _).put1 8 _, ((hf.put 6 (by omega)).put 7 (by omega)).put 8 (by omega), ((HC6.out.setNew (by omega) _ _).setNew (by omega) _ _).setNew (by omega) _ _, ((HG6.out.setNew (by omega) _ _).setNew (by omega) _ _).setNew (by omega) _ _⟩
        case measure => simp [intOf]
      · go_wp2_with fail
        refine (l01Below_any hi B 60 _ HC.out (by decide) ⟨by decide, by decide⟩).mono ?_
        rintro e w3 ⟨a3, rfl, ha3, C3, G3⟩
        go_wp2_with fail
        refine (l01Below_any hi B 60 _ C3 (by decide) ⟨by decide, by decide⟩).mono ?_
        rintro e w4 ⟨a4, rfl, ha4, C4, G4⟩
        go_wp2_with fail
        refine (l01Below_any hi B 30 _ C4 (by decide) ⟨by decide, by decide⟩).mono ?_
        rintro e w5 ⟨a5, rfl, ha5, C5, G5⟩
        have G6 := (G3.trans G4).trans G5
        have HC6 := hid C5
        have HG6 := hid (HG.out.trans G6)
        have HR6 := hid (HR.out.of (G6.block _ HR.out.lt (by simp; omega)))
        have HQ6 := hid (HQ.out.of (G6.block _ HQ.out.lt (by simp; omega)))
        have e0 := HR6.out.frozen 9
        have e1 := HR6.out.frozen 10
        have e2 := HR6.out.frozen 11
        have d0 := HR6.out.cell (i := 9) (by decide)
        have d1 := HR6.out.cell (i := 10) (by decide)
        have d2 := HR6.out.cell (i := 11) (by decide)
        have s6 := HR6.out.lt
        clear C3 G3 C4 G4 C5 G5 G6 HC HG HR HQ
        go_wp2
        go_roundw
        case rel => exact ⟨4, by omega, by go_num, _, ((HQ6.out.other (by simp) _).other (by simp) _).other (by simp) _, ((HR6.out.put1 9 _).put1 10 _).put1 11 _, ((hf.put 9 (by omega)).put 10 (by omega)).put 11 (by omega), ((HC6.out.setNew (by omega) _ _).setNew (by omega) _ _).setNew (by omega) _ _, ((HG6.out.setNew (by omega) _ _).setNew (by omega) _ _).setNew (by omega) _ _⟩
        case measure => simp [intOf]
    · obtain rfl : k = 4 := by omega
      have d0 := HR.out.cell (i := 0) (by decide)
      have e0 := HQ.out.frozen 0
      have q0 := HQ.out.cell (i := 0) (by decide)
      have d1 := HR.out.cell (i := 1) (by decide)
      have e1 := HQ.out.frozen 1
      have q1 := HQ.out.cell (i := 1) (by decide)
      have d2 := HR.out.cell (i := 2) (by decide)
      have e2 := HQ.out.frozen 2
      have q2 := HQ.out.cell (i := 2) (by decide)
      have d3 := HR.out.cell (i := 3) (by decide)
      have e3 := HQ.out.frozen 3
      have q3 := HQ.out.cell (i := 3) (by decide)
      have d4 := HR.out.cell (i := 4) (by decide)
      have e4 := HQ.out.frozen 4
      have q4 := HQ.out.cell (i := 4) (by decide)
      have d5 := HR.out.cell (i := 5) (by decide)
      have e5 := HQ.out.frozen 5
      have q5 := HQ.out.cell (i := 5) (by decide)
      have d6 := HR.out.cell (i := 6) (by decide)
      have e6 := HQ.out.frozen 6
      have q6 := HQ.out.cell (i := 6) (by decide)
      have d7 := HR.out.cell (i := 7) (by decide)
      have e7 := HQ.out.frozen 7
      have q7 := HQ.out.cell (i := 7) (by decide)
      have d8 := HR.out.cell (i := 8) (by decide)
      have e8 := HQ.out.frozen 8
      have q8 := HQ.out.cell (i := 8) (by decide)
      have d9 := HR.out.cell (i := 9) (by decide)
      have e9 := HQ.out.frozen 9
      have q9 := HQ.out.cell (i := 9) (by decide)
      have d10 := HR.out.cell (i := 10) (by decide)
      have e10 := HQ.out.frozen 10
      have q10 := HQ.out.cell (i := 10) (by decide)
      have d11 := HR.out.cell (i := 11) (by decide)
      have e11 := HQ.out.frozen 11
      have q11 := HQ.out.cell (i := 11) (by decide)
      have zq := HQ.out.lt
      have zr := HR.out.lt
      go_wp2
      refine bodyPost_ret (v := .agg #[.int .i64 (f 0), .int .i64 (f 1), .int .i64 (f 2), .int .i64 (f 3), .int .i64 (f 4), .int .i64 (f 5), .int .i64 (f 6), .int .i64 (f 7), .int .i64 (f 8), .int .i64 (f 9), .int .i64 (f 10), .int .i64 (f 11)]) (by simp [results, Tryz.results49, go_sem, *]) rfl ?_
      exact ⟨f, rfl, hf, ((((((((((((HC.out.setNew (by omega) _ _).setNew (by omega) _ _).setNew (by omega) _ _).setNew (by omega) _ _).setNew (by omega) _ _).setNew (by omega) _ _).setNew (by omega) _ _).setNew (by omega) _ _).setNew (by omega) _ _).setNew (by omega) _ _).setNew (by omega) _ _).setNew (by omega) _ _), ((((((((((((HG.out.setNew (Nat.le_refl _) _ _).setNew (Nat.le_refl _) _ _).setNew (Nat.le_refl _) _ _).setNew (Nat.le_refl _) _ _).setNew (Nat.le_refl _) _ _).setNew (Nat.le_refl _) _ _).setNew (Nat.le_refl _) _ _).setNew (Nat.le_refl _) _ _).setNew (Nat.le_refl _) _ _).setNew (Nat.le_refl _) _ _).setNew (Nat.le_refl _) _ _).setNew (Nat.le_refl _) _ _)⟩
end Go.Proofs.YtaegmenjgjdimaaGreat
end

section
/- This text proves the points of small patches on small grids. -/
namespace Go.Proofs.YtaegmenjgjdimaaGreat
open Go.RowKit

theorem fdiv_sm {s q m : Int} (hq : 1 ≤ q) (h : -1000 * q ≤ s ∧ s ≤ 1000 * q) (hm : fdiv s q = m) : -1000 ≤ m ∧ m ≤ 1000 := by
  subst hm
  unfold fdiv
  rw [if_neg (by omega)]
  exact ⟨Int.le_ediv_of_mul_le (by omega) h.1, Int.ediv_le_of_le_mul (by omega) (by omega)⟩
set_option maxRecDepth 20000 in
set_option maxHeartbeats 12800000 in
theorem l05Mean_any (a b d e : Int) (ha : -1000 ≤ a ∧ a ≤ 1000) (hb : -1000 ≤ b ∧ b ≤ 1000) (hd : -1000 ≤ d ∧ d ≤ 1000) (he : -1000 ≤ e ∧ e ≤ 1000) (n i j : Nat) (hn : 1 ≤ n ∧ n ≤ 4) (hi : i < n) (hj : j < n) (w : World) :
    Calls Tryz.prog 114 #[.int .i64 a, .int .i64 b, .int .i64 d, .int .i64 e, .int .i64 (i : Nat), .int .i64 (j : Nat), .int .i64 (n : Nat)] w fun x w' => ∃ r, x = .returned (.int .i64 r) ∧ (-1000 ≤ r ∧ r ≤ 1000) ∧ w = w' := by
  rcases (show n = 1 ∨ n = 2 ∨ n = 3 ∨ n = 4 by omega) with rfl | rfl | rfl | rfl
  · obtain rfl : i = 0 := by omega
    obtain rfl : j = 0 := by omega
    (
      go_enter Tryz.func114, Tryz.ntmps114
      go_wp2_with fail
      refine (sFloorDiv_any _ _ _ ⟨by omega, by omega⟩).mono ?_
      rintro e1 w1 ⟨rfl, rfl⟩
      go_wp2
      go_ret
      exact ⟨_, rfl, fdiv_sm (by decide) ⟨by omega, by omega⟩ rfl, rfl⟩)
  · rcases (show i = 0 ∨ i = 1 by omega) with rfl | rfl <;> rcases (show j = 0 ∨ j = 1 by omega) with rfl | rfl <;>
    (
      go_enter Tryz.func114, Tryz.ntmps114
      go_wp2_with fail
      refine (sFloorDiv_any _ _ _ ⟨by omega, by omega⟩).mono ?_
      rintro e1 w1 ⟨rfl, rfl⟩
      go_wp2
      go_ret
      exact ⟨_, rfl, fdiv_sm (by decide) ⟨by omega, by omega⟩ rfl, rfl⟩)
  · rcases (show i = 0 ∨ i = 1 ∨ i = 2 by omega) with rfl | rfl | rfl <;> rcases (show j = 0 ∨ j = 1 ∨ j = 2 by omega) with rfl | rfl | rfl <;>
    (
      go_enter Tryz.func114, Tryz.ntmps114
      go_wp2_with fail
      refine (sFloorDiv_any _ _ _ ⟨by omega, by omega⟩).mono ?_
      rintro e1 w1 ⟨rfl, rfl⟩
      go_wp2
      go_ret
      exact ⟨_, rfl, fdiv_sm (by decide) ⟨by omega, by omega⟩ rfl, rfl⟩)
  · rcases (show i = 0 ∨ i = 1 ∨ i = 2 ∨ i = 3 by omega) with rfl | rfl | rfl | rfl <;> rcases (show j = 0 ∨ j = 1 ∨ j = 2 ∨ j = 3 by omega) with rfl | rfl | rfl | rfl <;>
    (
      go_enter Tryz.func114, Tryz.ntmps114
      go_wp2_with fail
      refine (sFloorDiv_any _ _ _ ⟨by omega, by omega⟩).mono ?_
      rintro e1 w1 ⟨rfl, rfl⟩
      go_wp2
      go_ret
      exact ⟨_, rfl, fdiv_sm (by decide) ⟨by omega, by omega⟩ rfl, rfl⟩)

theorem cl_small {x : Int} (h : -1000 ≤ x ∧ x ≤ 1000) : cl x = x := by
  have := (cl_fix x).2 (inB_iff.2 ⟨by omega, by omega⟩)
  exact this.symm
end Go.Proofs.YtaegmenjgjdimaaGreat
end

section
/- This text proves what the reference's EvalPatch and IsValidPatch do with small patches. -/
namespace Go.Proofs.YtaegmenjgjdimaaGreat
open Go.RowKit

theorem row12_new {w : World} {b : Nat} {t : TypeId} {f : Nat → Int} (hb : w.heap.size = b) : RowI (w.alloc (.cells #[.int .i64 (f 0), .int .i64 (f 1), .int .i64 (f 2), .int .i64 (f 3), .int .i64 (f 4), .int .i64 (f 5), .int .i64 (f 6), .int .i64 (f 7), .int .i64 (f 8), .int .i64 (f 9), .int .i64 (f 10), .int .i64 (f 11)] t)) b t 12 f :=
  hb ▸ World.rowIs_alloc _ _ _ _ fun i hi => by rcases twelve1 hi with h | h | h | h | h | h | h | h | h | h | h | h <;> subst h <;> rfl
set_option maxRecDepth 20000 in
set_option maxHeartbeats 6400000 in
theorem sEvalPatch_any (f : Nat → Int) (hf : SmF f) (n i j : Nat) (hn : 1 ≤ n ∧ n ≤ 4) (hi : i < n) (hj : j < n) (w : World) :
    Calls Tryz.prog 84 #[.agg #[.int .i64 (f 0), .int .i64 (f 1), .int .i64 (f 2), .int .i64 (f 3), .int .i64 (f 4), .int .i64 (f 5), .int .i64 (f 6), .int .i64 (f 7), .int .i64 (f 8), .int .i64 (f 9), .int .i64 (f 10), .int .i64 (f 11)], .int .i64 (i : Nat), .int .i64 (j : Nat), .int .i64 (n : Nat)] w fun e w' => ∃ x y z : Int, e = .returned (.agg #[.int .i64 x, .int .i64 y, .int .i64 z]) ∧ (-1000 ≤ x ∧ x ≤ 1000) ∧ (-1000 ≤ y ∧ y ≤ 1000) ∧ (-1000 ≤ z ∧ z ≤ 1000) ∧ Ext w w' := by
  have r0 := row12_new (w := w) (t := 109) (f := f) rfl
  have q0 := (Blk.new (w.alloc (.cells #[.int .i64 (f 0), .int .i64 (f 1), .int .i64 (f 2), .int .i64 (f 3), .int .i64 (f 4), .int .i64 (f 5), .int .i64 (f 6), .int .i64 (f 7), .int .i64 (f 8), .int .i64 (f 9), .int .i64 (f 10), .int .i64 (f 11)] 109)) 106 [.int .i64 0, .int .i64 0, .int .i64 0])
  rw [World.size_alloc] at q0
  have x0 : Ext w ((w.alloc (.cells #[.int .i64 (f 0), .int .i64 (f 1), .int .i64 (f 2), .int .i64 (f 3), .int .i64 (f 4), .int .i64 (f 5), .int .i64 (f 6), .int .i64 (f 7), .int .i64 (f 8), .int .i64 (f 9), .int .i64 (f 10), .int .i64 (f 11)] 109)).alloc (.cells #[.int .i64 0, .int .i64 0, .int .i64 0] 106)) := (by repeat (with_reducible (first | assumption | exact Ext.refl _ | apply Ext.alloc | apply Ext.drew | apply Ext.drewN)))
  have R0 := hid (r0.alloc (.cells #[.int .i64 0, .int .i64 0, .int .i64 0] 106))
  have Q0 := hid q0
  have X0 := hid x0
  have hnb : inB ((n : Nat) : Int) 1 64 = true := inB_iff.2 ⟨by omega, by omega⟩
  have hib : inB ((i : Nat) : Int) 0 ((n : Nat) : Int) = true := inB_iff.2 ⟨by omega, by omega⟩
  have hjb : inB ((j : Nat) : Int) 0 ((n : Nat) : Int) = true := inB_iff.2 ⟨by omega, by omega⟩
  have HN := hid hnb
  have HI := hid hib
  have HJ := hid hjb
  clear r0 q0 x0 hnb hib hjb
  go_enter Tryz.func84, Tryz.ntmps84
  go_wp2_with fail
  refine (l02V_val (cl_small (hf 0)) (cl_small (hf 1)) (cl_small (hf 2)) _).mono ?_
  rintro e w1 ⟨rfl, x1⟩
  have y1 : Ext w1 (w1.alloc (.cells #[.int .i64 (f 0), .int .i64 (f 1), .int .i64 (f 2)] 106)) := (by repeat (with_reducible (first | assumption | exact Ext.refl _ | apply Ext.alloc | apply Ext.drew | apply Ext.drewN)))
  have b1 := Blk.new w1 106 [.int .i64 (f 0), .int .i64 (f 1), .int .i64 (f 2)]
  have R1 := hid ((R0.out.ext x1).ext y1)
  have Q1 := hid ((Q0.out.ext x1).ext y1)
  have X1 := hid ((X0.out.trans x1).trans y1)
  have B11 := hid b1
  have c3 := R1.out.cell (i := 3) (by decide)
  have c4 := R1.out.cell (i := 4) (by decide)
  have c5 := R1.out.cell (i := 5) (by decide)
  clear R0 Q0 X0 x1 y1 b1
  go_wp2_with fail
  refine (l02V_val (cl_small (hf 3)) (cl_small (hf 4)) (cl_small (hf 5)) _).mono ?_
  rintro e w2 ⟨rfl, x2⟩
  have y2 : Ext w2 (w2.alloc (.cells #[.int .i64 (f 3), .int .i64 (f 4), .int .i64 (f 5)] 106)) := (by repeat (with_reducible (first | assumption | exact Ext.refl _ | apply Ext.alloc | apply Ext.drew | apply Ext.drewN)))
  have b2 := Blk.new w2 106 [.int .i64 (f 3), .int .i64 (f 4), .int .i64 (f 5)]
  have R2 := hid ((R1.out.ext x2).ext y2)
  have Q2 := hid ((Q1.out.ext x2).ext y2)
  have X2 := hid ((X1.out.trans x2).trans y2)
  have B12 := hid ((B11.out.ext x2).ext y2)
  have B22 := hid b2
  have c6 := R2.out.cell (i := 6) (by decide)
  have c7 := R2.out.cell (i := 7) (by decide)
  have c8 := R2.out.cell (i := 8) (by decide)
  clear R1 Q1 X1 x2 y2 b2 B11 c3 c4 c5
  go_wp2_with fail
  refine (l02V_val (cl_small (hf 6)) (cl_small (hf 7)) (cl_small (hf 8)) _).mono ?_
  rintro e w3 ⟨rfl, x3⟩
  have y3 : Ext w3 (w3.alloc (.cells #[.int .i64 (f 6), .int .i64 (f 7), .int .i64 (f 8)] 106)) := (by repeat (with_reducible (first | assumption | exact Ext.refl _ | apply Ext.alloc | apply Ext.drew | apply Ext.drewN)))
  have b3 := Blk.new w3 106 [.int .i64 (f 6), .int .i64 (f 7), .int .i64 (f 8)]
  have R3 := hid ((R2.out.ext x3).ext y3)
  have Q3 := hid ((Q2.out.ext x3).ext y3)
  have X3 := hid ((X2.out.trans x3).trans y3)
  have B13 := hid ((B12.out.ext x3).ext y3)
  have B23 := hid ((B22.out.ext x3).ext y3)
  have B33 := hid b3
  have c9 := R3.out.cell (i := 9) (by decide)
  have c10 := R3.out.cell (i := 10) (by decide)
  have c11 := R3.out.cell (i := 11) (by decide)
  clear R2 Q2 X2 x3 y3 b3 B12 B22 c6 c7 c8
  go_wp2_with fail
  refine (l02V_val (cl_small (hf 9)) (cl_small (hf 10)) (cl_small (hf 11)) _).mono ?_
  rintro e w4 ⟨rfl, x4⟩
  have y4 : Ext w4 (w4.alloc (.cells #[.int .i64 (f 9), .int .i64 (f 10), .int .i64 (f 11)] 106)) := (by repeat (with_reducible (first | assumption | exact Ext.refl _ | apply Ext.alloc | apply Ext.drew | apply Ext.drewN)))
  have b4 := Blk.new w4 106 [.int .i64 (f 9), .int .i64 (f 10), .int .i64 (f 11)]
  have Q4 := hid (Q3.out.ext x4)
  have X4 := hid (X3.out.trans x4)
  have B14 := hid (B13.out.ext x4)
  have B24 := hid (B23.out.ext x4)
  have B34 := hid (B33.out.ext x4)
  have l0 := Q4.out.lt
  have l1 := B14.out.lt
  have l2 := B24.out.lt
  have l3 := B34.out.lt
  have g0 := Q4.out.free 0
  have g1 := Q4.out.free 1
  have g2 := Q4.out.free 2
  have o0 := Q4.out.cell 0 rfl
  have o1 := Q4.out.cell 1 rfl
  have o2 := Q4.out.cell 2 rfl
  have p0 := B14.out.cell 0 rfl
  have p1 := B14.out.cell 1 rfl
  have p2 := B14.out.cell 2 rfl
  have q0 := B24.out.cell 0 rfl
  have q1 := B24.out.cell 1 rfl
  have q2 := B24.out.cell 2 rfl
  have r0 := B34.out.cell 0 rfl
  have r1 := B34.out.cell 1 rfl
  have r2 := B34.out.cell 2 rfl
  have zx := X4.out.size
  clear R3 Q3 X3 x4 y4 b4 B13 B23 B33 c9 c10 c11
  go_wp2_with fail
  refine (l01In_val HN.out _).mono ?_
  rintro e w5 ⟨rfl, rfl⟩
  go_wp2_with fail
  refine (l01In_val HI.out _).mono ?_
  rintro e w5 ⟨rfl, rfl⟩
  go_wp2_with fail
  refine (l01In_val HJ.out _).mono ?_
  rintro e w5 ⟨rfl, rfl⟩
  go_wp2_with fail
  refine wp_region_stages [([0, 1, 2, 3, 4, 5, 6, 7, 8, 9, 10, 12, 13, 14, 15, 16, 17, 18, 19, 20, 21, 22, 24, 25, 26, 27, 28, 29, 30, 31, 32, 33, 34], 11), ([], 23), ([], 35), ([36], 37)] 37 (w4.heap.size + 1) (by kernel_rfl) (by kernel_rfl) ?_
  refine wpStages_cons ?_
  simp only [List.filterMap_cons, List.filterMap_nil, List.getElem?_toArray, List.getElem?_cons_zero, List.getElem?_cons_succ]
  show wpQuiet _ _ _ _ (_ :: _ :: _ :: _ :: _ :: _ :: _ :: _ :: _ :: _ :: _ :: _ :: _ :: _ :: _ :: _ :: _ :: _ :: _ :: _ :: _ :: _ :: _ :: _ :: _ :: _ :: _ :: _ :: _ :: _ :: _ :: _ :: _ :: []) _
  repeat (go_big_quiet_step (fail))
  refine wpQuiet_nil ⟨_, rfl, fun K hK => ?_⟩
  go_wp2_with fail
  refine (l05Mean_any _ _ _ _ (hf 0) (hf 3) (hf 6) (hf 9) n i j hn hi hj _).mono ?_
  rintro e w5 ⟨m1, rfl, hm1, rfl⟩
  go_wp2_with fail
  refine hK _ _ (.inr (fun k _ hk => Ext.block (by repeat (with_reducible (first | assumption | exact Ext.refl _ | apply Ext.alloc | apply Ext.drew | apply Ext.drewN))) (by first | omega | (simp; omega)))) ?_
  clear hK K
  refine wpStages_cons ?_
  simp only [List.filterMap_nil]
  show wpQuiet _ _ _ _ [] _
  try simp only [Act.put, List.setIfInBounds_toArray, List.set_cons_succ, List.set_cons_zero]
  repeat (go_big_quiet_step (fail))
  refine wpQuiet_nil ⟨_, rfl, fun K hK => ?_⟩
  go_wp2_with fail
  refine (l05Mean_any _ _ _ _ (hf 1) (hf 4) (hf 7) (hf 10) n i j hn hi hj _).mono ?_
  rintro e w5 ⟨m2, rfl, hm2, rfl⟩
  go_wp2_with fail
  refine hK _ _ (.inr (fun k _ hk => Ext.block (by repeat (with_reducible (first | assumption | exact Ext.refl _ | apply Ext.alloc | apply Ext.drew | apply Ext.drewN))) (by first | omega | (simp; omega)))) ?_
  clear hK K
  refine wpStages_cons ?_
  simp only [List.filterMap_nil]
  show wpQuiet _ _ _ _ [] _
  try simp only [Act.put, List.setIfInBounds_toArray, List.set_cons_succ, List.set_cons_zero]
  repeat (go_big_quiet_step (fail))
  refine wpQuiet_nil ⟨_, rfl, fun K hK => ?_⟩
  go_wp2_with fail
  refine (l05Mean_any _ _ _ _ (hf 2) (hf 5) (hf 8) (hf 11) n i j hn hi hj _).mono ?_
  rintro e w5 ⟨m3, rfl, hm3, rfl⟩
  go_wp2_with fail
  refine hK _ _ (.inr (fun k _ hk => Ext.block (by repeat (with_reducible (first | assumption | exact Ext.refl _ | apply Ext.alloc | apply Ext.drew | apply Ext.drewN))) (by first | omega | (simp; omega)))) ?_
  clear hK K
  refine wpStages_cons ?_
  simp only [List.filterMap_cons, List.filterMap_nil, List.getElem?_toArray, List.getElem?_cons_zero, List.getElem?_cons_succ]
  show wpQuiet _ _ _ _ [_] _
  try simp only [Act.put, List.setIfInBounds_toArray, List.set_cons_succ, List.set_cons_zero]
  repeat (go_big_quiet_step (fail))
  refine wpQuiet_nil ⟨_, rfl, fun K hK => ?_⟩
  go_wp2_with fail
  refine hK _ _ (.inl trivial) ?_
  clear hK K
  refine wpStages_nil ?_
  go_wp2
  refine bodyPost_ret (v := .agg #[.int .i64 m1, .int .i64 m2, .int .i64 m3]) (by simp [results, Tryz.results84, go_sem, *]) rfl ?_
  have X4o := X4.out
  exact ⟨m1, m2, m3, rfl, hm1, hm2, hm3, (by repeat (first | with_reducible assumption | with_reducible exact Ext.refl _ | with_reducible apply Ext.alloc | with_reducible apply Ext.drew | with_reducible apply Ext.drewN | (with_reducible refine Ext.setCell ?_ (by simp; omega) _) | (with_reducible refine Ext.setCell ?_ (by simp) _)))⟩
set_option maxRecDepth 20000 in
set_option maxHeartbeats 6400000 in
theorem sIsValidPatch_small (f : Nat → Int) (hf : SmF f) (w : World) :
    Calls Tryz.prog 81 #[.agg #[.int .i64 (f 0), .int .i64 (f 1), .int .i64 (f 2), .int .i64 (f 3), .int .i64 (f 4), .int .i64 (f 5), .int .i64 (f 6), .int .i64 (f 7), .int .i64 (f 8), .int .i64 (f 9), .int .i64 (f 10), .int .i64 (f 11)]] w fun e w' => e = .returned (.bool true) ∧ Ext w w' := by
  have i0 : ∀ w : World, (Instr.index 107 (.agg #[.int .i64 (f 0), .int .i64 (f 1), .int .i64 (f 2), .int .i64 (f 3), .int .i64 (f 4), .int .i64 (f 5), .int .i64 (f 6), .int .i64 (f 7), .int .i64 (f 8), .int .i64 (f 9), .int .i64 (f 10), .int .i64 (f 11)]) (.int .i64 0)).run Tryz.prog w = .ok (.agg #[.int .i64 (f 0), .int .i64 (f 1), .int .i64 (f 2)]) w := fun _ => by kernel_rfl
  have i1 : ∀ w : World, (Instr.index 107 (.agg #[.int .i64 (f 0), .int .i64 (f 1), .int .i64 (f 2), .int .i64 (f 3), .int .i64 (f 4), .int .i64 (f 5), .int .i64 (f 6), .int .i64 (f 7), .int .i64 (f 8), .int .i64 (f 9), .int .i64 (f 10), .int .i64 (f 11)]) (.int .i64 1)).run Tryz.prog w = .ok (.agg #[.int .i64 (f 3), .int .i64 (f 4), .int .i64 (f 5)]) w := fun _ => by kernel_rfl
  have i2 : ∀ w : World, (Instr.index 107 (.agg #[.int .i64 (f 0), .int .i64 (f 1), .int .i64 (f 2), .int .i64 (f 3), .int .i64 (f 4), .int .i64 (f 5), .int .i64 (f 6), .int .i64 (f 7), .int .i64 (f 8), .int .i64 (f 9), .int .i64 (f 10), .int .i64 (f 11)]) (.int .i64 2)).run Tryz.prog w = .ok (.agg #[.int .i64 (f 6), .int .i64 (f 7), .int .i64 (f 8)]) w := fun _ => by kernel_rfl
  have i3 : ∀ w : World, (Instr.index 107 (.agg #[.int .i64 (f 0), .int .i64 (f 1), .int .i64 (f 2), .int .i64 (f 3), .int .i64 (f 4), .int .i64 (f 5), .int .i64 (f 6), .int .i64 (f 7), .int .i64 (f 8), .int .i64 (f 9), .int .i64 (f 10), .int .i64 (f 11)]) (.int .i64 3)).run Tryz.prog w = .ok (.agg #[.int .i64 (f 9), .int .i64 (f 10), .int .i64 (f 11)]) w := fun _ => by kernel_rfl
  go_enter Tryz.func81, Tryz.ntmps81
  go_wp2
  go_loopw [7] (fun i wr => ∃ k : Nat, k ≤ 4 ∧ i = .int .i64 (k : Nat) ∧ Ext w wr) (fun i _ => 4 - (intOf i).toNat)
  case atStart => exact ⟨0, by omega, rfl, (by repeat (first | with_reducible assumption | with_reducible exact Ext.refl _ | with_reducible apply Ext.alloc | with_reducible apply Ext.drew | with_reducible apply Ext.drewN | (with_reducible refine Ext.setCell ?_ (by simp; omega) _) | (with_reducible refine Ext.setCell ?_ (by simp) _)))⟩
  case round =>
    obtain ⟨k, hk, rfl, hx⟩ := hrel
    have HX := hid hx
    clear hx
    by_cases hlt : k < 4
    · have hk4 : k = 0 ∨ k = 1 ∨ k = 2 ∨ k = 3 := by omega
      rcases hk4 with h | h | h | h <;> subst h
      · have hv : okVec (f 0) (f 1) (f 2) = true := by
          have h0 := hf 0
          have h1 := hf 1
          have h2 := hf 2
          unfold okVec
          rw [inB_iff.2 ⟨by omega, by omega⟩, inB_iff.2 ⟨by omega, by omega⟩, inB_iff.2 ⟨by omega, by omega⟩]
          rfl
        have HV := hid hv
        clear hv
        go_wp2_with fail
        refine (sIsValidVec_val _).mono ?_
        rintro e w3 ⟨rfl, x3⟩
        rw [HV.out]
        have HX3 := hid (Ext.trans (Ext.trans HX.out (by repeat (with_reducible (first | assumption | exact Ext.refl _ | apply Ext.alloc | apply Ext.drew | apply Ext.drewN)))) x3)
        clear HX x3
        go_wp2
        go_roundw
        case rel => exact ⟨1, by omega, by go_num, HX3.out⟩
        case measure => simp [intOf]
      · have hv : okVec (f 3) (f 4) (f 5) = true := by
          have h0 := hf 3
          have h1 := hf 4
          have h2 := hf 5
          unfold okVec
          rw [inB_iff.2 ⟨by omega, by omega⟩, inB_iff.2 ⟨by omega, by omega⟩, inB_iff.2 ⟨by omega, by omega⟩]
          rfl
        have HV := hid hv
        clear hv
        go_wp2_with fail
        refine (sIsValidVec_val _).mono ?_
        rintro e w3 ⟨rfl, x3⟩
        rw [HV.out]
        have HX3 := hid (Ext.trans (Ext.trans HX.out (by repeat (with_reducible (first | assumption | exact Ext.refl _ | apply Ext.alloc | apply Ext.drew | apply Ext.drewN)))) x3)
        clear HX x3
        go_wp2
        go_roundw
        case rel => exact ⟨2, by omega, by go_num, HX3.out⟩
        case measure => simp [intOf]
      · have hv : okVec (f 6) (f 7) (f 8) = true := by
          have h0 := hf 6
          have h1 := hf 7
          have h2 := hf 8
          unfold okVec
          rw [inB_iff.2 ⟨by omega, by omega⟩, inB_iff.2 ⟨by omega, by omega⟩, inB_iff.2 ⟨by omega, by omega⟩]
          rfl
        have HV := hid hv
        clear hv
        go_wp2_with fail
        refine (sIsValidVec_val _).mono ?_
        rintro e w3 ⟨rfl, x3⟩
        rw [HV.out]
        have HX3 := hid (Ext.trans (Ext.trans HX.out (by repeat (with_reducible (first | assumption | exact Ext.refl _ | apply Ext.alloc | apply Ext.drew | apply Ext.drewN)))) x3)
        clear HX x3
        go_wp2
        go_roundw
        case rel => exact ⟨3, by omega, by go_num, HX3.out⟩
        case measure => simp [intOf]
      · have hv : okVec (f 9) (f 10) (f 11) = true := by
          have h0 := hf 9
          have h1 := hf 10
          have h2 := hf 11
          unfold okVec
          rw [inB_iff.2 ⟨by omega, by omega⟩, inB_iff.2 ⟨by omega, by omega⟩, inB_iff.2 ⟨by omega, by omega⟩]
          rfl
        have HV := hid hv
        clear hv
        go_wp2_with fail
        refine (sIsValidVec_val _).mono ?_
        rintro e w3 ⟨rfl, x3⟩
        rw [HV.out]
        have HX3 := hid (Ext.trans (Ext.trans HX.out (by repeat (with_reducible (first | assumption | exact Ext.refl _ | apply Ext.alloc | apply Ext.drew | apply Ext.drewN)))) x3)
        clear HX x3
        go_wp2
        go_roundw
        case rel => exact ⟨4, by omega, by go_num, HX3.out⟩
        case measure => simp [intOf]
    · obtain rfl : k = 4 := by omega
      go_wp2
      go_ret
      exact ⟨rfl, HX.out⟩
end Go.Proofs.YtaegmenjgjdimaaGreat
end

section
/- This text proves the reference's GridOf at small patches and rates. -/
namespace Go.Proofs.YtaegmenjgjdimaaGreat
open Go.RowKit

/-- a point of a grid -/
structure Pt where
  u : Int
  v : Int
  x : Int
  y : Int
  z : Int
def Pt.ls (p : Pt) : List Int := [p.u, p.v, p.x, p.y, p.z]
def Pt.cs (p : Pt) : List Value := [.int .i64 p.u, .int .i64 p.v, .int .i64 p.x, .int .i64 p.y, .int .i64 p.z]
def Pt.Sm (p : Pt) : Prop := ∀ x ∈ p.ls, -1000 ≤ x ∧ x ≤ 1000
def OwnPts (lo : Nat) (w : World) (v : Value) (xs : List Pt) : Prop := OwnG Pt.cs lo 157 5 w v xs
theorem info_PointT : (Tryz.prog.info? 157).map (fun i => (i.zero, i.size, i.bytes)) = some (some (.agg #[.int .i64 0, .int .i64 0, .int .i64 0, .int .i64 0, .int .i64 0]), 5, 40) := by kernel_rfl
theorem wpList_append_pt (w : World) {ops : Array Oper} {rest : List Oper} {o : Oper} {a : Act} {Q : Exit → Act → World → Prop} (hg : o.guard = none) (s x : Operand)
    (hop : o.op = Op.call { callee := Callee.builtin Builtin.append, args := #[s, x], argTypes := #[28, 28] }) (lo : Nat) (v : Value) (xs : List Pt) (hs : a.eval s = v) (hown : OwnPts lo w v xs)
    (y : Pt) (b : Nat) (hx : a.eval x = .slice (some ⟨b, 0, none⟩) 1 1) (hcell : ∀ j, j < 5 → w.cell? ⟨b, j, none⟩ = y.cs[j]?) (hlen : xs.length < 1000000) (hlo : lo ≤ w.heap.size)
    (hK : ∀ v' w', OwnPts lo w' v' (xs ++ [y]) → w.grownBy w' v.ownBlock → wpList Tryz.prog ops Q rest (a.put o.dst v') w') : wpList Tryz.prog ops Q (o :: rest) a w := by
  refine wpList_append_elt Pt.cs 157 5 40 _ w hg s x 28 hop Tryz.underlying28 info_PointT rfl (by decide) (by decide) (fun _ => rfl) lo v xs hs hown y b hx hcell ?_ hlen hlo hK
  intro u hu
  simp only [Pt.cs, List.mem_cons, List.not_mem_nil, or_false] at hu
  rcases hu with rfl | rfl | rfl | rfl | rfl <;> rfl
/-- the points' numbers in a row -/
def ptF (ps : List Pt) (k : Nat) : Int := match ps[k / 5]? with | some p => p.ls.getD (k % 5) 0 | none => 0
theorem ptF_small {ps : List Pt} (h : ∀ p ∈ ps, p.Sm) (k : Nat) : -1000 ≤ ptF ps k ∧ ptF ps k ≤ 1000 := by
  unfold ptF
  cases hp : ps[k / 5]? with
  | none => exact ⟨show (-1000 : Int) ≤ 0 by decide, show (0 : Int) ≤ 1000 by decide⟩
  | some p =>
    have hm := h p (List.mem_of_getElem? hp)
    have hl : k % 5 < p.ls.length := by
      have := Nat.mod_lt k (show 0 < 5 by decide)
      exact this
    show -1000 ≤ p.ls.getD (k % 5) 0 ∧ p.ls.getD (k % 5) 0 ≤ 1000
    rw [List.getD_eq_getElem?_getD, List.getElem?_eq_getElem hl]
    exact hm _ (List.getElem_mem hl)
theorem Pt.cs_at (p : Pt) {j : Nat} (hj : j < 5) : p.cs[j]? = some (.int .i64 (p.ls.getD j 0)) := by
  rcases (show j = 0 ∨ j = 1 ∨ j = 2 ∨ j = 3 ∨ j = 4 by omega) with rfl | rfl | rfl | rfl | rfl <;> rfl
theorem OwnPts.flats {lo : Nat} {w : World} {v : Value} {ps : List Pt} (h : OwnPts lo w v ps) (hs : ∀ p ∈ ps, p.Sm) : Flats 5 lo w.heap.size w v ps.length (ptF ps) := by
  obtain ⟨a, c, rfl, _⟩ := OwnG.form h
  have hc : ps.length ≤ c ∧ c ≤ maxLen := by
    rcases h.2 with ⟨e, h4⟩ | ⟨g, cap, cur, e, hb, hh, hc, hm, _⟩
    · simp only [Value.slice.injEq] at e
      obtain ⟨rfl, e2, rfl⟩ := e
      exact ⟨by omega, by unfold maxLen; omega⟩
    · simp only [Value.slice.injEq] at e
      obtain ⟨rfl, e2, rfl⟩ := e
      exact ⟨hc, hm⟩
  refine ⟨a, c, rfl, hc.1, hc.2, fun i hi => ?_⟩
  have hk : i / 5 < ps.length := by omega
  obtain ⟨g, cap, e, g1, g2, _, _, _, hcell⟩ := OwnG.at h (fun _ => rfl) (List.getElem?_eq_getElem hk)
  simp only [Value.slice.injEq] at e
  obtain ⟨rfl, _, rfl⟩ := e
  have hm := Nat.mod_lt i (show 0 < 5 by decide)
  have hb := ptF_small hs i
  refine ⟨⟨by omega, by omega⟩, g, 0, rfl, g1, g2, ?_⟩
  have h1 := hcell (i % 5) hm
  rw [Pt.cs_at _ hm] at h1
  have e1 : i / 5 * 5 + i % 5 = 0 + i := by omega
  rw [e1] at h1
  rw [h1]
  unfold ptF
  rw [List.getElem?_eq_getElem hk]
theorem inB_sm {x : Int} (h : -1000 ≤ x ∧ x ≤ 1000) : inB x (-1000000) 1000000 = true := inB_iff.2 ⟨by omega, by omega⟩
theorem ptB_small {ps : List Pt} (h : ∀ p ∈ ps, p.Sm) (k : Nat) : ptB (ptF ps) k = true := by
  unfold ptB
  rw [List.all_eq_true]
  intro x hx
  simp only [ptL, List.mem_cons, List.not_mem_nil, or_false] at hx
  rcases hx with rfl | rfl | rfl | rfl | rfl <;> exact inB_sm (ptF_small h _)
end Go.Proofs.YtaegmenjgjdimaaGreat
end

section
/- This text proves the reference's GridOf at small patches and rates. -/
namespace Go.Proofs.YtaegmenjgjdimaaGreat
open Go.RowKit

/-- the memory of the reference's GridOf -/
structure GSt (lo n : Nat) (tm : Int) (t : Tex) (f : Nat → Int) (A P Q : Nat) (tu : Value) (w wr : World) (ps : List Pt) (pu : Value) : Prop where
  ext : Ext w wr
  pat : RowI wr P 109 12 f
  res : Blk wr Q 33 [.int .i64 0, .slice none 0 0, .int .i64 0, .int .i64 0, .slice none 0 0]
  box : Blk wr A 33 [.int .i64 (n : Nat), pu, .int .i64 tm, .int .i64 t.log, tu]
  pts : OwnPts lo wr pu ps
  tex : OwnInts lo wr tu t.px
  sm : ∀ p ∈ ps, p.Sm
theorem GSt.to {lo n : Nat} {tm : Int} {t : Tex} {f : Nat → Int} {A P Q : Nat} {tu pu : Value} {w wr w' : World} {ps : List Pt} (h : GSt lo n tm t f A P Q tu w wr ps pu) (x : Ext wr w') : GSt lo n tm t f A P Q tu w w' ps pu :=
  ⟨h.ext.trans x, h.pat.ext x, h.res.ext x, h.box.ext x, OwnG.ext h.pts x, h.tex.ext x, h.sm⟩
theorem OwnG.rowT {α : Type} {cs : α → List Value} {lo : Nat} {e : TypeId} {sz : Nat} {w : World} {v : Value} {xs : List α} (h : OwnG cs lo e sz w v xs) : ∀ k, v.ownBlock = some k → lo ≤ k ∧ ∃ c, w.heap[k]? = some (.cells c e (0, 0)) := by
  intro k hk
  rcases h.2 with ⟨rfl, h4⟩ | ⟨g, cap, cur, rfl, hb, hg, _⟩
  · cases hk
  · simp only [Value.ownBlock, Option.some.injEq] at hk
    subst hk
    exact ⟨hb, cur, hg⟩
theorem GSt.grow {lo n : Nat} {tm : Int} {t : Tex} {f : Nat → Int} {A P Q : Nat} {tu pu pu' : Value} {w wr w' : World} {ps ps' : List Pt} (h : GSt lo n tm t f A P Q tu w wr ps pu) (hP : P < lo) (hQ : Q < lo) (hA : lo ≤ A) (hw : w.heap.size ≤ lo) (hg : wr.grownBy w' pu.ownBlock) (hown : OwnPts lo w' pu' ps') (hs : ∀ p ∈ ps', p.Sm) : GSt lo n tm t f A P Q tu w (w'.setCell ⟨A, 1, none⟩ pu') ps' pu' := by
  have hr := OwnG.rowT h.pts
  have hB := h.box.grown hg (fun e => by
    obtain ⟨_, c, hc⟩ := hr A e.symm
    have hb := h.box
    unfold Blk at hb
    rw [hb] at hc
    simp only [Option.some.injEq, Obj.cells.injEq] at hc
    exact absurd hc.2.1 (by decide))
  have hT := h.tex.grown hg (fun k hk e => by
    obtain ⟨_, c, hc⟩ := hr k e.symm
    obtain ⟨c', hc'⟩ := h.tex.block hk
    rw [hc'] at hc
    simp only [Option.some.injEq, Obj.cells.injEq] at hc
    exact absurd hc.2.1 (by decide))
  refine ⟨Ext.setCell (Ext.grown h.ext hg (fun k hk => by have := (hr k hk).1; omega)) (by simp only; omega) _, (h.pat.of (hg.block _ h.pat.lt (fun e => by have := (hr _ e.symm).1; omega))).other (by simp only; omega) _, (h.res.grown hg (fun e => by have := (hr _ e.symm).1; omega)).other (by simp only; omega) _, hB.set 1 _, OwnG.set hown hB (by decide) 1 _, hT.setOther (fun e => ?_) _, hs⟩
  obtain ⟨c, hc⟩ := hT.block e
  unfold Blk at hB
  simp only at hc
  rw [hB] at hc
  simp only [Option.some.injEq, Obj.cells.injEq] at hc
  exact absurd hc.2.1 (by decide)
theorem set5_same {lo hi Q : Nat} (w : World) (hQ : Q < lo) (a b c d e : Value) : Same lo hi w (((((w.setCell ⟨Q, 0, none⟩ a).setCell ⟨Q, 1, none⟩ b).setCell ⟨Q, 2, none⟩ c).setCell ⟨Q, 3, none⟩ d).setCell ⟨Q, 4, none⟩ e) := fun k h1 _ => by
  have hk : Q ≠ k := by omega
  rw [Below.heap_setCell _ _ _ _ (by exact hk.symm), Below.heap_setCell _ _ _ _ (by exact hk.symm), Below.heap_setCell _ _ _ _ (by exact hk.symm), Below.heap_setCell _ _ _ _ (by exact hk.symm), Below.heap_setCell _ _ _ _ (by exact hk.symm)]
theorem uv_sm {i n : Nat} (h1 : 1 ≤ n) (h : i < n) : -1000 ≤ ((i : Int) * 256 / (n : Int)) ∧ ((i : Int) * 256 / (n : Int)) ≤ 1000 := by
  have h0 : 0 ≤ ((i : Int) * 256 / (n : Int)) := Int.ediv_nonneg (by omega) (by omega)
  exact ⟨by omega, Int.ediv_le_of_le_mul (by omega) (by omega)⟩
set_option maxRecDepth 20000 in
set_option maxHeartbeats 6400000 in
theorem sGridOf_any (lo hi : Nat) (f : Nat → Int) (hf : SmF f) (n : Nat) (hn : 1 ≤ n ∧ n ≤ 4) (tm : Int) (htm : 0 ≤ tm ∧ tm ≤ 256) (tv : Value) (t : Tex) (w : World) (ht : TexR lo hi w tv t) (hh : hi ≤ w.heap.size) (hok : t.Ok) :
    Calls Tryz.prog 48 #[.agg #[.int .i64 (f 0), .int .i64 (f 1), .int .i64 (f 2), .int .i64 (f 3), .int .i64 (f 4), .int .i64 (f 5), .int .i64 (f 6), .int .i64 (f 7), .int .i64 (f 8), .int .i64 (f 9), .int .i64 (f 10), .int .i64 (f 11)], .int .i64 (n : Nat), .int .i64 tm, tv] w fun e w' => ∃ (g : Grd) (v : Value), e = .returned (.tuple #[v, .bool true]) ∧ g.R w.heap.size w'.heap.size w' v ∧ g.okB = true ∧ Ext w w' := by
  have HT := hid ht
  obtain ⟨tu, rfl, tlog, hu⟩ := ht
  obtain ⟨a, cap, rfl, HU⟩ := hu.open
  have l1 := HU.le
  have l2 := HU.cap
  have hpx1 : 1 ≤ t.px.length := by rw [hok.len]; exact Nat.mul_pos hok.n_pos hok.n_pos
  have hpx2 : t.px.length ≤ 256 := by rw [hok.len]; exact Nat.mul_le_mul hok.n_le hok.n_le
  obtain ⟨_, bx, off, rfl, _, hbx, _⟩ := HU.cell 0 _ (List.getElem?_eq_getElem (by omega))
  have hnb : inB ((n : Nat) : Int) 1 8 = true := inB_iff.2 ⟨by omega, by omega⟩
  have htb : inB tm 0 256 = true := inB_iff.2 htm
  have HN := hid hnb
  have HM := hid htb
  have HK := hid (Tex.okB_iff.2 hok)
  have r0 := row12_new (w := w) (t := 109) (f := f) rfl
  have t0 := Blk.new (w.alloc (.cells #[.int .i64 (f 0), .int .i64 (f 1), .int .i64 (f 2), .int .i64 (f 3), .int .i64 (f 4), .int .i64 (f 5), .int .i64 (f 6), .int .i64 (f 7), .int .i64 (f 8), .int .i64 (f 9), .int .i64 (f 10), .int .i64 (f 11)] 109)) 31 [.int .i64 t.log, .slice (some ⟨bx, off, none⟩) t.px.length cap]
  have q0 := Blk.new ((w.alloc (.cells #[.int .i64 (f 0), .int .i64 (f 1), .int .i64 (f 2), .int .i64 (f 3), .int .i64 (f 4), .int .i64 (f 5), .int .i64 (f 6), .int .i64 (f 7), .int .i64 (f 8), .int .i64 (f 9), .int .i64 (f 10), .int .i64 (f 11)] 109)).alloc (.cells #[.int .i64 t.log, .slice (some ⟨bx, off, none⟩) t.px.length cap] 31)) 33 [.int .i64 0, .slice none 0 0, .int .i64 0, .int .i64 0, .slice none 0 0]
  simp only [World.size_alloc] at t0 q0
  have x0 : Ext w (((w.alloc (.cells #[.int .i64 (f 0), .int .i64 (f 1), .int .i64 (f 2), .int .i64 (f 3), .int .i64 (f 4), .int .i64 (f 5), .int .i64 (f 6), .int .i64 (f 7), .int .i64 (f 8), .int .i64 (f 9), .int .i64 (f 10), .int .i64 (f 11)] 109)).alloc (.cells #[.int .i64 t.log, .slice (some ⟨bx, off, none⟩) t.px.length cap] 31)).alloc (.cells #[.int .i64 0, .slice none 0 0, .int .i64 0, .int .i64 0, .slice none 0 0] 33)) := (by repeat (with_reducible (first | assumption | exact Ext.refl _ | apply Ext.alloc | apply Ext.drew | apply Ext.drewN)))
  have R0 := hid ((r0.alloc (.cells #[.int .i64 t.log, .slice (some ⟨bx, off, none⟩) t.px.length cap] 31)).alloc (.cells #[.int .i64 0, .slice none 0 0, .int .i64 0, .int .i64 0, .slice none 0 0] 33))
  have T0 := hid (t0.ext (show Ext _ (((w.alloc (.cells #[.int .i64 (f 0), .int .i64 (f 1), .int .i64 (f 2), .int .i64 (f 3), .int .i64 (f 4), .int .i64 (f 5), .int .i64 (f 6), .int .i64 (f 7), .int .i64 (f 8), .int .i64 (f 9), .int .i64 (f 10), .int .i64 (f 11)] 109)).alloc (.cells #[.int .i64 t.log, .slice (some ⟨bx, off, none⟩) t.px.length cap] 31)).alloc (.cells #[.int .i64 0, .slice none 0 0, .int .i64 0, .int .i64 0, .slice none 0 0] 33)) from (by repeat (with_reducible (first | assumption | exact Ext.refl _ | apply Ext.alloc | apply Ext.drew | apply Ext.drewN)))))
  have Q0 := hid q0
  have X0 := hid x0
  clear hnb htb hu r0 t0 q0 x0
  go_enter Tryz.func48, Tryz.ntmps48
  go_wp2_with fail
  refine (sIsValidPatch_small f hf _).mono ?_
  rintro e w1 ⟨rfl, x1⟩
  have R1 := hid (R0.out.ext x1)
  have T1 := hid (T0.out.ext x1)
  have Q1 := hid (Q0.out.ext x1)
  have X1 := hid (X0.out.trans x1)
  clear R0 T0 Q0 X0 x1
  go_wp2_with fail
  refine (l01In_val HN.out _).mono ?_
  rintro e w2 ⟨rfl, rfl⟩
  go_wp2_with fail
  refine (l01In_val HM.out _).mono ?_
  rintro e w2 ⟨rfl, rfl⟩
  have t0 := T1.out.cell 0 rfl
  have t1 := T1.out.cell 1 rfl
  have z1 := X1.out.size
  go_wp2_with fail
  refine (sIsValidTexture_val HK.out lo hi _ _ (HT.out.ext hh X1.out) (by omega)).mono ?_
  rintro e w2 ⟨rfl, x2⟩
  have R2 := hid (R1.out.ext x2)
  have T2 := hid (T1.out.ext x2)
  have Q2 := hid (Q1.out.ext x2)
  have HX2 := hid (X1.out.trans x2)
  have z2 := HX2.out.size
  clear R1 T1 Q1 X1 x2 t0 t1
  have t0 := T2.out.cell 0 rfl
  have t1 := T2.out.cell 1 rfl
  have zt := T2.out.lt
  go_upto_region 3 with fail
  go_cut [10] from 33 to 42 (fun p wx => ∃ A tu, p = .pointer (some ⟨A, 0, none⟩) ∧ w2.heap.size ≤ A ∧ Blk wx A 33 [.int .i64 (n : Nat), .slice none 0 0, .int .i64 tm, .int .i64 t.log, tu] ∧ OwnInts w2.heap.size wx tu t.px ∧ Ext w2 wx)
  case first =>
    refine wp_region_Z 11 w2.heap.size (by kernel_rfl) ?_
    refine wpZ_stage (fuel := 5) [0, 1, 2, 3, 5, 6] [4, 10] (by kernel_rfl) (fun b _ hb => rfl) ?_
    try simp only [Act.put, List.setIfInBounds_toArray, List.set_cons_succ, List.set_cons_zero]
    simp only [List.filterMap_cons, List.filterMap_nil, List.getElem?_toArray, List.getElem?_cons_zero, List.getElem?_cons_succ]
    show wpQuiet _ _ _ _ [_, _, _, _, _, _] _
    repeat (go_big_quiet_step (fail))
    refine wpQuiet_nil ?_
    intro e he
    simp only [List.mem_cons, List.not_mem_nil, or_false] at he
    rcases he with rfl | rfl
    · have k1 : Ext w2 (w2.drew.alloc (.cells #[] 3)) := (by repeat (with_reducible (first | assumption | exact Ext.refl _ | apply Ext.alloc | apply Ext.drew | apply Ext.drewN)))
      have o1 : OwnInts w2.heap.size (w2.drew.alloc (.cells #[] 3)) (.slice (some ⟨w2.heap.size, 0, none⟩) 0 0) [] := OwnInts.fresh0 (Nat.le_refl _) (Blk.new w2.drew 3 [])
      (unfold wpComes; simp only [List.getElem?_toArray, List.getElem?_cons_succ, List.getElem?_cons_zero, Option.some.injEq]; refine ⟨_, rfl, fun K hK => ?_⟩)
      go_wp2
      refine hK _ _ (.inr (fun b _ hb => Ext.block k1 (by omega))) ?_
      clear hK K
      refine wpZ_stage (fuel := 4) [] [7, 10] (by kernel_rfl) (fun b _ hb => Ext.block k1 (by omega)) ?_
      refine wpQuiet_nil ?_
      intro e he
      simp only [List.mem_cons, List.not_mem_nil, or_false] at he
      rcases he with rfl | rfl
      · (unfold wpComes; simp only [List.getElem?_toArray, List.getElem?_cons_succ, List.getElem?_cons_zero, Option.some.injEq]; refine ⟨_, rfl, fun K hK => ?_⟩)
        refine wpList_append_ints _ rfl _ _ rfl w2.heap.size (.slice (some ⟨w2.heap.size, 0, none⟩) 0 0) [] t.px rfl o1 bx off cap rfl (fun i y hy => by
          obtain ⟨i1, b', o', e', _, h3, h4⟩ := HU.cell i y hy
          cases e'
          exact ⟨i1, ((HX2.out.trans k1).cells.1 bx _ (by omega)).trans h4⟩) (by simp; omega) k1.size ?_
        intro v7 w7 hown7 hg7
        have u7 : Ext w2 w7 := Ext.grown k1 hg7 (fun k hk => (o1.lt k hk).1)
        go_wp2_with fail
        refine hK _ _ (.inr (fun b _ hb => Ext.block u7 (by omega))) ?_
        clear hK K
        obtain ⟨va7, vc7, hv7, _⟩ := hown7.form
        simp only [List.nil_append] at hown7 hv7
        subst hv7
        refine wpZ_stage (fuel := 1) [8, 9] [10] (by kernel_rfl) (fun b _ hb => Ext.block u7 (by omega)) ?_
        try simp only [Act.put, List.setIfInBounds_toArray, List.set_cons_succ, List.set_cons_zero]
        simp only [List.filterMap_cons, List.filterMap_nil, List.getElem?_toArray, List.getElem?_cons_zero, List.getElem?_cons_succ]
        show wpQuiet _ _ _ _ [_, _] _
        repeat (go_big_quiet_step (fail))
        refine wpQuiet_nil ?_
        intro e he
        simp only [List.mem_cons, List.not_mem_nil, or_false] at he
        subst he
        have k8 : Ext w2 (w7.alloc (.cells #[.int .i64 0, .slice none 0 0, .int .i64 0, .int .i64 0, .slice none 0 0] 33)) := Ext.alloc u7 _
        (unfold wpComes; simp only [List.getElem?_toArray, List.getElem?_cons_succ, List.getElem?_cons_zero, Option.some.injEq]; refine ⟨_, rfl, fun K hK => ?_⟩)
        go_wp2
        refine hK _ _ (.inr (fun b _ hb => Ext.block (w := w2) (show Ext w2 _ from Ext.alloc u7 _) (by omega))) ?_
        clear hK K
        refine wpZ_stage (fuel := 0) [] [11] (by kernel_rfl) (fun b _ hb => Ext.block k8 (by omega)) ?_
        refine wpQuiet_nil ?_
        intro e he
        simp only [List.mem_cons, List.not_mem_nil, or_false] at he
        subst he
        (unfold wpComes; simp only [List.getElem?_toArray, List.getElem?_cons_succ, List.getElem?_cons_zero, Option.some.injEq]; refine ⟨_, rfl, fun K hK => ?_⟩)
        go_wp2
        refine hK _ _ (.inl (by trivial)) ?_
        clear hK K
        refine wpZ_end (by kernel_rfl) ?_
        go_wp2_with fail
        go_meet
        exact ⟨w7.heap.size, _, rfl, u7.size, Blk.new w7 33 [.int .i64 (n : Nat), .slice none 0 0, .int .i64 tm, .int .i64 t.log, .slice va7 t.px.length vc7], hown7.alloc _, Ext.alloc u7 _⟩
      · have g1 : Ext w2 ((w2.drew.alloc (.cells #[] 3)).alloc (.cells #[.int .i64 0, .slice none 0 0, .int .i64 0, .int .i64 0, .slice none 0 0] 33)) := (by repeat (with_reducible (first | assumption | exact Ext.refl _ | apply Ext.alloc | apply Ext.drew | apply Ext.drewN)))
        have o2 := o1.alloc (.cells #[.int .i64 0, .slice none 0 0, .int .i64 0, .int .i64 0, .slice none 0 0] 33)
        have n2 := Blk.new (w2.drew.alloc (.cells #[] 3)) 33 [.int .i64 0, .slice none 0 0, .int .i64 0, .int .i64 0, .slice none 0 0]
        rw [World.size_alloc, show w2.drew.heap.size = w2.heap.size from rfl] at n2
        (unfold wpComes; simp only [List.getElem?_toArray, List.getElem?_cons_succ, List.getElem?_cons_zero, Option.some.injEq]; refine ⟨_, rfl, fun K hK => ?_⟩)
        go_wp2
        refine hK _ _ (.inr (fun b _ hb => Ext.block g1 (by omega))) ?_
        clear hK K
        refine wpZ_stage (fuel := 3) [] [7] (by kernel_rfl) (fun b _ hb => Ext.block g1 (by omega)) ?_
        refine wpQuiet_nil ?_
        intro e he
        simp only [List.mem_cons, List.not_mem_nil, or_false] at he
        subst he
        (unfold wpComes; simp only [List.getElem?_toArray, List.getElem?_cons_succ, List.getElem?_cons_zero, Option.some.injEq]; refine ⟨_, rfl, fun K hK => ?_⟩)
        refine wpList_append_ints _ rfl _ _ rfl w2.heap.size (.slice (some ⟨w2.heap.size, 0, none⟩) 0 0) [] t.px rfl o2 bx off cap rfl (fun i y hy => by
          obtain ⟨i1, b', o', e', _, h3, h4⟩ := HU.cell i y hy
          cases e'
          exact ⟨i1, ((HX2.out.trans g1).cells.1 bx _ (by omega)).trans h4⟩) (by simp; omega) g1.size ?_
        intro v7 w7 hown7 hg7
        have u7 : Ext w2 w7 := Ext.grown g1 hg7 (fun k hk => (o2.lt k hk).1)
        go_wp2_with fail
        refine hK _ _ (.inr (fun b _ hb => Ext.block u7 (by omega))) ?_
        clear hK K
        obtain ⟨va7, vc7, hv7, _⟩ := hown7.form
        simp only [List.nil_append] at hown7 hv7
        subst hv7
        have n3 := n2.grown hg7 (by simp [Value.ownBlock])
        refine wpZ_stage (fuel := 0) [8, 9] [11] (by kernel_rfl) (fun b _ hb => Ext.block u7 (by omega)) ?_
        try simp only [Act.put, List.setIfInBounds_toArray, List.set_cons_succ, List.set_cons_zero]
        simp only [List.filterMap_cons, List.filterMap_nil, List.getElem?_toArray, List.getElem?_cons_zero, List.getElem?_cons_succ]
        show wpQuiet _ _ _ _ [_, _] _
        repeat (go_big_quiet_step (fail))
        refine wpQuiet_nil ?_
        intro e he
        simp only [List.mem_cons, List.not_mem_nil, or_false] at he
        subst he
        (unfold wpComes; simp only [List.getElem?_toArray, List.getElem?_cons_succ, List.getElem?_cons_zero, Option.some.injEq]; refine ⟨_, rfl, fun K hK => ?_⟩)
        have hbk := n3
        have p0 := hbk.cell 0 rfl
        have p1 := hbk.cell 1 rfl
        have p2 := hbk.cell 2 rfl
        have p3 := hbk.cell 3 rfl
        have p4 := hbk.cell 4 rfl
        have f0 := hbk.free 0
        have f1 := hbk.free 1
        have f2 := hbk.free 2
        have f3 := hbk.free 3
        have f4 := hbk.free 4
        have hlA : w2.heap.size ≤ (w2.heap.size + 1) := by first | omega | (simp; omega)
        have hneA : ∀ k, (Value.slice va7 t.px.length vc7).ownBlock = some k → k ≠ (w2.heap.size + 1) := fun k hk e => by
          obtain ⟨c, hc⟩ := (hown7).block hk
          rw [e] at hc
          unfold Blk at hbk
          rw [hbk] at hc
          simp only [Option.some.injEq, Obj.cells.injEq] at hc
          exact absurd hc.2.1 (by decide)
        have hxx : Ext w2 ((((((((((w7).setCell ⟨(w2.heap.size + 1), 0, none⟩ (.int .i64 (n : Nat)))).setCell ⟨(w2.heap.size + 1), 1, none⟩ (.slice none 0 0))).setCell ⟨(w2.heap.size + 1), 2, none⟩ (.int .i64 tm))).setCell ⟨(w2.heap.size + 1), 3, none⟩ (.int .i64 t.log))).setCell ⟨(w2.heap.size + 1), 4, none⟩ (.slice va7 t.px.length vc7)) := Ext.setCell (Ext.setCell (Ext.setCell (Ext.setCell (Ext.setCell u7 hlA _) hlA _) hlA _) hlA _) hlA _
        have hbb : Blk ((((((((((w7).setCell ⟨(w2.heap.size + 1), 0, none⟩ (.int .i64 (n : Nat)))).setCell ⟨(w2.heap.size + 1), 1, none⟩ (.slice none 0 0))).setCell ⟨(w2.heap.size + 1), 2, none⟩ (.int .i64 tm))).setCell ⟨(w2.heap.size + 1), 3, none⟩ (.int .i64 t.log))).setCell ⟨(w2.heap.size + 1), 4, none⟩ (.slice va7 t.px.length vc7)) ((w2.heap.size + 1)) 33 [.int .i64 (n : Nat), .slice none 0 0, .int .i64 tm, .int .i64 t.log, .slice va7 t.px.length vc7] := ((((hbk.set 0 _).set 1 _).set 2 _).set 3 _).set 4 _
        have hoo : OwnInts w2.heap.size ((((((((((w7).setCell ⟨(w2.heap.size + 1), 0, none⟩ (.int .i64 (n : Nat)))).setCell ⟨(w2.heap.size + 1), 1, none⟩ (.slice none 0 0))).setCell ⟨(w2.heap.size + 1), 2, none⟩ (.int .i64 tm))).setCell ⟨(w2.heap.size + 1), 3, none⟩ (.int .i64 t.log))).setCell ⟨(w2.heap.size + 1), 4, none⟩ (.slice va7 t.px.length vc7)) (.slice va7 t.px.length vc7) t.px := ((((((hown7).setOther (a := ⟨(w2.heap.size + 1), 0, none⟩) (fun e => hneA _ e rfl) _).setOther (a := ⟨(w2.heap.size + 1), 1, none⟩) (fun e => hneA _ e rfl) _).setOther (a := ⟨(w2.heap.size + 1), 2, none⟩) (fun e => hneA _ e rfl) _).setOther (a := ⟨(w2.heap.size + 1), 3, none⟩) (fun e => hneA _ e rfl) _).setOther (a := ⟨(w2.heap.size + 1), 4, none⟩) (fun e => hneA _ e rfl) _)
        go_wp2
        refine hK _ _ (.inl (by trivial)) ?_
        clear hK K
        refine wpZ_end (by kernel_rfl) ?_
        go_wp2_with fail
        go_meet
        exact ⟨(w2.heap.size + 1), _, rfl, hlA, hbb, hoo, hxx⟩
    · have g1 : Ext w2 (w2.drew.alloc (.cells #[.int .i64 0, .slice none 0 0, .int .i64 0, .int .i64 0, .slice none 0 0] 33)) := (by repeat (with_reducible (first | assumption | exact Ext.refl _ | apply Ext.alloc | apply Ext.drew | apply Ext.drewN)))
      have n2 := Blk.new w2.drew 33 [.int .i64 0, .slice none 0 0, .int .i64 0, .int .i64 0, .slice none 0 0]
      rw [show w2.drew.heap.size = w2.heap.size from rfl] at n2
      (unfold wpComes; simp only [List.getElem?_toArray, List.getElem?_cons_succ, List.getElem?_cons_zero, Option.some.injEq]; refine ⟨_, rfl, fun K hK => ?_⟩)
      go_wp2
      refine hK _ _ (.inr (fun b _ hb => Ext.block g1 (by omega))) ?_
      clear hK K
      refine wpZ_stage (fuel := 4) [] [4] (by kernel_rfl) (fun b _ hb => Ext.block g1 (by omega)) ?_
      refine wpQuiet_nil ?_
      intro e he
      simp only [List.mem_cons, List.not_mem_nil, or_false] at he
      subst he
      have g2 : Ext w2 ((w2.drew.alloc (.cells #[.int .i64 0, .slice none 0 0, .int .i64 0, .int .i64 0, .slice none 0 0] 33)).alloc (.cells #[] 3)) := (by repeat (with_reducible (first | assumption | exact Ext.refl _ | apply Ext.alloc | apply Ext.drew | apply Ext.drewN)))
      have n3 := n2.ext (show Ext _ ((w2.drew.alloc (.cells #[.int .i64 0, .slice none 0 0, .int .i64 0, .int .i64 0, .slice none 0 0] 33)).alloc (.cells #[] 3)) from (by repeat (with_reducible (first | assumption | exact Ext.refl _ | apply Ext.alloc | apply Ext.drew | apply Ext.drewN))))
      have b2 := Blk.new (w2.drew.alloc (.cells #[.int .i64 0, .slice none 0 0, .int .i64 0, .int .i64 0, .slice none 0 0] 33)) 3 []
      rw [World.size_alloc, show w2.drew.heap.size = w2.heap.size from rfl] at b2
      have o2 : OwnInts w2.heap.size ((w2.drew.alloc (.cells #[.int .i64 0, .slice none 0 0, .int .i64 0, .int .i64 0, .slice none 0 0] 33)).alloc (.cells #[] 3)) (.slice (some ⟨w2.heap.size + 1, 0, none⟩) 0 0) [] := OwnInts.fresh0 (by omega) b2
      (unfold wpComes; simp only [List.getElem?_toArray, List.getElem?_cons_succ, List.getElem?_cons_zero, Option.some.injEq]; refine ⟨_, rfl, fun K hK => ?_⟩)
      go_wp2
      refine hK _ _ (.inr (fun b _ hb => Ext.block g2 (by omega))) ?_
      clear hK K
      refine wpZ_stage (fuel := 3) [] [7] (by kernel_rfl) (fun b _ hb => Ext.block g2 (by omega)) ?_
      refine wpQuiet_nil ?_
      intro e he
      simp only [List.mem_cons, List.not_mem_nil, or_false] at he
      subst he
      (unfold wpComes; simp only [List.getElem?_toArray, List.getElem?_cons_succ, List.getElem?_cons_zero, Option.some.injEq]; refine ⟨_, rfl, fun K hK => ?_⟩)
      refine wpList_append_ints _ rfl _ _ rfl w2.heap.size (.slice (some ⟨w2.heap.size + 1, 0, none⟩) 0 0) [] t.px rfl o2 bx off cap rfl (fun i y hy => by
        obtain ⟨i1, b', o', e', _, h3, h4⟩ := HU.cell i y hy
        cases e'
        exact ⟨i1, ((HX2.out.trans g2).cells.1 bx _ (by omega)).trans h4⟩) (by simp; omega) g2.size ?_
      intro v7 w7 hown7 hg7
      have u7 : Ext w2 w7 := Ext.grown g2 hg7 (fun k hk => (o2.lt k hk).1)
      go_wp2_with fail
      refine hK _ _ (.inr (fun b _ hb => Ext.block u7 (by omega))) ?_
      clear hK K
      obtain ⟨va7, vc7, hv7, _⟩ := hown7.form
      simp only [List.nil_append] at hown7 hv7
      subst hv7
      have n4 := n3.grown hg7 (by simp [Value.ownBlock])
      refine wpZ_stage (fuel := 0) [8, 9] [11] (by kernel_rfl) (fun b _ hb => Ext.block u7 (by omega)) ?_
      try simp only [Act.put, List.setIfInBounds_toArray, List.set_cons_succ, List.set_cons_zero]
      simp only [List.filterMap_cons, List.filterMap_nil, List.getElem?_toArray, List.getElem?_cons_zero, List.getElem?_cons_succ]
      show wpQuiet _ _ _ _ [_, _] _
      repeat (go_big_quiet_step (fail))
      refine wpQuiet_nil ?_
      intro e he
      simp only [List.mem_cons, List.not_mem_nil, or_false] at he
      subst he
      (unfold wpComes; simp only [List.getElem?_toArray, List.getElem?_cons_succ, List.getElem?_cons_zero, Option.some.injEq]; refine ⟨_, rfl, fun K hK => ?_⟩)
      have hbk := n4
      have p0 := hbk.cell 0 rfl
      have p1 := hbk.cell 1 rfl
      have p2 := hbk.cell 2 rfl
      have p3 := hbk.cell 3 rfl
      have p4 := hbk.cell 4 rfl
      have f0 := hbk.free 0
      have f1 := hbk.free 1
      have f2 := hbk.free 2
      have f3 := hbk.free 3
      have f4 := hbk.free 4
      have hlA : w2.heap.size ≤ w2.heap.size := by first | omega | (simp; omega)
      have hneA : ∀ k, (Value.slice va7 t.px.length vc7).ownBlock = some k → k ≠ w2.heap.size := fun k hk e => by
        obtain ⟨c, hc⟩ := (hown7).block hk
        rw [e] at hc
        unfold Blk at hbk
        rw [hbk] at hc
        simp only [Option.some.injEq, Obj.cells.injEq] at hc
        exact absurd hc.2.1 (by decide)
      have hxx : Ext w2 ((((((((((w7).setCell ⟨w2.heap.size, 0, none⟩ (.int .i64 (n : Nat)))).setCell ⟨w2.heap.size, 1, none⟩ (.slice none 0 0))).setCell ⟨w2.heap.size, 2, none⟩ (.int .i64 tm))).setCell ⟨w2.heap.size, 3, none⟩ (.int .i64 t.log))).setCell ⟨w2.heap.size, 4, none⟩ (.slice va7 t.px.length vc7)) := Ext.setCell (Ext.setCell (Ext.setCell (Ext.setCell (Ext.setCell u7 hlA _) hlA _) hlA _) hlA _) hlA _
      have hbb : Blk ((((((((((w7).setCell ⟨w2.heap.size, 0, none⟩ (.int .i64 (n : Nat)))).setCell ⟨w2.heap.size, 1, none⟩ (.slice none 0 0))).setCell ⟨w2.heap.size, 2, none⟩ (.int .i64 tm))).setCell ⟨w2.heap.size, 3, none⟩ (.int .i64 t.log))).setCell ⟨w2.heap.size, 4, none⟩ (.slice va7 t.px.length vc7)) (w2.heap.size) 33 [.int .i64 (n : Nat), .slice none 0 0, .int .i64 tm, .int .i64 t.log, .slice va7 t.px.length vc7] := ((((hbk.set 0 _).set 1 _).set 2 _).set 3 _).set 4 _
      have hoo : OwnInts w2.heap.size ((((((((((w7).setCell ⟨w2.heap.size, 0, none⟩ (.int .i64 (n : Nat)))).setCell ⟨w2.heap.size, 1, none⟩ (.slice none 0 0))).setCell ⟨w2.heap.size, 2, none⟩ (.int .i64 tm))).setCell ⟨w2.heap.size, 3, none⟩ (.int .i64 t.log))).setCell ⟨w2.heap.size, 4, none⟩ (.slice va7 t.px.length vc7)) (.slice va7 t.px.length vc7) t.px := ((((((hown7).setOther (a := ⟨w2.heap.size, 0, none⟩) (fun e => hneA _ e rfl) _).setOther (a := ⟨w2.heap.size, 1, none⟩) (fun e => hneA _ e rfl) _).setOther (a := ⟨w2.heap.size, 2, none⟩) (fun e => hneA _ e rfl) _).setOther (a := ⟨w2.heap.size, 3, none⟩) (fun e => hneA _ e rfl) _).setOther (a := ⟨w2.heap.size, 4, none⟩) (fun e => hneA _ e rfl) _)
      go_wp2
      refine hK _ _ (.inl (by trivial)) ?_
      clear hK K
      refine wpZ_end (by kernel_rfl) ?_
      go_wp2_with fail
      go_meet
      exact ⟨w2.heap.size, _, rfl, hlA, hbb, hoo, hxx⟩
  case rest =>
    obtain ⟨A, tu, rfl, hA, B3, O3, E3⟩ := hcut
    obtain ⟨tua, tuc, rfl, -⟩ := O3.form
    have S3 : GSt w2.heap.size n tm t f A w.heap.size (w.heap.size + 1 + 1) (.slice tua t.px.length tuc) w wc [] (.slice none 0 0) :=
      ⟨HX2.out.trans E3, R2.out.ext E3, Q2.out.ext E3, B3, OwnG.nil _ _ _ _ _, O3, (fun _ h => nomatch h)⟩
    have HS3 := hid S3
    have zQ := Q2.out.lt
    clear R2 T2 Q2 HX2 t0 t1 zt B3 O3 E3 S3
    go_wp2_with fail
    go_loopw [11] (fun v wr => ∃ (j : Nat) (ps : List Pt) (pu : Value), j ≤ n ∧ v = .int .i64 (j : Nat) ∧ ps.length = j * n ∧ GSt w2.heap.size n tm t f A w.heap.size (w.heap.size + 1 + 1) (.slice tua t.px.length tuc) w wr ps pu) (fun v _ => n - (intOf v).toNat)
    case atStart => exact ⟨0, [], _, by omega, rfl, by simp, HS3.out⟩
    case round =>
      obtain ⟨j, ps, pu, hj, rfl, hpl, hs⟩ := hrel
      have HPL := hid hpl
      clear hpl
      have HS := hid hs
      clear hs HS3
      by_cases hlt : j < n
      · go_wp2_with fail
        go_loopw [12] (fun v wr => ∃ (i : Nat) (ps : List Pt) (pu : Value), i ≤ n ∧ v = .int .i64 (i : Nat) ∧ ps.length = j * n + i ∧ GSt w2.heap.size n tm t f A w.heap.size (w.heap.size + 1 + 1) (.slice tua t.px.length tuc) w wr ps pu) (fun v _ => n - (intOf v).toNat)
        case atStart => exact ⟨0, ps, pu, by omega, rfl, HPL.out, HS.out⟩
        case round =>
          obtain ⟨i, ps, pu, hi', rfl, hpl, hs⟩ := hrel
          have HPL2 := hid hpl
          clear hpl
          have HS4 := hid hs
          clear hs HS
          by_cases hlti : i < n
          · have hR := HS4.out.pat
            have c0 := hR.cell (i := 0) (by decide)
            have c1 := hR.cell (i := 1) (by decide)
            have c2 := hR.cell (i := 2) (by decide)
            have c3 := hR.cell (i := 3) (by decide)
            have c4 := hR.cell (i := 4) (by decide)
            have c5 := hR.cell (i := 5) (by decide)
            have c6 := hR.cell (i := 6) (by decide)
            have c7 := hR.cell (i := 7) (by decide)
            have c8 := hR.cell (i := 8) (by decide)
            have c9 := hR.cell (i := 9) (by decide)
            have c10 := hR.cell (i := 10) (by decide)
            have c11 := hR.cell (i := 11) (by decide)
            go_wp2_with fail
            refine (sEvalPatch_any f hf n i j hn hlti hlt _).mono ?_
            rintro e w3 ⟨x, y, z, rfl, hbx', hby', hbz', x3⟩
            have y3 : Ext w3 (w3.alloc (.cells #[.int .i64 x, .int .i64 y, .int .i64 z] 106)) := (by repeat (with_reducible (first | assumption | exact Ext.refl _ | apply Ext.alloc | apply Ext.drew | apply Ext.drewN)))
            have v3 := Blk.new w3 106 [.int .i64 x, .int .i64 y, .int .i64 z]
            have HS5 := hid (HS4.out.to (x3.trans y3))
            have HV5 := hid v3
            have z3 := x3.size
            have b1 := HS5.out.box.cell 1 rfl
            have fb1 := HS5.out.box.free 1
            have zA := HS5.out.box.lt
            have zA3 : A < w3.heap.size := by
              have := HS4.out.box.lt
              omega
            obtain ⟨pa, pc, rfl, -⟩ := OwnG.form HS5.out.pts
            clear x3 y3 v3 c0 c1 c2 c3 c4 c5 c6 c7 c8 c9 c10 c11 hR HS4
            go_wp2_with fail
            refine wp_region_stagesS [([0, 1, 2, 3, 4, 5, 6, 7, 8, 9, 10, 11, 12, 13, 14, 15, 16], 17), ([], 18), ([19], 20)] 20 (fun w' => ∃ d, w' = lowc (C2b A w3.heap.size) _ d) (by kernel_rfl) (by kernel_rfl) (SC.drew _ _) ?_
            refine wpStagesS_cons ?_
            simp only [List.filterMap_cons, List.filterMap_nil, List.getElem?_toArray, List.getElem?_cons_zero, List.getElem?_cons_succ]
            show wpQuiet _ _ _ _ [_, _, _, _, _, _, _, _, _, _, _, _, _, _, _, _, _] _
            repeat (go_big_quiet_step (fail))
            refine wpQuiet_nil ⟨_, rfl, fun K hK => ?_⟩
            go_wp2_with fail
            have y8 : Ext (w3.alloc (.cells #[.int .i64 x, .int .i64 y, .int .i64 z] 106)) (((w3.alloc (.cells #[.int .i64 x, .int .i64 y, .int .i64 z] 106)).alloc (.cells #[.int .i64 ((i : Int) * 256 / (n : Int)), .int .i64 ((j : Int) * 256 / (n : Int)), .int .i64 x, .int .i64 y, .int .i64 z] 157)).drew) := (by repeat (first | with_reducible assumption | with_reducible exact Ext.refl _ | with_reducible apply Ext.alloc | with_reducible apply Ext.drew | with_reducible apply Ext.drewN | (with_reducible refine Ext.setCell ?_ (by simp; omega) _) | (with_reducible refine Ext.setCell ?_ (by simp) _)))
            have b8 := (Blk.new (w3.alloc (.cells #[.int .i64 x, .int .i64 y, .int .i64 z] 106)) 157 [.int .i64 ((i : Int) * 256 / (n : Int)), .int .i64 ((j : Int) * 256 / (n : Int)), .int .i64 x, .int .i64 y, .int .i64 z]).ext (show Ext _ (((w3.alloc (.cells #[.int .i64 x, .int .i64 y, .int .i64 z] 106)).alloc (.cells #[.int .i64 ((i : Int) * 256 / (n : Int)), .int .i64 ((j : Int) * 256 / (n : Int)), .int .i64 x, .int .i64 y, .int .i64 z] 157)).drew) from (by repeat (first | with_reducible assumption | with_reducible exact Ext.refl _ | with_reducible apply Ext.alloc | with_reducible apply Ext.drew | with_reducible apply Ext.drewN | (with_reducible refine Ext.setCell ?_ (by simp; omega) _) | (with_reducible refine Ext.setCell ?_ (by simp) _))))
            rw [World.size_alloc] at b8
            refine hK _ _ (.inr (SC.blocks fun a ha => ?_)) ?_
            · rcases ha with ha | ha
              · exact y8.block (by rw [ha, World.size_alloc]; omega)
              · exact y8.block (by rw [ha, World.size_alloc]; omega)
            clear hK K
            have HS8 := hid (HS5.out.to y8)
            have HB8 := hid b8
            have HY8 := hid y8
            have z8 := y8.size
            rw [World.size_alloc] at z8
            have hnn : j * n + i ≤ 64 := by
              have : j * n ≤ 4 * 4 := Nat.mul_le_mul (by omega) (by omega)
              omega
            clear y8 b8
            refine wpStagesS_cons ?_
            simp only [List.filterMap_nil]
            show wpQuiet _ _ _ _ [] _
            try simp only [Act.put, List.setIfInBounds_toArray, List.set_cons_succ, List.set_cons_zero]
            repeat (go_big_quiet_step (fail))
            refine wpQuiet_nil ⟨_, rfl, fun K hK => ?_⟩
            refine wpList_append_pt _ rfl _ _ rfl w2.heap.size (.slice pa ps.length pc) ps rfl HS8.out.pts ⟨(i : Int) * 256 / (n : Int), (j : Int) * 256 / (n : Int), x, y, z⟩ (w3.heap.size + 1) rfl (fun q hq => by
              rcases (show q = 0 ∨ q = 1 ∨ q = 2 ∨ q = 3 ∨ q = 4 by omega) with rfl | rfl | rfl | rfl | rfl
              · exact HB8.out.cell 0 rfl
              · exact HB8.out.cell 1 rfl
              · exact HB8.out.cell 2 rfl
              · exact HB8.out.cell 3 rfl
              · exact HB8.out.cell 4 rfl) (by have := HPL2.out; omega) (by omega) ?_
            intro pu2 w9 hown hg
            have hrow := OwnG.rowT HS8.out.pts
            have kA : w9.heap[A]? = (w3.alloc (.cells #[.int .i64 x, .int .i64 y, .int .i64 z] 106)).heap[A]? := (hg.block _ (by omega) (fun e => by
              obtain ⟨_, c, hc⟩ := hrow _ e.symm
              have hb := HS8.out.box
              unfold Blk at hb
              rw [hb] at hc
              simp only [Option.some.injEq, Obj.cells.injEq] at hc
              exact absurd hc.2.1 (by decide))).trans (HY8.out.block zA)
            have kV : w9.heap[w3.heap.size]? = (w3.alloc (.cells #[.int .i64 x, .int .i64 y, .int .i64 z] 106)).heap[w3.heap.size]? := (hg.block _ (by omega) (fun e => by
              obtain ⟨_, c, hc⟩ := hrow _ e.symm
              have hb := HV5.out.ext HY8.out
              unfold Blk at hb
              rw [hb] at hc
              simp only [Option.some.injEq, Obj.cells.injEq] at hc
              exact absurd hc.2.1 (by decide))).trans (HY8.out.block (by rw [World.size_alloc]; omega))
            have HS9 := hid (HS8.out.grow (by omega) zQ hA z2 hg hown (fun p hp => by
              rcases List.mem_append.1 hp with hp | hp
              · exact HS8.out.sm p hp
              · simp only [List.mem_cons, List.not_mem_nil, or_false] at hp
                subst hp
                intro u hu
                simp only [Pt.ls, List.mem_cons, List.not_mem_nil, or_false] at hu
                rcases hu with rfl | rfl | rfl | rfl | rfl
                · exact uv_sm hn.1 hlti
                · exact uv_sm hn.1 hlt
                · exact hbx'
                · exact hby'
                · exact hbz'))
            have B9 := HS5.out.box.of kA
            have e1 := B9.cell 1 rfl
            have g1 := B9.free 1
            go_wp2_with fail
            refine hK _ _ (.inr (SC.blocks fun a ha => ?_)) ?_
            · rcases ha with ha | ha
              · rw [ha]; exact kA
              · rw [ha]; exact kV
            clear hK K
            obtain ⟨pa2, pc2, hv, _⟩ := OwnG.form hown
            have hll : (ps ++ [(⟨(i : Int) * 256 / (n : Int), (j : Int) * 256 / (n : Int), x, y, z⟩ : Pt)]).length = ps.length + 1 := by simp
            rw [hll] at hv
            subst hv
            clear hown hg hrow kA kV b1 fb1 B9
            refine wpStagesS_cons ?_
            simp only [List.filterMap_cons, List.filterMap_nil, List.getElem?_toArray, List.getElem?_cons_zero, List.getElem?_cons_succ]
            show wpQuiet _ _ _ _ [_] _
            simp only [Act.put, List.setIfInBounds_toArray, List.set_cons_succ, List.set_cons_zero, List.getElem_toArray, List.getElem_cons_succ, List.getElem_cons_zero]
            repeat (go_big_quiet_step (fail))
            refine wpQuiet_nil ⟨_, rfl, fun K hK => ?_⟩
            go_wp2_with fail
            refine hK _ _ (.inl trivial) ?_
            clear hK K
            refine wpStagesS_nil ?_
            go_wp2
            go_roundw
            case rel => exact ⟨i + 1, ps ++ [(⟨(i : Int) * 256 / (n : Int), (j : Int) * 256 / (n : Int), x, y, z⟩ : Pt)], _, by omega, by go_num, by have := HPL2.out; omega, HS9.out⟩
            case measure => simp [intOf]; omega
          · obtain rfl : i = n := by omega
            go_wp2
            go_roundw
            case rel => exact ⟨j + 1, ps, pu, by omega, by go_num, by rw [HPL2.out, Nat.succ_mul], HS4.out⟩
            case measure => simp [intOf]; omega
      · obtain rfl : j = n := by omega
        have b0 := HS.out.box.cell 0 rfl
        have b1 := HS.out.box.cell 1 rfl
        have b2 := HS.out.box.cell 2 rfl
        have b3 := HS.out.box.cell 3 rfl
        have b4 := HS.out.box.cell 4 rfl
        have q0 := HS.out.res.cell 0 rfl
        have q1 := HS.out.res.cell 1 rfl
        have q2 := HS.out.res.cell 2 rfl
        have q3 := HS.out.res.cell 3 rfl
        have q4 := HS.out.res.cell 4 rfl
        have g0 := HS.out.res.free 0
        have g1 := HS.out.res.free 1
        have g2 := HS.out.res.free 2
        have g3 := HS.out.res.free 3
        have g4 := HS.out.res.free 4
        have zq := HS.out.res.lt
        have za := HS.out.box.lt
        obtain ⟨pa, pc, rfl, -⟩ := OwnG.form HS.out.pts
        go_wp2
        refine bodyPost_ret (v := .tuple #[.agg #[.int .i64 (j : Nat), .slice pa ps.length pc, .int .i64 tm, .int .i64 t.log, .slice tua t.px.length tuc], .bool true]) (by simp [results, Tryz.results48, go_sem, *]) rfl ?_
        have hex := HS.out.ext
        have hzz := hex.size
        refine ⟨⟨(j : Nat), ps.length, ptF ps, tm, t⟩, _, rfl, ⟨_, _, rfl, ⟨by show (-9223372036854775808 : Int) ≤ ((j : Nat) : Int); omega, by show ((j : Nat) : Int) ≤ 9223372036854775807; omega⟩, ⟨by show (-9223372036854775808 : Int) ≤ tm; omega, by show tm ≤ 9223372036854775807; omega⟩, tlog, (((OwnPts.flats HS.out.pts HS.out.sm).same (set5_same wr zQ _ _ _ _ _)).wide z2 (by simp)), ((HS.out.tex.ints.same (set5_same wr zQ _ _ _ _ _)).wide z2 (by simp))⟩, ?_, (by repeat (first | with_reducible assumption | with_reducible exact Ext.refl _ | with_reducible apply Ext.alloc | with_reducible apply Ext.drew | with_reducible apply Ext.drewN | (with_reducible refine Ext.setCell ?_ (by simp; omega) _) | (with_reducible refine Ext.setCell ?_ (by simp) _)))⟩
        unfold Grd.okB
        simp only [Bool.and_eq_true]
        refine ⟨⟨⟨⟨HN.out, decide_eq_true ?_⟩, HM.out⟩, HK.out⟩, rng_all (fun i _ => ptB_small HS.out.sm i)⟩
        have := HPL.out
        rw [this]
        exact Int.natCast_mul j j
end Go.Proofs.YtaegmenjgjdimaaGreat
end

section
/- This text proves the draw of grids: a valid grid. -/
namespace Go.Proofs.YtaegmenjgjdimaaGreat
open Go.RowKit

theorem sGridOf_at (lo hi : Nat) (f : Nat → Int) (hf : SmF f) (c : Int) (hc : 1 ≤ c ∧ c ≤ 4) (tm : Int) (htm : 0 ≤ tm ∧ tm ≤ 256) (tv : Value) (t : Tex) (w : World) (ht : TexR lo hi w tv t) (hh : hi ≤ w.heap.size) (hok : t.Ok) :
    Calls Tryz.prog 48 #[.agg #[.int .i64 (f 0), .int .i64 (f 1), .int .i64 (f 2), .int .i64 (f 3), .int .i64 (f 4), .int .i64 (f 5), .int .i64 (f 6), .int .i64 (f 7), .int .i64 (f 8), .int .i64 (f 9), .int .i64 (f 10), .int .i64 (f 11)], .int .i64 c, .int .i64 tm, tv] w fun e w' => ∃ (g : Grd) (v : Value), e = .returned (.tuple #[v, .bool true]) ∧ g.R w.heap.size w'.heap.size w' v ∧ g.okB = true ∧ Ext w w' := by
  obtain ⟨n, rfl⟩ : ∃ n : Nat, c = (n : Int) := ⟨c.toNat, by omega⟩
  exact sGridOf_any lo hi f hf n (by omega) tm htm tv t w ht hh hok
theorem Grd.R.form {g : Grd} {lo hi : Nat} {w : World} {v : Value} (h : g.R lo hi w v) : ∃ a1 c1 a2 c2, v = .agg #[.int .i64 g.n, .slice a1 g.m c1, .int .i64 g.tm, .int .i64 g.t.log, .slice a2 g.t.px.length c2] := by
  obtain ⟨pu, tu, rfl, _, _, _, hp, hu⟩ := h
  obtain ⟨a1, c1, rfl, _⟩ := hp
  obtain ⟨a2, c2, rfl, _⟩ := hu
  exact ⟨a1, c1, a2, c2, rfl⟩
theorem Grd.R.set5 {g : Grd} {lo hi l2 Q : Nat} {w : World} {v : Value} (h : g.R lo hi w v) (hQ : Q < lo) (hl : l2 ≤ lo) (hh : hi ≤ w.heap.size) (a b c d e : Value) : g.R l2 (((((w.setCell ⟨Q, 0, none⟩ a).setCell ⟨Q, 1, none⟩ b).setCell ⟨Q, 2, none⟩ c).setCell ⟨Q, 3, none⟩ d).setCell ⟨Q, 4, none⟩ e).heap.size (((((w.setCell ⟨Q, 0, none⟩ a).setCell ⟨Q, 1, none⟩ b).setCell ⟨Q, 2, none⟩ c).setCell ⟨Q, 3, none⟩ d).setCell ⟨Q, 4, none⟩ e) v :=
  (h.same (set5_same w hQ a b c d e)).wide hl (by simp only [World.size_setCell]; exact hh)
set_option maxRecDepth 10000 in
set_option maxHeartbeats 3200000 in
theorem l17Grid_any (hi B : Nat) (w : World) (hc : Cur hi w B) : Calls Tryz.prog 21 #[.pointer (some ⟨B, 0, none⟩)] w fun e w' => ∃ (g : Grd) (v : Value), e = .returned v ∧ g.R w.heap.size w'.heap.size w' v ∧ g.okB = true ∧ Gr B w w' := by
  have zB := hc.lt
  have q0 := Blk.new w 33 [.int .i64 0, .slice none 0 0, .int .i64 0, .int .i64 0, .slice none 0 0]
  have x1 : Ext w (w.alloc (.cells #[.int .i64 0, .slice none 0 0, .int .i64 0, .int .i64 0, .slice none 0 0] 33)) := (by repeat (with_reducible (first | assumption | exact Ext.refl _ | apply Ext.alloc | apply Ext.drew | apply Ext.drewN)))
  have HC1 := hid (hc.ext x1)
  have HQ := hid q0
  have HX := hid x1
  have z1 : (w.alloc (.cells #[.int .i64 0, .slice none 0 0, .int .i64 0, .int .i64 0, .slice none 0 0] 33)).heap.size = w.heap.size + 1 := World.size_alloc _ _
  clear hc q0 x1
  go_enter Tryz.func21, Tryz.ntmps21
  go_wp2_with fail
  refine (l05Draw_any hi B _ HC1.out).mono ?_
  rintro e w2 ⟨f, rfl, hf, C2, G2⟩
  go_wp2_with fail
  refine (l01Below_any hi B 4 _ C2 (by decide) ⟨by decide, by decide⟩).mono ?_
  rintro e w3 ⟨x, rfl, hx, C3, G3⟩
  go_wp2_with fail
  refine (l01Below_any hi B 257 _ C3 (by decide) ⟨by decide, by decide⟩).mono ?_
  rintro e w4 ⟨tm, rfl, htm, C4, G4⟩
  go_wp2_with fail
  refine (l15Draw_any hi B _ C4).mono ?_
  rintro e w5 ⟨tv, t, rfl, O5, ok5, C5, G5⟩
  have G6 := hid (((G2.trans G3).trans G4).trans G5)
  have g6 := G6.out.size
  clear C2 C3 C4 C5 G2 G3 G4 G5
  obtain ⟨tu, rfl, hlog, o5⟩ := O5
  obtain ⟨ta, tc, rfl, -⟩ := o5.form
  have HT := hid (show TexR w4.heap.size w5.heap.size w5 (.agg #[.int .i64 t.log, .slice ta t.px.length tc]) t from ⟨_, rfl, hlog, o5.ints⟩)
  clear o5
  go_wp2_with fail
  refine (sGridOf_at _ _ f hf (1 + x) (by omega) tm (by omega) _ t _ HT.out (Nat.le_refl _) ok5).mono ?_
  rintro e w7 ⟨g, v, rfl, R7, ok7, x7⟩
  obtain ⟨a1, c1, a2, c2, rfl⟩ := R7.form
  have HR := hid R7
  have r0 := (G6.out.blk HQ.out (by omega)).ext x7
  have HG7 := hid (G6.out.ext x7)
  have z7 := x7.size
  have q0 := r0.cell 0 rfl
  have q1 := r0.cell 1 rfl
  have q2 := r0.cell 2 rfl
  have q3 := r0.cell 3 rfl
  have q4 := r0.cell 4 rfl
  have f0 := r0.free 0
  have f1 := r0.free 1
  have f2 := r0.free 2
  have f3 := r0.free 3
  have f4 := r0.free 4
  have zr := r0.lt
  clear R7 x7 r0
  go_wp2
  refine bodyPost_ret (v := .agg #[.int .i64 g.n, .slice a1 g.m c1, .int .i64 g.tm, .int .i64 g.t.log, .slice a2 g.t.px.length c2]) (by simp [results, Tryz.results21, go_sem, *]) rfl ?_
  have GG : Gr B w w7 := ((Gr.refl B w).ext HX.out).trans HG7.out
  exact ⟨g, _, rfl, ((HR.out.set5 (Q := w.heap.size) (l2 := w.heap.size) (by omega) (by omega) (Nat.le_refl _) _ _ _ _ _).ext (Nat.le_refl _) (by repeat (with_reducible (first | assumption | exact Ext.refl _ | apply Ext.alloc | apply Ext.drew | apply Ext.drewN)))).wide (Nat.le_refl _) (by rw [World.size_alloc]; omega), ok7, (((((GG.setNew (Nat.le_refl _) _ _).setNew (Nat.le_refl _) _ _).setNew (Nat.le_refl _) _ _).setNew (Nat.le_refl _) _ _).setNew (Nat.le_refl _) _ _).ext (by repeat (with_reducible (first | assumption | exact Ext.refl _ | apply Ext.alloc | apply Ext.drew | apply Ext.drewN)))⟩
set_option maxHeartbeats 1600000 in
theorem MakeGrid_any (hi : Nat) (v : Value) (n : Nat) (w : World) (hv : Byts hi w v n) (hh : hi ≤ w.heap.size) (hn : n ≤ 1048576) :
    Calls Tryz.prog 7 #[v] w fun e w' => ∃ (g : Grd) (v : Value), e = .returned v ∧ g.R w.heap.size w'.heap.size w' v ∧ g.okB = true ∧ Ext w w' := by
  have HV := hid hv
  obtain ⟨a, cap, rfl, k1, k2⟩ := hv.open
  clear hv
  go_enter Tryz.func7, Tryz.ntmps7
  go_wp2_with fail
  refine (l32New_any hi _ n 4 _ (HV.out.ext hh (by repeat (with_reducible (first | assumption | exact Ext.refl _ | apply Ext.alloc | apply Ext.drew | apply Ext.drewN)))) (by simp; omega) hn (by decide)).mono ?_
  rintro e w1 ⟨B, rfl, hB, C1, x1⟩
  go_wp2_with fail
  refine (l17Grid_any hi B _ C1).mono ?_
  rintro e w2 ⟨g, v2, rfl, R2, ok2, G2⟩
  obtain ⟨a1, c1, a2, c2, rfl⟩ := R2.form
  rw [World.size_alloc] at hB
  have x1' : Ext w w1 := Ext.trans (by repeat (with_reducible (first | assumption | exact Ext.refl _ | apply Ext.alloc | apply Ext.drew | apply Ext.drewN))) x1
  have R0 := G2.blk ((Blk.new w 33 [.int .i64 0, .slice none 0 0, .int .i64 0, .int .i64 0, .slice none 0 0]).ext x1) (by omega)
  have q0 := R0.cell 0 rfl
  have q1 := R0.cell 1 rfl
  have q2 := R0.cell 2 rfl
  have q3 := R0.cell 3 rfl
  have q4 := R0.cell 4 rfl
  have f0 := R0.free 0
  have f1 := R0.free 1
  have f2 := R0.free 2
  have f3 := R0.free 3
  have f4 := R0.free 4
  have z1 := R0.lt
  have zz := x1.size
  rw [World.size_alloc] at zz
  have HR := hid R2
  have HG := hid (G2.up x1' (by omega))
  clear R2
  go_wp2
  refine bodyPost_ret (v := .agg #[.int .i64 g.n, .slice a1 g.m c1, .int .i64 g.tm, .int .i64 g.t.log, .slice a2 g.t.px.length c2]) (by simp [results, Tryz.results7, go_sem, *]) rfl ?_
  have hg := HG.out
  exact ⟨g, _, rfl, HR.out.set5 (by omega) (by omega) (Nat.le_refl _) _ _ _ _ _, ok2, (by repeat (first | with_reducible assumption | with_reducible exact Ext.refl _ | with_reducible apply Ext.alloc | with_reducible apply Ext.drew | with_reducible apply Ext.drewN | (with_reducible refine Ext.setCell ?_ (by simp; omega) _) | (with_reducible refine Ext.setCell ?_ (by simp) _)))⟩
end Go.Proofs.YtaegmenjgjdimaaGreat
end

section
/- This text walks the law FnGridCode. -/
namespace Go.Proofs.YtaegmenjgjdimaaGreat
open Go.RowKit

theorem iGridValue_at {c : Int} (lo hi : Nat) (u : Value) (xs : List Int) (n i j : Nat) (hc : c = (n : Nat)) (hn : 1 ≤ n ∧ n ≤ 8) (hi1 : i < n) (hj1 : j < n) (w : World) (hu : Ints lo hi w u xs) (hl : xs.length = n * n) (x : Int) (hx : xs[j * n + i]? = some x) :
    Calls Tryz.prog 14 #[u, .int .i64 c, .int .i64 (i : Nat), .int .i64 (j : Nat)] w fun e w' => e = .returned (.int .i64 x) ∧ w = w' := hc ▸ iGridValue_any lo hi u xs n i j hn hi1 hj1 w hu hl x hx
theorem getD_is {xs : List Int} {q : Nat} {x : Int} (h : q < xs.length) (e : xs.getD q 0 = x) : xs[q]? = some x := by
  rw [List.getD_eq_getElem?_getD, List.getElem?_eq_getElem h] at e
  rw [List.getElem?_eq_getElem h]
  exact congrArg some e
theorem sq_in {i j n : Nat} (hi : i < n) (hj : j < n) : j * n + i < n * n := by
  have := Nat.mul_le_mul_right n (show j + 1 ≤ n by omega)
  rw [Nat.succ_mul] at this
  omega
set_option maxRecDepth 10000 in
set_option maxHeartbeats 3200000 in
theorem lawGrd (v : Value) (n : Nat) (W : World) (hv : Byts W.heap.size W v n) :
    Calls Tryz.prog 4 #[v] W fun e w' => e = .returned (.bool true) ∧ Ext W w' := by
  have HV := hid hv
  obtain ⟨a, cap, rfl, k1, k2⟩ := hv.open
  clear hv
  by_cases hn : n ≤ 1048576
  · go_enter Tryz.func4, Tryz.ntmps4
    go_wp2_with fail
    refine (MakeProgram_any W.heap.size _ n _ HV.out (Nat.le_refl _) hn).mono ?_
    rintro e w1 ⟨p, v1, rfl, R1, bd1, sm1, ch1, x1⟩
    obtain ⟨a1, c1, a2, c2, rfl⟩ := R1.form2
    have y1 : Ext w1 (w1.alloc (.cells #[.slice a1 p.ns.length c1, .slice a2 p.gs.length c2] 26)) := (by repeat (with_reducible (first | assumption | exact Ext.refl _ | apply Ext.alloc | apply Ext.drew | apply Ext.drewN)))
    have X1 := hid (x1.trans y1)
    have B1 := hid (Bx.made w1 #[.slice a1 p.ns.length c1, .slice a2 p.gs.length c2] 26)
    have P1 := hid (R1.ext (Nat.le_refl _) y1)
    have zy1 := y1.size
    clear R1 x1 y1
    go_wp2_with fail
    refine (MakeGrid_any W.heap.size _ n _ (HV.out.ext (Nat.le_refl _) X1.out) X1.out.size hn).mono ?_
    rintro e w3 ⟨g, v3, rfl, R3, ok3, x3⟩
    obtain ⟨a3, c3, a4, c4, rfl⟩ := R3.form
    have y3 : Ext w3 (w3.alloc (.cells #[.int .i64 g.n, .slice a3 g.m c3, .int .i64 g.tm, .int .i64 g.t.log, .slice a4 g.t.px.length c4] 33)) := (by repeat (with_reducible (first | assumption | exact Ext.refl _ | apply Ext.alloc | apply Ext.drew | apply Ext.drewN)))
    have X3 := hid (X1.out.trans (x3.trans y3))
    have B3 := hid (B1.out.ext (x3.trans y3))
    have P3 := hid (P1.out.ext zy1 (x3.trans y3))
    have G3 := hid (R3.ext (Nat.le_refl _) y3)
    have Q3 := hid (Bx.made w3 #[.int .i64 g.n, .slice a3 g.m c3, .int .i64 g.tm, .int .i64 g.t.log, .slice a4 g.t.px.length c4] 33)
    have zy3 := y3.size
    have zx3 := (x3.trans y3).size
    have bl1 := B1.out.lt
    obtain ⟨gn, hgn, hgm, g1, g8, _, _, _⟩ := Grd.partsE ok3
    have HGN := hid hgn
    have HK := hid (Prg.chkB_K ch1)
    obtain ⟨X, Y, hsh, hXl, hYl, hXY⟩ := HK.out.shade ch1 ok3
    have hcs : p.code.small := ⟨by have := code_len HK.out; omega, by show (p.gs.map (·.name)).length ≤ 1048576; rw [List.length_map]; exact sm1.2⟩
    have HCS := hid hcs
    have HSH := hid hsh
    have HXY := hid hXY
    have HOK := hid ok3
    have HCH := hid ch1
    have b0 := B3.out.cell 0
    have b1 := B3.out.cell 1
    simp only [List.getElem?_toArray, List.getElem?_cons_zero, List.getElem?_cons_succ] at b0 b1
    have bl3 := B3.out.lt
    clear R3 x3 y3 X1 B1 P1 hgn hsh hXY hcs
    go_wp2_with fail
    refine (iCompile_any _ _ _ p _ P3.out (by omega) HCH.out bd1 sm1.2).mono ?_
    rintro e w5 ⟨u, rfl, R5, x5⟩
    obtain ⟨K, hK⟩ : ∃ K, p.code = K := ⟨_, rfl⟩
    rw [hK] at R5 HSH HCS
    obtain ⟨a5, c5, a6, c6, rfl, -, -⟩ := R5.form
    have y5 : Ext w5 (w5.alloc (.cells #[.slice a5 K.xs.length c5, .slice a6 K.ls.length c6] 44)) := (by repeat (with_reducible (first | assumption | exact Ext.refl _ | apply Ext.alloc | apply Ext.drew | apply Ext.drewN)))
    have X5 := hid (X3.out.trans (x5.trans y5))
    have B5 := hid (B3.out.ext (x5.trans y5))
    have Q5 := hid (Q3.out.ext (x5.trans y5))
    have P5 := hid (P3.out.ext (by omega) (x5.trans y5))
    have G5 := hid (G3.out.ext zy3 (x5.trans y5))
    have K5 := hid (R5.ext (Nat.le_refl _) y5)
    have zy5 := y5.size
    have zx5 := (x5.trans y5).size
    have q0 := Q5.out.cell 0
    have q1 := Q5.out.cell 1
    have q2 := Q5.out.cell 2
    have q3 := Q5.out.cell 3
    have q4 := Q5.out.cell 4
    have ql := Q5.out.lt
    simp only [List.getElem?_toArray, List.getElem?_cons_zero, List.getElem?_cons_succ] at q0 q1 q2 q3 q4
    clear hK R5 x5 y5 X3 B3 Q3 P3 G3 b0 b1
    go_wp2_with fail
    refine (iShadeGrid_any _ _ _ _ _ _ K g _ HSH.out K5.out zy5 G5.out (by omega) HCS.out).mono ?_
    rintro e w7 ⟨r1, r2, rfl, h7, hh1, hh2, I1, I2, x7⟩
    obtain ⟨b1, d1, rfl, -⟩ := I1.1.form
    obtain ⟨b2, d2, rfl, -⟩ := I2.1.form
    have X7 := hid (X5.out.trans x7)
    have B7 := hid (B5.out.ext x7)
    have Q7 := hid (Q5.out.ext x7)
    have zx7 := x7.size
    have P7 := hid (P5.out.ext (by omega) x7)
    have G7 := hid (G5.out.ext (by omega) x7)
    have J1 := hid I1.1.ints
    have J2 := hid I2.1.ints
    clear I1 I2 x7 X5 B5 Q5 P5 G5 K5 q0 q1 q2 q3 q4
    have bl7 := B7.out.lt
    have ql7 := Q7.out.lt
    have hgm2 : X.length = gn * gn := by rw [hXl, hgm]
    have hgm3 : Y.length = gn * gn := by rw [hYl, hgm]
    have HL1 := hid hgm2
    have HL2 := hid hgm3
    clear hgm hgm2 hgm3 hXl hYl
    go_wp2_with fail
    go_loopw [10] (fun v wr => ∃ j : Nat, j ≤ gn ∧ v = .int .i64 (j : Nat) ∧ Ext w7 wr) (fun v _ => gn - (intOf v).toNat)
    case atStart => exact ⟨0, by omega, rfl, Ext.refl _⟩
    case round =>
      obtain ⟨j, hj, rfl, hxr⟩ := hrel
      have HB := hid (B7.out.ext hxr)
      have HQ := hid (Q7.out.ext hxr)
      have HP := hid (P7.out.ext (by omega) hxr)
      have HG := hid (G7.out.ext (by omega) hxr)
      have HX := hid (X7.out.trans hxr)
      have HXr := hid hxr
      have zr := hxr.size
      have b0 := HB.out.cell 0
      have b1 := HB.out.cell 1
      have q0 := HQ.out.cell 0
      have q1 := HQ.out.cell 1
      have q2 := HQ.out.cell 2
      have q3 := HQ.out.cell 3
      have q4 := HQ.out.cell 4
      have zB := HB.out.lt
      have zQ := HQ.out.lt
      simp only [List.getElem?_toArray, List.getElem?_cons_zero, List.getElem?_cons_succ] at b0 b1 q0 q1 q2 q3 q4
      clear hxr
      by_cases hlt : j < gn
      · have hc : ((j : Nat) : Int) < g.n := by rw [HGN.out]; omega
        go_wp2_with fail
        go_loopw [11] (fun v wr => ∃ i : Nat, i ≤ gn ∧ v = .int .i64 (i : Nat) ∧ Ext w7 wr) (fun v _ => gn - (intOf v).toNat)
        case atStart => exact ⟨0, by omega, rfl, HXr.out⟩
        case round =>
          clear HB HQ HP HG HX HXr zr b0 b1 q0 q1 q2 q3 q4 zB zQ
          obtain ⟨i, hi, rfl, hxr⟩ := hrel
          have HB := hid (B7.out.ext hxr)
          have HQ := hid (Q7.out.ext hxr)
          have HP := hid (P7.out.ext (by omega) hxr)
          have HG := hid (G7.out.ext (by omega) hxr)
          have HX := hid (X7.out.trans hxr)
          have HXr := hid hxr
          have zr := hxr.size
          have b0 := HB.out.cell 0
          have b1 := HB.out.cell 1
          have q0 := HQ.out.cell 0
          have q1 := HQ.out.cell 1
          have q2 := HQ.out.cell 2
          have q3 := HQ.out.cell 3
          have q4 := HQ.out.cell 4
          have zB := HB.out.lt
          have zQ := HQ.out.lt
          simp only [List.getElem?_toArray, List.getElem?_cons_zero, List.getElem?_cons_succ] at b0 b1 q0 q1 q2 q3 q4
          clear hxr
          by_cases hlti : i < gn
          · have hci : ((i : Nat) : Int) < g.n := by rw [HGN.out]; omega
            have hxy := HXY.out i j hci hc
            have hidx : (((j : Nat) : Int) * g.n + ((i : Nat) : Int)).toNat = j * gn + i := by
              rw [HGN.out, ← Int.natCast_mul, ← Int.natCast_add, Int.toNat_natCast]
            rw [hidx] at hxy
            obtain ⟨xc, hxc⟩ : ∃ z, shC p g i j = z := ⟨_, rfl⟩
            obtain ⟨xa, hxa⟩ : ∃ z, shA p g i j = z := ⟨_, rfl⟩
            rw [hxc, hxa] at hxy
            have hsq := sq_in hlti hlt
            have V1 := hid (getD_is (by rw [HL1.out]; exact hsq) hxy.1)
            have V2 := hid (getD_is (by rw [HL2.out]; exact hsq) hxy.2)
            have heo : evOk p g i j = true := by
              unfold evOk
              rw [HCH.out, HOK.out, inB_iff.2 ⟨by omega, by omega⟩, inB_iff.2 ⟨by omega, by omega⟩]
              rfl
            have HEO := hid heo
            have HXC := hid hxc
            have HXA := hid hxa
            clear hxy hidx hxc hxa hsq heo
            go_wp2_with fail
            refine (iShadePoint_any _ _ _ _ _ _ p g i j _ HP.out (by omega) HG.out (by omega) bd1 sm1.2).mono ?_
            rintro e w8 ⟨rfl, x8⟩
            rw [HEO.out, HXC.out, HXA.out]
            have HX8 := hid (HXr.out.trans x8)
            have HQ8 := hid (HQ.out.ext x8)
            have p0 := HQ8.out.cell 0
            have pl := HQ8.out.lt
            simp only [List.getElem?_toArray, List.getElem?_cons_zero] at p0
            clear x8
            go_wp2_with fail
            refine (iGridValue_at _ _ _ X gn i j HGN.out ⟨g1, g8⟩ hlti hlt _ (J1.out.ext (Nat.le_refl _) HX8.out) HL1.out xc V1.out).mono ?_
            rintro e w9 ⟨rfl, rfl⟩
            go_wp2_with fail
            refine (iGridValue_at _ _ _ Y gn i j HGN.out ⟨g1, g8⟩ hlti hlt _ (J2.out.ext (Nat.le_refl _) HX8.out) HL2.out xa V2.out).mono ?_
            rintro e w9 ⟨rfl, rfl⟩
            go_wp2
            go_roundw
            case rel => exact ⟨i + 1, by omega, by go_num, HX8.out⟩
            case measure => simp [intOf]; omega
          · have hci : ¬ ((i : Nat) : Int) < g.n := by rw [HGN.out]; omega
            go_wp2
            go_roundw
            case rel => exact ⟨j + 1, by omega, by go_num, HXr.out⟩
            case measure => simp [intOf]; omega
      · have hc : ¬ ((j : Nat) : Int) < g.n := by rw [HGN.out]; omega
        go_wp2
        go_ret
        exact ⟨rfl, HX.out⟩
  · go_enter Tryz.func4, Tryz.ntmps4
    go_wp2
    go_ret
    exact ⟨rfl, (by repeat (with_reducible (first | assumption | exact Ext.refl _ | apply Ext.alloc | apply Ext.drew | apply Ext.drewN)))⟩
end Go.Proofs.YtaegmenjgjdimaaGreat
end

section
/- This text reads the laws' arguments off the data that the row speaks of: integers, slices of integers, textures. -/
namespace Go.Proofs.YtaegmenjgjdimaaGreat
open Go.ChangeShapes Go.WideShapes Go.ChangeAt Go.RowKit

theorem laidOut : laidOutB Tryz.prog = true := by kernel_rfl

section
variable {H : Type} {enc : TypeId × Value → H} {W : World} {base b0 : Nat} {sp : Nat → Bool} {held : Bool}

theorem wf_I64 {n : Int} (h : (Lit.int .i64 n).wf = true) : I64 n := by
  simp [Lit.wf, IntKind.min, IntKind.max, IntKind.signed, IntKind.bits] at h
  exact ⟨by omega, by omega⟩
set_option maxRecDepth 100000 in
theorem argInt {v : Value} {d : DataW H} {p : List MemPlace} (hv : Value.okWide Tryz.prog W .any b0 3 v) (h : DataW.Trod enc Tryz.prog W base sp held 3 v d p) : ∃ n, v = .int .i64 n ∧ I64 n := by
  obtain ⟨n, rfl, _, _, hw⟩ := open_int Tryz.underlying3 hv h
  exact ⟨n, rfl, wf_I64 hw⟩
set_option maxRecDepth 100000 in
/-- what lies behind the cell of a slice of integers -/
theorem cellInts {fuel : Nat} {c : Value} {y : DataW H × List MemPlace} (h : DataW.trod enc Tryz.prog W base sp held fuel 29 [c] = some y) : ∃ xs, Ints 0 W.heap.size W c xs := by
  rcases open_ints Tryz.underlying29 Tryz.underlying3 (by kernel_rfl) h with ⟨hcs, _⟩ | ⟨a, len, cap, zs, hcs, _, hl, hm, hz, _, hcell, hwz⟩
  · obtain rfl : c = .slice none 0 0 := by simpa using hcs
    exact ⟨[], none, 0, rfl, Nat.le_refl _, by unfold maxLen; omega, fun i x hx => by simp at hx⟩
  · obtain rfl : c = .slice (some a) len cap := by simpa using hcs
    have hlen : (zs.take len).length = len := by
      rw [List.length_take, hz]
      split <;> omega
    refine ⟨zs.take len, some a, cap, by rw [hlen], by omega, hm, fun i x hx => ?_⟩
    have hi : i < len := by have := (List.getElem?_eq_some_iff.1 hx).1; omega
    rw [List.getElem?_take, if_pos hi] at hx
    have hzi := (List.getElem?_eq_some_iff.1 hx).1
    have hxx : zs.getD i 0 = x := by simp [List.getD, hx]
    obtain ⟨b, o, s⟩ := a
    obtain rfl : s = none := by
      cases s with
      | none => rfl
      | some s =>
        have h0 := hcell 0 (by omega)
        simp only [World.cell?, Addr.add, if_true] at h0
        split at h0 <;> simp at h0
    have hc := hcell i hzi
    rw [hxx] at hc
    have ha : (⟨b, o, none⟩ : Addr).add i = ⟨b, o + i, none⟩ := by
      unfold Addr.add
      split
      · rename_i e; subst e; rfl
      · rfl
    rw [ha] at hc
    refine ⟨wf_I64 (hwz x (List.mem_of_getElem? hx)), b, o, rfl, Nat.zero_le _, ?_, hc⟩
    simp only [World.cell?] at hc
    split at hc
    · rename_i e; exact (Array.getElem?_eq_some_iff.1 e).1
    · cases hc
end

end Go.Proofs.YtaegmenjgjdimaaGreat
end

section
/- This text reads the laws' arguments that are slices of bytes. -/
namespace Go.Proofs.YtaegmenjgjdimaaGreat
open Go.ChangeShapes Go.WideShapes Go.ChangeAt Go.RowKit
section
variable {H : Type} {enc : TypeId × Value → H} {W : World} {base b0 : Nat} {sp : Nat → Bool} {held : Bool}

theorem wf_U8 {n : Int} (h : (Lit.int .u8 n).wf = true) : 0 ≤ n ∧ n ≤ 255 := by
  simp [Lit.wf, IntKind.min, IntKind.max, IntKind.signed, IntKind.bits] at h
  omega
set_option maxRecDepth 100000 in
theorem cellByts {fuel : Nat} {c : Value} {y : DataW H × List MemPlace} (h : DataW.trod enc Tryz.prog W base sp held fuel 22 [c] = some y) : ∃ n, Byts W.heap.size W c n := by
  rcases open_ints Tryz.underlying22 Tryz.underlying5 (by kernel_rfl) h with ⟨hcs, _⟩ | ⟨a, len, cap, zs, hcs, _, hl, hm, hz, _, hcell, hwz⟩
  · obtain rfl : c = .slice none 0 0 := by simpa using hcs
    exact ⟨0, none, 0, rfl, Nat.le_refl _, by unfold maxLen; omega, fun i hx => by omega⟩
  · obtain rfl : c = .slice (some a) len cap := by simpa using hcs
    refine ⟨len, some a, cap, rfl, by omega, hm, fun i hi => ?_⟩
    have hlz : len ≤ zs.length := by rw [hz]; split <;> omega
    have hzi : i < zs.length := by omega
    obtain ⟨b, o, s⟩ := a
    obtain rfl : s = none := by
      cases s with
      | none => rfl
      | some s =>
        have h0 := hcell 0 (by omega)
        simp only [World.cell?, Addr.add, if_true] at h0
        split at h0 <;> simp at h0
    have hc := hcell i hzi
    have ha : (⟨b, o, none⟩ : Addr).add i = ⟨b, o + i, none⟩ := by
      unfold Addr.add
      split
      · rename_i e; subst e; rfl
      · rfl
    rw [ha] at hc
    have hw := wf_U8 (hwz (zs.getD i 0) (by rw [List.getD_eq_getElem?_getD, List.getElem?_eq_getElem hzi]; exact List.getElem_mem hzi))
    refine ⟨b, o, zs.getD i 0, rfl, ?_, hw.1, hw.2, hc⟩
    simp only [World.cell?] at hc
    split at hc
    · rename_i e; exact (Array.getElem?_eq_some_iff.1 e).1
    · cases hc
set_option maxRecDepth 100000 in
theorem argByts {v : Value} {d : DataW H} {p : List MemPlace} (hv : Value.okWide Tryz.prog W .any b0 22 v) (h : DataW.Trod enc Tryz.prog W base sp held 22 v d p) : ∃ n, Byts W.heap.size W v n := by
  obtain ⟨a, len, cap, rfl⟩ := okWide_slice Tryz.underlying22 hv
  obtain ⟨fuel, hf⟩ := h
  exact cellByts hf
end
end Go.Proofs.YtaegmenjgjdimaaGreat
end

section
/- This text lifts the walk of FnGridCode to the given statement. -/
namespace Go.Proofs.YtaegmenjgjdimaaGreat.fnGridCode
open Go.ChangeShapes Go.WideShapes Go.ChangeAt Go.RowKit
set_option linter.unusedVariables false

theorem own : ownKnob Tryz.prog.godebug = none := by kernel_rfl
theorem laid : laidOutB Tryz.prog = true := by kernel_rfl

set_option maxRecDepth 100000 in
theorem lifted (os : Os) (started : os.Started) (H : Type) (enc : TypeId × Value → H) :
    ReturnsInHanded {} Tryz.checked os 4 .any (Rows.fnGridCodeSpec.pre6 enc Tryz.prog Tryz.f4 Rows.fnGridCodeRow.domain false) (Rows.fnGridCodeSpec.post enc Tryz.prog Tryz.f4 false true false false) := by
  refine returnsInHanded_of_change (C := Tryz.checked) own started (by kernel_rfl) Tryz.func4
    (ChangeSpec.witness6 (enc := enc) (C := Tryz.checked) false ⟨#[], #[.slice none 0 0], []⟩ 8 (by kernel_rfl) (by kernel_rfl) (by kernel_rfl) (by kernel_rfl)) ?_
  intro W base args ds gs before hval0 hW hcnd _
  have hval : ∀ (j : Nat) t v, Tryz.f4.params[j]? = some t → args[j]? = some v → Value.okWide Tryz.prog W .any base t v := hval0
  have hW' := hW
  obtain ⟨p, q, hA0, hV, rfl, hfz, hnd⟩ := hW
  have hA : DataW.TrodAll enc Tryz.prog W 0 (fun _ => true) true Tryz.f4.params.toList args.toList ds p := hA0
  rw [Tryz.params4] at hA hval
  obtain ⟨v0, vs0, d0, ds0, p0, q0, hargs, rfl, rfl, h0, r0⟩ := trodAll_cons hA
  obtain ⟨rfl, rfl, rfl⟩ := trodAll_nil r0
  obtain rfl : args = #[v0] := by cases args; simp_all
  obtain ⟨rfl, rfl⟩ := trodVars_none hV
  have k0 := h0
  have lt0 : ∀ x ∈ p0, x.block < W.heap.size := by obtain ⟨m, hm⟩ := k0; exact DataW.trod_lt m _ _ _ hm
  obtain ⟨n0, w0⟩ := argByts (hval 0 22 v0 rfl rfl) h0
  clear hA0 hval0
  refine (lawGrd v0 n0 W w0).mono fun e W' ⟨he, bel0⟩ => ?_
  have bel : Below W.heap.size W W' := bel0
  subst he
  exact ⟨_, rfl, _, _, _, [], _, [], hW', trodAll_mk1 (shut_bool Tryz.underlying4 _), (trodAll_cons_mk (Below.trod laid (by kernel_rfl) (of_decide_eq_true (by kernel_rfl)) k0 bel lt0) trodAll_mk0), rfl, bel.frame _, fun h => by cases h⟩

theorem over : Rows.fnGridCodeRow.holds Tryz.pinned (OpenSpec.ofChange Rows.fnGridCodeSpec) :=
  OpenClaim.holds_of_wide 4 Tryz.f4 rfl rfl rfl rfl rfl rfl rfl ⟨rfl, rfl, rfl, rfl, rfl⟩ rfl rfl rfl rfl rfl (by kernel_rfl) Tryz.func4 (by kernel_rfl)
    (of_decide_eq_true (by kernel_rfl)) (by unfold Func.isWrapper; first | (rw [if_pos (by decide +kernel)]; kernel_rfl) | (rw [if_neg (by decide +kernel)]; exact ⟨rfl, rfl⟩))
    (fun os started H enc _ => lifted os started H enc)

theorem proved : Rows.FnGridCodeSaid := over
end Go.Proofs.YtaegmenjgjdimaaGreat.fnGridCode
end
