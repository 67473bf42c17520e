/- This text proves when a transform is valid: the program's word. -/
import Derived.Test.YteeclghkfcanlaaL02e
import Derived.Test.YteeclghkfcanlaaL15a
namespace Go.Proofs.Yteeclghkfcanlaa
open Go.RowKit

/-- the numbers of a transform: nine of the matrix, three of the offset -/
structure Xf where
  (m0 m1 m2 m3 m4 m5 m6 m7 m8 x y z : Int)
def Xf.ms (t : Xf) : List Int := [t.m0, t.m1, t.m2, t.m3, t.m4, t.m5, t.m6, t.m7, t.m8]
def Xf.V (t : Xf) : Value := .agg #[.int .i64 t.m0, .int .i64 t.m1, .int .i64 t.m2, .int .i64 t.m3, .int .i64 t.m4, .int .i64 t.m5, .int .i64 t.m6, .int .i64 t.m7, .int .i64 t.m8, .int .i64 t.x, .int .i64 t.y, .int .i64 t.z]
def Xf.ok (t : Xf) : Bool := t.ms.all (fun n => inB n (-64) 64) && okVec t.x t.y t.z
/-- all are numbers of 64 bits -/
def Xf.I (t : Xf) : Prop := (∀ n ∈ t.ms, I64 n) ∧ I64 t.x ∧ I64 t.y ∧ I64 t.z

set_option maxHeartbeats 1600000 in
theorem iIsValidTransform_val (t : Xf) (ht : t.I) (w : World) :
    Calls Try.prog 92 #[t.V] w fun e w' => e = .returned (.bool t.ok) ∧ Ext w w' := by
  obtain ⟨m0, m1, m2, m3, m4, m5, m6, m7, m8, x, y, z⟩ := t
  have HI := hid ht
  clear ht
  unfold Xf.V
  go_enter Try.func92, Try.ntmps92
  go_wp2_with fail
  have HS : Ints 0 (w.heap.size + 1) (w.alloc (.cells #[.int .i64 m0, .int .i64 m1, .int .i64 m2, .int .i64 m3, .int .i64 m4, .int .i64 m5, .int .i64 m6, .int .i64 m7, .int .i64 m8, .int .i64 x, .int .i64 y, .int .i64 z] 85)) (.slice (some ⟨w.heap.size, 0, none⟩) 9 9) [m0, m1, m2, m3, m4, m5, m6, m7, m8] := by
    refine ⟨_, 9, rfl, Nat.le_refl _, by decide, fun i n hn => ⟨HI.out.1 n (List.mem_of_getElem? hn), _, 0, rfl, Nat.zero_le _, Nat.lt_succ_self _, ?_⟩⟩
    have hi := (List.getElem?_eq_some_iff.1 hn).1
    simp only [List.length_cons, List.length_nil] at hi
    have hc : i = 0 ∨ i = 1 ∨ i = 2 ∨ i = 3 ∨ i = 4 ∨ i = 5 ∨ i = 6 ∨ i = 7 ∨ i = 8 := by omega
    rcases hc with h | h | h | h | h | h | h | h | h <;> subst h <;> simp at hn <;> subst hn <;> simp [go_sem]
  refine (allWithin_any _ _ _ _ _ _ _ HS).mono ?_
  rintro e w1 ⟨rfl, rfl⟩
  cases hb : ([m0, m1, m2, m3, m4, m5, m6, m7, m8].all fun n => inB n (-64) 64)
  · go_wp2
    go_ret
    exact ⟨ret_bool (by simp only [Xf.ok, Xf.ms, hb, Bool.false_and]), (by repeat (with_reducible (first | assumption | exact Ext.refl _ | apply Ext.alloc | apply Ext.drew | apply Ext.drewN)))⟩
  · go_wp2_with fail
    refine (iIsValidVec_val _).mono ?_
    rintro e w2 ⟨rfl, h2⟩
    go_wp2
    go_ret
    exact ⟨ret_bool (by simp only [Xf.ok, Xf.ms, hb, Bool.true_and]), Ext.trans (by repeat (with_reducible (first | assumption | exact Ext.refl _ | apply Ext.alloc | apply Ext.drew | apply Ext.drewN))) h2⟩

set_option maxRecDepth 20000 in
set_option maxHeartbeats 3200000 in
theorem sIsValidTransform_val (t : Xf) (w : World) :
    Calls Try.prog 88 #[t.V] w fun e w' => e = .returned (.bool t.ok) ∧ Ext w w' := by
  obtain ⟨m0, m1, m2, m3, m4, m5, m6, m7, m8, x, y, z⟩ := t
  unfold Xf.V
  have i0 : ∀ w : World, (Instr.index 83 (.agg #[.int .i64 m0, .int .i64 m1, .int .i64 m2, .int .i64 m3, .int .i64 m4, .int .i64 m5, .int .i64 m6, .int .i64 m7, .int .i64 m8]) (.int .i64 0)).run Try.prog w = .ok (.int .i64 m0) w := fun _ => by kernel_rfl
  have i1 : ∀ w : World, (Instr.index 83 (.agg #[.int .i64 m0, .int .i64 m1, .int .i64 m2, .int .i64 m3, .int .i64 m4, .int .i64 m5, .int .i64 m6, .int .i64 m7, .int .i64 m8]) (.int .i64 1)).run Try.prog w = .ok (.int .i64 m1) w := fun _ => by kernel_rfl
  have i2 : ∀ w : World, (Instr.index 83 (.agg #[.int .i64 m0, .int .i64 m1, .int .i64 m2, .int .i64 m3, .int .i64 m4, .int .i64 m5, .int .i64 m6, .int .i64 m7, .int .i64 m8]) (.int .i64 2)).run Try.prog w = .ok (.int .i64 m2) w := fun _ => by kernel_rfl
  have i3 : ∀ w : World, (Instr.index 83 (.agg #[.int .i64 m0, .int .i64 m1, .int .i64 m2, .int .i64 m3, .int .i64 m4, .int .i64 m5, .int .i64 m6, .int .i64 m7, .int .i64 m8]) (.int .i64 3)).run Try.prog w = .ok (.int .i64 m3) w := fun _ => by kernel_rfl
  have i4 : ∀ w : World, (Instr.index 83 (.agg #[.int .i64 m0, .int .i64 m1, .int .i64 m2, .int .i64 m3, .int .i64 m4, .int .i64 m5, .int .i64 m6, .int .i64 m7, .int .i64 m8]) (.int .i64 4)).run Try.prog w = .ok (.int .i64 m4) w := fun _ => by kernel_rfl
  have i5 : ∀ w : World, (Instr.index 83 (.agg #[.int .i64 m0, .int .i64 m1, .int .i64 m2, .int .i64 m3, .int .i64 m4, .int .i64 m5, .int .i64 m6, .int .i64 m7, .int .i64 m8]) (.int .i64 5)).run Try.prog w = .ok (.int .i64 m5) w := fun _ => by kernel_rfl
  have i6 : ∀ w : World, (Instr.index 83 (.agg #[.int .i64 m0, .int .i64 m1, .int .i64 m2, .int .i64 m3, .int .i64 m4, .int .i64 m5, .int .i64 m6, .int .i64 m7, .int .i64 m8]) (.int .i64 6)).run Try.prog w = .ok (.int .i64 m6) w := fun _ => by kernel_rfl
  have i7 : ∀ w : World, (Instr.index 83 (.agg #[.int .i64 m0, .int .i64 m1, .int .i64 m2, .int .i64 m3, .int .i64 m4, .int .i64 m5, .int .i64 m6, .int .i64 m7, .int .i64 m8]) (.int .i64 7)).run Try.prog w = .ok (.int .i64 m7) w := fun _ => by kernel_rfl
  have i8 : ∀ w : World, (Instr.index 83 (.agg #[.int .i64 m0, .int .i64 m1, .int .i64 m2, .int .i64 m3, .int .i64 m4, .int .i64 m5, .int .i64 m6, .int .i64 m7, .int .i64 m8]) (.int .i64 8)).run Try.prog w = .ok (.int .i64 m8) w := fun _ => by kernel_rfl
  go_enter Try.func88, Try.ntmps88
  go_wp2
  go_loop [7] (fun i => ∃ k : Nat, k ≤ 9 ∧ i = .int .i64 k ∧ ([m0, m1, m2, m3, m4, m5, m6, m7, m8].take k).all (fun n => inB n (-64) 64) = true) (fun i => 9 - (intOf i).toNat)
  case atStart => exact ⟨0, by omega, rfl, rfl⟩
  case round =>
    obtain ⟨k, hk, rfl, hall⟩ := hrel
    have HA := hid hall
    clear hall
    by_cases hlt : k < 9
    · have hc : k = 0 ∨ k = 1 ∨ k = 2 ∨ k = 3 ∨ k = 4 ∨ k = 5 ∨ k = 6 ∨ k = 7 ∨ k = 8 := by omega
      rcases hc with h | h | h | h | h | h | h | h | h <;> subst h
      all_goals go_wp2_with (go_at_call 101; refine (l01In_any _ _ _ _).mono ?_; rintro e w' ⟨rfl, rfl⟩)
      all_goals first
        | (go_ret; exact ⟨ret_bool (by rename_i hb; simp at hb; simp [Xf.ok, Xf.ms, hb]), (by repeat (with_reducible (first | assumption | exact Ext.refl _ | apply Ext.alloc | apply Ext.drew | apply Ext.drewN)))⟩)
        | exact ⟨⟨1, by omega, rfl, by have h := HA.out; simp at h; rename_i hb; simp at hb; simp [h, hb]⟩, by simp [intOf]⟩
        | exact ⟨⟨2, by omega, rfl, by have h := HA.out; simp at h; rename_i hb; simp at hb; simp [h, hb]⟩, by simp [intOf]⟩
        | exact ⟨⟨3, by omega, rfl, by have h := HA.out; simp at h; rename_i hb; simp at hb; simp [h, hb]⟩, by simp [intOf]⟩
        | exact ⟨⟨4, by omega, rfl, by have h := HA.out; simp at h; rename_i hb; simp at hb; simp [h, hb]⟩, by simp [intOf]⟩
        | exact ⟨⟨5, by omega, rfl, by have h := HA.out; simp at h; rename_i hb; simp at hb; simp [h, hb]⟩, by simp [intOf]⟩
        | exact ⟨⟨6, by omega, rfl, by have h := HA.out; simp at h; rename_i hb; simp at hb; simp [h, hb]⟩, by simp [intOf]⟩
        | exact ⟨⟨7, by omega, rfl, by have h := HA.out; simp at h; rename_i hb; simp at hb; simp [h, hb]⟩, by simp [intOf]⟩
        | exact ⟨⟨8, by omega, rfl, by have h := HA.out; simp at h; rename_i hb; simp at hb; simp [h, hb]⟩, by simp [intOf]⟩
        | exact ⟨⟨9, by omega, rfl, by have h := HA.out; simp at h; rename_i hb; simp at hb; simp [h, hb]⟩, by simp [intOf]⟩
    · go_wp2_with fail
      refine (sIsValidVec_val _).mono ?_
      rintro e w2 ⟨rfl, h2⟩
      go_wp2
      go_ret
      obtain rfl : k = 9 := by omega
      exact ⟨ret_bool (by have := HA.out; simp only [Xf.ok, Xf.ms]; rw [show ([m0, m1, m2, m3, m4, m5, m6, m7, m8].all fun n => inB n (-64) 64) = true from this, Bool.true_and]), Ext.trans (by repeat (with_reducible (first | assumption | exact Ext.refl _ | apply Ext.alloc | apply Ext.drew | apply Ext.drewN))) h2⟩
end Go.Proofs.Yteeclghkfcanlaa
