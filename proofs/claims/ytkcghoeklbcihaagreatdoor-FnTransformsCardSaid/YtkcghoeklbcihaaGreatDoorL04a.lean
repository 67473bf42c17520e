/- This text proves when a transform is valid: the program's word. -/
import Derived.Test.YtkcghoeklbcihaaGreatDoorL02e
import Derived.Test.YtkcghoeklbcihaaGreatDoorL15a
namespace Go.Proofs.YtkcghoeklbcihaaGreatDoor
open Go.RowKit

/-- the numbers of a transform: nine of the matrix, three of the offset -/
structure Xf where
  (m0 m1 m2 m3 m4 m5 m6 m7 m8 x y z : Int)
def Xf.ms (t : Xf) : List Int := [t.m0, t.m1, t.m2, t.m3, t.m4, t.m5, t.m6, t.m7, t.m8]
def Xf.V (t : Xf) : Value := .agg #[.int .i64 t.m0, .int .i64 t.m1, .int .i64 t.m2, .int .i64 t.m3, .int .i64 t.m4, .int .i64 t.m5, .int .i64 t.m6, .int .i64 t.m7, .int .i64 t.m8, .int .i64 t.x, .int .i64 t.y, .int .i64 t.z]
def Xf.ok (t : Xf) : Bool := t.ms.all (fun n => inB n (-64) 64) && okVec t.x t.y t.z
/-- all are numbers of 64 bits -/
def Xf.I (t : Xf) : Prop := (∀ n ∈ t.ms, I64 n) ∧ I64 t.x ∧ I64 t.y ∧ I64 t.z

set_option maxHeartbeats 1600000 in
theorem iIsValidTransform_val (t : Xf) (ht : t.I) (w : World) :
    Calls Tryz.prog 26 #[t.V] w fun e w' => e = .returned (.bool t.ok) ∧ Ext w w' := by
  obtain ⟨m0, m1, m2, m3, m4, m5, m6, m7, m8, x, y, z⟩ := t
  have HI := hid ht
  clear ht
  unfold Xf.V
  go_enter Tryz.func26, Tryz.ntmps26
  go_wp2_with fail
  have HS : Ints 0 (w.heap.size + 1) (w.alloc (.cells #[.int .i64 m0, .int .i64 m1, .int .i64 m2, .int .i64 m3, .int .i64 m4, .int .i64 m5, .int .i64 m6, .int .i64 m7, .int .i64 m8, .int .i64 x, .int .i64 y, .int .i64 z] 29)) (.slice (some ⟨w.heap.size, 0, none⟩) 9 9) [m0, m1, m2, m3, m4, m5, m6, m7, m8] := by
    refine ⟨_, 9, rfl, Nat.le_refl _, by decide, fun i n hn => ⟨HI.out.1 n (List.mem_of_getElem? hn), _, 0, rfl, Nat.zero_le _, Nat.lt_succ_self _, ?_⟩⟩
    have hi := (List.getElem?_eq_some_iff.1 hn).1
    simp only [List.length_cons, List.length_nil] at hi
    have hc : i = 0 ∨ i = 1 ∨ i = 2 ∨ i = 3 ∨ i = 4 ∨ i = 5 ∨ i = 6 ∨ i = 7 ∨ i = 8 := by omega
    rcases hc with h | h | h | h | h | h | h | h | h <;> subst h <;> simp at hn <;> subst hn <;> simp [go_sem]
  refine (allWithin_any _ _ _ _ _ _ _ HS).mono ?_
  rintro e w1 ⟨rfl, rfl⟩
  cases hb : ([m0, m1, m2, m3, m4, m5, m6, m7, m8].all fun n => inB n (-64) 64)
  · go_wp2
    go_ret
    exact ⟨ret_bool (by simp only [Xf.ok, Xf.ms, hb, Bool.false_and]), (by repeat (with_reducible (first | assumption | exact Ext.refl _ | apply Ext.alloc | apply Ext.drew | apply Ext.drewN)))⟩
  · go_wp2_with fail
    refine (iIsValidVec_val _).mono ?_
    rintro e w2 ⟨rfl, h2⟩
    go_wp2
    go_ret
    exact ⟨ret_bool (by simp only [Xf.ok, Xf.ms, hb, Bool.true_and]), Ext.trans (by repeat (with_reducible (first | assumption | exact Ext.refl _ | apply Ext.alloc | apply Ext.drew | apply Ext.drewN))) h2⟩

end Go.Proofs.YtkcghoeklbcihaaGreatDoor
