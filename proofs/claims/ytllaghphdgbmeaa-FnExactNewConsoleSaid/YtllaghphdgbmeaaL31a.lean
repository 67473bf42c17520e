/- This text proves that the program's NewConsole and the reference's hand back the same console. -/
import Derived.Test.YtllaghphdgbmeaaBase
import Derived.Test.YtllaghphdgbmeaaRows
namespace Go.Proofs.Ytllaghphdgbmeaa
open Go.RowKit

set_option maxHeartbeats 400000 in
theorem sNewConsole_any (w : World) : Calls Try.prog 9 #[] w fun e w' => e = .returned (.agg #[.string ⟨#[]⟩, .int .i64 2, .int .i64 1, .int .i64 1, .string ⟨#[]⟩]) ∧ Ext w w' := by
  go_enter Try.func9, Try.ntmps9
  go_wp2
  exact bodyPost_ret (v := .agg #[.string ⟨#[]⟩, .int .i64 2, .int .i64 1, .int .i64 1, .string ⟨#[]⟩]) (by simp [results, Try.results9, go_sem]) rfl ⟨rfl, (Ext.refl w).alloc _⟩
set_option maxHeartbeats 400000 in
theorem iNewConsole_any (w : World) : Calls Try.prog 10 #[] w fun e w' => e = .returned (.agg #[.string ⟨#[]⟩, .int .i64 2, .int .i64 1, .int .i64 1, .string ⟨#[]⟩]) ∧ Ext w w' := by
  go_enter Try.func10, Try.ntmps10
  go_wp2
  exact bodyPost_ret (v := .agg #[.string ⟨#[]⟩, .int .i64 2, .int .i64 1, .int .i64 1, .string ⟨#[]⟩]) (by simp [results, Try.results10, go_sem]) rfl ⟨rfl, (Ext.refl w).alloc _⟩
set_option maxHeartbeats 400000 in
theorem eqFilter_any (a b c d : Int) (w : World) : Calls Try.prog 33 #[.agg #[.int .i64 a, .int .i64 b], .agg #[.int .i64 c, .int .i64 d]] w fun e w' => e = .returned (.bool (decide (a = c) && decide (b = d))) ∧ Ext w w' := by
  go_enter Try.func33, Try.ntmps33
  go_wp2
  all_goals go_ret
  all_goals refine ⟨ret_bool ?_, ((Ext.refl w).alloc _).alloc _⟩
  all_goals simp_all
theorem eqFilter_same (a b : Int) (w : World) : Calls Try.prog 33 #[.agg #[.int .i64 a, .int .i64 b], .agg #[.int .i64 a, .int .i64 b]] w fun e w' => e = .returned (.bool true) ∧ Ext w w' := by
  have h := eqFilter_any a b a b w
  simp only [decide_true, Bool.and_self] at h
  exact h
set_option maxHeartbeats 400000 in
theorem eqConsole_same (s : ByteArray) (n a b : Int) (l : ByteArray) (w : World) :
    Calls Try.prog 11 #[.agg #[.string s, .int .i64 n, .int .i64 a, .int .i64 b, .string l], .agg #[.string s, .int .i64 n, .int .i64 a, .int .i64 b, .string l]] w fun e w' => e = .returned (.bool true) ∧ Ext w w' := by
  go_enter Try.func11, Try.ntmps11
  go_wp2_with ((go_at_call 33; refine (eqFilter_same _ _ _).mono ?_; rintro e w1 ⟨rfl, e1⟩; obtain ⟨c1, f1⟩ := e1.cells; have z1 := e1.size; simp only [World.size_alloc] at z1))
  go_ret
  exact ⟨rfl, (((Ext.refl _).alloc _).alloc _).trans e1⟩
set_option maxHeartbeats 400000 in
theorem lawNewConsole (w : World) : Calls Try.prog 3 #[] w fun e w' => e = .returned (.bool true) ∧ Ext w w' := by
  go_enter Try.func3, Try.ntmps3
  go_wp2_with (first
    | (go_at_call 9; refine (sNewConsole_any _).mono ?_; rintro e w1 ⟨rfl, e1⟩)
    | (go_at_call 10; refine (iNewConsole_any _).mono ?_; rintro e w2 ⟨rfl, e2⟩; obtain ⟨c2, f2⟩ := e2.cells; have z2 := e2.size; simp only [World.size_alloc] at z2; have q2 : w1.heap.size < w2.heap.size := (by omega))
    | (go_at_call 11; refine (eqConsole_same _ _ _ _ _ _).mono ?_; rintro e w3 ⟨rfl, e3⟩))
  go_ret
  exact ⟨rfl, ((e1.trans (((Ext.refl _).alloc _).trans e2)).trans ((Ext.refl _).alloc _)).trans e3⟩

end Go.Proofs.Ytllaghphdgbmeaa
