/- This text proves what an instruction pops and pushes: the program's pops. -/
import Derived.Test.YtaegmenjgjdimaaGreatSh15
namespace Go.Proofs.YtaegmenjgjdimaaGreat
open Go.RowKit

/-- how many values an instruction pops, and pushes -/
def popsI (op : Int) (s : ByteArray) : Int := if op = 4 then 1 else if op = 5 then 1 else if op = 6 then 2 else if op = 7 then arity s else 0
def pushI (op : Int) : Int := if op = 4 then 0 else 1
set_option maxHeartbeats 400000 in
theorem iPops4 (s : ByteArray) (n : Int) (w : World) : Calls Tryz.prog 42 #[.agg #[.int .i64 4, .string s, .int .i64 n]] w fun e w' => e = .returned (.tuple #[.int .i64 1, .int .i64 0]) ∧ Ext w w' := by
  go_enter Tryz.func42, Tryz.ntmps42
  go_wp2
  exact bodyPost_ret (v := .tuple #[.int .i64 1, .int .i64 0]) (by simp [results, Tryz.results42, go_sem]) rfl ⟨rfl, (by repeat (first | with_reducible assumption | with_reducible exact Ext.refl _ | with_reducible apply Ext.alloc | with_reducible apply Ext.drew | with_reducible apply Ext.drewN | (with_reducible refine Ext.setCell ?_ (by simp; omega) _) | (with_reducible refine Ext.setCell ?_ (by simp) _)))⟩
set_option maxHeartbeats 400000 in
theorem iPops5 (s : ByteArray) (n : Int) (w : World) : Calls Tryz.prog 42 #[.agg #[.int .i64 5, .string s, .int .i64 n]] w fun e w' => e = .returned (.tuple #[.int .i64 1, .int .i64 1]) ∧ Ext w w' := by
  go_enter Tryz.func42, Tryz.ntmps42
  go_wp2
  exact bodyPost_ret (v := .tuple #[.int .i64 1, .int .i64 1]) (by simp [results, Tryz.results42, go_sem]) rfl ⟨rfl, (by repeat (first | with_reducible assumption | with_reducible exact Ext.refl _ | with_reducible apply Ext.alloc | with_reducible apply Ext.drew | with_reducible apply Ext.drewN | (with_reducible refine Ext.setCell ?_ (by simp; omega) _) | (with_reducible refine Ext.setCell ?_ (by simp) _)))⟩
set_option maxHeartbeats 400000 in
theorem iPops6 (s : ByteArray) (n : Int) (w : World) : Calls Tryz.prog 42 #[.agg #[.int .i64 6, .string s, .int .i64 n]] w fun e w' => e = .returned (.tuple #[.int .i64 2, .int .i64 1]) ∧ Ext w w' := by
  go_enter Tryz.func42, Tryz.ntmps42
  go_wp2
  exact bodyPost_ret (v := .tuple #[.int .i64 2, .int .i64 1]) (by simp [results, Tryz.results42, go_sem]) rfl ⟨rfl, (by repeat (first | with_reducible assumption | with_reducible exact Ext.refl _ | with_reducible apply Ext.alloc | with_reducible apply Ext.drew | with_reducible apply Ext.drewN | (with_reducible refine Ext.setCell ?_ (by simp; omega) _) | (with_reducible refine Ext.setCell ?_ (by simp) _)))⟩
set_option maxHeartbeats 400000 in
theorem iPops7 (s : ByteArray) (n : Int) (w : World) : Calls Tryz.prog 42 #[.agg #[.int .i64 7, .string s, .int .i64 n]] w fun e w' => e = .returned (.tuple #[.int .i64 (arity s), .int .i64 1]) ∧ Ext w w' := by
  go_enter Tryz.func42, Tryz.ntmps42
  go_wp2_with fail
  refine (iArity_any s _).mono ?_
  rintro e w1 ⟨rfl, rfl⟩
  go_wp2
  exact bodyPost_ret (v := .tuple #[.int .i64 (arity s), .int .i64 1]) (by simp [results, Tryz.results42, go_sem]) rfl ⟨rfl, (by repeat (first | with_reducible assumption | with_reducible exact Ext.refl _ | with_reducible apply Ext.alloc | with_reducible apply Ext.drew | with_reducible apply Ext.drewN | (with_reducible refine Ext.setCell ?_ (by simp; omega) _) | (with_reducible refine Ext.setCell ?_ (by simp) _)))⟩
set_option maxHeartbeats 400000 in
theorem iPopsE (op : Int) (s : ByteArray) (n : Int) (w : World) (h4 : op ≠ 4) (h5 : op ≠ 5) (h6 : op ≠ 6) (h7 : op ≠ 7) : Calls Tryz.prog 42 #[.agg #[.int .i64 op, .string s, .int .i64 n]] w fun e w' => e = .returned (.tuple #[.int .i64 0, .int .i64 1]) ∧ Ext w w' := by
  go_enter Tryz.func42, Tryz.ntmps42
  go_wp2
  exact bodyPost_ret (v := .tuple #[.int .i64 0, .int .i64 1]) (by simp [results, Tryz.results42, go_sem]) rfl ⟨rfl, (by repeat (first | with_reducible assumption | with_reducible exact Ext.refl _ | with_reducible apply Ext.alloc | with_reducible apply Ext.drew | with_reducible apply Ext.drewN | (with_reducible refine Ext.setCell ?_ (by simp; omega) _) | (with_reducible refine Ext.setCell ?_ (by simp) _)))⟩
theorem iPops_any (op : Int) (s : ByteArray) (n : Int) (w : World) : Calls Tryz.prog 42 #[.agg #[.int .i64 op, .string s, .int .i64 n]] w fun e w' => e = .returned (.tuple #[.int .i64 (popsI op s), .int .i64 (pushI op)]) ∧ Ext w w' := by
  unfold popsI pushI
  by_cases h4 : op = 4
  · subst h4; simpa using iPops4 s n w
  by_cases h5 : op = 5
  · subst h5; simpa using iPops5 s n w
  by_cases h6 : op = 6
  · subst h6; simpa using iPops6 s n w
  by_cases h7 : op = 7
  · subst h7; simpa using iPops7 s n w
  simp only [if_neg h4, if_neg h5, if_neg h6, if_neg h7]
  exact iPopsE op s n w h4 h5 h6 h7
end Go.Proofs.YtaegmenjgjdimaaGreat
