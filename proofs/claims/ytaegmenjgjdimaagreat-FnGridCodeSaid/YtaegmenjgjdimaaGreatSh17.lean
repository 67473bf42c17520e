/- This text proves when an instruction is well formed: the program's. -/
import Derived.Test.YtaegmenjgjdimaaGreatSh16
namespace Go.Proofs.YtaegmenjgjdimaaGreat
open Go.RowKit

set_option maxHeartbeats 800000 in
theorem iWf1n (s : ByteArray) (n L : Int) (w : World) (he : (s.toList == []) = false) : Calls Tryz.prog 41 #[.agg #[.int .i64 1, .string s, .int .i64 n], .int .i64 L] w fun e w' => e = .returned (.bool false) ∧ Ext w w' := by
  go_enter Tryz.func41, Tryz.ntmps41
  go_wp2
  go_ret
  exact ⟨rfl, (by repeat (first | with_reducible assumption | with_reducible exact Ext.refl _ | with_reducible apply Ext.alloc | with_reducible apply Ext.drew | with_reducible apply Ext.drewN | (with_reducible refine Ext.setCell ?_ (by simp; omega) _) | (with_reducible refine Ext.setCell ?_ (by simp) _)))⟩
set_option maxHeartbeats 800000 in
theorem iWf3n (s : ByteArray) (n L : Int) (w : World) (he : (s.toList == []) = false) : Calls Tryz.prog 41 #[.agg #[.int .i64 3, .string s, .int .i64 n], .int .i64 L] w fun e w' => e = .returned (.bool false) ∧ Ext w w' := by
  go_enter Tryz.func41, Tryz.ntmps41
  go_wp2
  go_ret
  exact ⟨rfl, (by repeat (first | with_reducible assumption | with_reducible exact Ext.refl _ | with_reducible apply Ext.alloc | with_reducible apply Ext.drew | with_reducible apply Ext.drewN | (with_reducible refine Ext.setCell ?_ (by simp; omega) _) | (with_reducible refine Ext.setCell ?_ (by simp) _)))⟩
set_option maxHeartbeats 800000 in
theorem iWf4n (s : ByteArray) (n L : Int) (w : World) (he : (s.toList == []) = false) : Calls Tryz.prog 41 #[.agg #[.int .i64 4, .string s, .int .i64 n], .int .i64 L] w fun e w' => e = .returned (.bool false) ∧ Ext w w' := by
  go_enter Tryz.func41, Tryz.ntmps41
  go_wp2
  go_ret
  exact ⟨rfl, (by repeat (first | with_reducible assumption | with_reducible exact Ext.refl _ | with_reducible apply Ext.alloc | with_reducible apply Ext.drew | with_reducible apply Ext.drewN | (with_reducible refine Ext.setCell ?_ (by simp; omega) _) | (with_reducible refine Ext.setCell ?_ (by simp) _)))⟩
set_option maxHeartbeats 800000 in
theorem iWf5n (s : ByteArray) (n L : Int) (w : World) (he : (s.toList == []) = false) : Calls Tryz.prog 41 #[.agg #[.int .i64 5, .string s, .int .i64 n], .int .i64 L] w fun e w' => e = .returned (.bool false) ∧ Ext w w' := by
  go_enter Tryz.func41, Tryz.ntmps41
  go_wp2
  go_ret
  exact ⟨rfl, (by repeat (first | with_reducible assumption | with_reducible exact Ext.refl _ | with_reducible apply Ext.alloc | with_reducible apply Ext.drew | with_reducible apply Ext.drewN | (with_reducible refine Ext.setCell ?_ (by simp; omega) _) | (with_reducible refine Ext.setCell ?_ (by simp) _)))⟩
set_option maxHeartbeats 800000 in
theorem iWf6n (s : ByteArray) (n L : Int) (w : World) (he : (s.toList == []) = false) : Calls Tryz.prog 41 #[.agg #[.int .i64 6, .string s, .int .i64 n], .int .i64 L] w fun e w' => e = .returned (.bool false) ∧ Ext w w' := by
  go_enter Tryz.func41, Tryz.ntmps41
  go_wp2
  go_ret
  exact ⟨rfl, (by repeat (first | with_reducible assumption | with_reducible exact Ext.refl _ | with_reducible apply Ext.alloc | with_reducible apply Ext.drew | with_reducible apply Ext.drewN | (with_reducible refine Ext.setCell ?_ (by simp; omega) _) | (with_reducible refine Ext.setCell ?_ (by simp) _)))⟩
set_option maxHeartbeats 800000 in
theorem iWf1 (s : ByteArray) (n L : Int) (w : World) (he : (s.toList == []) = true) : Calls Tryz.prog 41 #[.agg #[.int .i64 1, .string s, .int .i64 n], .int .i64 L] w fun e w' => e = .returned (.bool true) ∧ Ext w w' := by
  go_enter Tryz.func41, Tryz.ntmps41
  go_wp2
  go_ret
  exact ⟨rfl, (by repeat (first | with_reducible assumption | with_reducible exact Ext.refl _ | with_reducible apply Ext.alloc | with_reducible apply Ext.drew | with_reducible apply Ext.drewN | (with_reducible refine Ext.setCell ?_ (by simp; omega) _) | (with_reducible refine Ext.setCell ?_ (by simp) _)))⟩
set_option maxHeartbeats 800000 in
theorem iWf3 (s : ByteArray) (n L : Int) (w : World) (he : (s.toList == []) = true) (h0 : 0 ≤ L) (h1 : L ≤ 2000000) : Calls Tryz.prog 41 #[.agg #[.int .i64 3, .string s, .int .i64 n], .int .i64 L] w fun e w' => e = .returned (.bool (inB n 0 (L - 1))) ∧ Ext w w' := by
  go_enter Tryz.func41, Tryz.ntmps41
  go_wp2_with fail
  refine (within_any n 0 (L - 1) _).mono ?_
  rintro e w1 ⟨rfl, rfl⟩
  go_wp2
  go_ret
  exact ⟨rfl, (by repeat (first | with_reducible assumption | with_reducible exact Ext.refl _ | with_reducible apply Ext.alloc | with_reducible apply Ext.drew | with_reducible apply Ext.drewN | (with_reducible refine Ext.setCell ?_ (by simp; omega) _) | (with_reducible refine Ext.setCell ?_ (by simp) _)))⟩
set_option maxHeartbeats 800000 in
theorem iWf4 (s : ByteArray) (n L : Int) (w : World) (he : (s.toList == []) = true) (h0 : 0 ≤ L) (h1 : L ≤ 2000000) : Calls Tryz.prog 41 #[.agg #[.int .i64 4, .string s, .int .i64 n], .int .i64 L] w fun e w' => e = .returned (.bool (inB n 0 (L - 1))) ∧ Ext w w' := by
  go_enter Tryz.func41, Tryz.ntmps41
  go_wp2_with fail
  refine (within_any n 0 (L - 1) _).mono ?_
  rintro e w1 ⟨rfl, rfl⟩
  go_wp2
  go_ret
  exact ⟨rfl, (by repeat (first | with_reducible assumption | with_reducible exact Ext.refl _ | with_reducible apply Ext.alloc | with_reducible apply Ext.drew | with_reducible apply Ext.drewN | (with_reducible refine Ext.setCell ?_ (by simp; omega) _) | (with_reducible refine Ext.setCell ?_ (by simp) _)))⟩
set_option maxHeartbeats 800000 in
theorem iWf5 (s : ByteArray) (n L : Int) (w : World) (he : (s.toList == []) = true) : Calls Tryz.prog 41 #[.agg #[.int .i64 5, .string s, .int .i64 n], .int .i64 L] w fun e w' => e = .returned (.bool (decide (n = 3))) ∧ Ext w w' := by
  go_enter Tryz.func41, Tryz.ntmps41
  go_wp2
  go_ret
  exact ⟨rfl, (by repeat (first | with_reducible assumption | with_reducible exact Ext.refl _ | with_reducible apply Ext.alloc | with_reducible apply Ext.drew | with_reducible apply Ext.drewN | (with_reducible refine Ext.setCell ?_ (by simp; omega) _) | (with_reducible refine Ext.setCell ?_ (by simp) _)))⟩
set_option maxHeartbeats 800000 in
theorem iWf6 (s : ByteArray) (n L : Int) (w : World) (he : (s.toList == []) = true) : Calls Tryz.prog 41 #[.agg #[.int .i64 6, .string s, .int .i64 n], .int .i64 L] w fun e w' => e = .returned (.bool (inB n 4 7)) ∧ Ext w w' := by
  go_enter Tryz.func41, Tryz.ntmps41
  go_wp2_with fail
  refine (within_any n 4 7 _).mono ?_
  rintro e w1 ⟨rfl, rfl⟩
  go_wp2
  go_ret
  exact ⟨rfl, (by repeat (first | with_reducible assumption | with_reducible exact Ext.refl _ | with_reducible apply Ext.alloc | with_reducible apply Ext.drew | with_reducible apply Ext.drewN | (with_reducible refine Ext.setCell ?_ (by simp; omega) _) | (with_reducible refine Ext.setCell ?_ (by simp) _)))⟩
set_option maxHeartbeats 800000 in
theorem iWf2n (s : ByteArray) (n L : Int) (w : World) (he : isVar s = false) : Calls Tryz.prog 41 #[.agg #[.int .i64 2, .string s, .int .i64 n], .int .i64 L] w fun e w' => e = .returned (.bool false) ∧ Ext w w' := by
  go_enter Tryz.func41, Tryz.ntmps41
  go_wp2_with fail
  refine (iIsVariable_any s _).mono ?_
  rintro e w1 ⟨rfl, rfl⟩
  rw [he]
  go_wp2
  go_ret
  exact ⟨rfl, (by repeat (first | with_reducible assumption | with_reducible exact Ext.refl _ | with_reducible apply Ext.alloc | with_reducible apply Ext.drew | with_reducible apply Ext.drewN | (with_reducible refine Ext.setCell ?_ (by simp; omega) _) | (with_reducible refine Ext.setCell ?_ (by simp) _)))⟩
set_option maxHeartbeats 800000 in
theorem iWf2 (s : ByteArray) (n L : Int) (w : World) (he : isVar s = true) : Calls Tryz.prog 41 #[.agg #[.int .i64 2, .string s, .int .i64 n], .int .i64 L] w fun e w' => e = .returned (.bool (decide (n = 0))) ∧ Ext w w' := by
  go_enter Tryz.func41, Tryz.ntmps41
  go_wp2_with fail
  refine (iIsVariable_any s _).mono ?_
  rintro e w1 ⟨rfl, rfl⟩
  rw [he]
  go_wp2
  go_ret
  exact ⟨rfl, (by repeat (first | with_reducible assumption | with_reducible exact Ext.refl _ | with_reducible apply Ext.alloc | with_reducible apply Ext.drew | with_reducible apply Ext.drewN | (with_reducible refine Ext.setCell ?_ (by simp; omega) _) | (with_reducible refine Ext.setCell ?_ (by simp) _)))⟩
set_option maxHeartbeats 800000 in
theorem iWf7 (s : ByteArray) (n L : Int) (w : World) (he : 0 ≤ arity s) : Calls Tryz.prog 41 #[.agg #[.int .i64 7, .string s, .int .i64 n], .int .i64 L] w fun e w' => e = .returned (.bool (decide (n = 0))) ∧ Ext w w' := by
  obtain ⟨k, hk⟩ : ∃ k, arity s = k := ⟨_, rfl⟩
  rw [hk] at he
  have HA := hid hk
  clear hk
  go_enter Tryz.func41, Tryz.ntmps41
  go_wp2_with fail
  refine (iArity_any s _).mono ?_
  rintro e w1 ⟨rfl, rfl⟩
  rw [HA.out]
  go_wp2
  go_ret
  exact ⟨rfl, (by repeat (first | with_reducible assumption | with_reducible exact Ext.refl _ | with_reducible apply Ext.alloc | with_reducible apply Ext.drew | with_reducible apply Ext.drewN | (with_reducible refine Ext.setCell ?_ (by simp; omega) _) | (with_reducible refine Ext.setCell ?_ (by simp) _)))⟩
set_option maxHeartbeats 800000 in
theorem iWf7n (s : ByteArray) (n L : Int) (w : World) (he : arity s < 0) : Calls Tryz.prog 41 #[.agg #[.int .i64 7, .string s, .int .i64 n], .int .i64 L] w fun e w' => e = .returned (.bool false) ∧ Ext w w' := by
  obtain ⟨k, hk⟩ : ∃ k, arity s = k := ⟨_, rfl⟩
  rw [hk] at he
  have HA := hid hk
  clear hk
  go_enter Tryz.func41, Tryz.ntmps41
  go_wp2_with fail
  refine (iArity_any s _).mono ?_
  rintro e w1 ⟨rfl, rfl⟩
  rw [HA.out]
  go_wp2
  go_ret
  exact ⟨rfl, (by repeat (first | with_reducible assumption | with_reducible exact Ext.refl _ | with_reducible apply Ext.alloc | with_reducible apply Ext.drew | with_reducible apply Ext.drewN | (with_reducible refine Ext.setCell ?_ (by simp; omega) _) | (with_reducible refine Ext.setCell ?_ (by simp) _)))⟩
set_option maxHeartbeats 800000 in
theorem iWfE (op : Int) (s : ByteArray) (n L : Int) (w : World) (h : ¬(1 ≤ op ∧ op ≤ 7)) : Calls Tryz.prog 41 #[.agg #[.int .i64 op, .string s, .int .i64 n], .int .i64 L] w fun e w' => e = .returned (.bool false) ∧ Ext w w' := by
  have h1 : op ≠ 1 := by omega
  have h2 : op ≠ 2 := by omega
  have h3 : op ≠ 3 := by omega
  have h4 : op ≠ 4 := by omega
  have h5 : op ≠ 5 := by omega
  have h6 : op ≠ 6 := by omega
  have h7 : op ≠ 7 := by omega
  clear h
  go_enter Tryz.func41, Tryz.ntmps41
  go_wp2
  go_ret
  exact ⟨rfl, (by repeat (first | with_reducible assumption | with_reducible exact Ext.refl _ | with_reducible apply Ext.alloc | with_reducible apply Ext.drew | with_reducible apply Ext.drewN | (with_reducible refine Ext.setCell ?_ (by simp; omega) _) | (with_reducible refine Ext.setCell ?_ (by simp) _)))⟩
end Go.Proofs.YtaegmenjgjdimaaGreat
