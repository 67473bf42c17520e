/- This text proves the operations of the shading language: arithmetic of the program, l17Op of the reference, and the lookup of the callee's texture. -/
import Derived.Test.YtjfcngbepjdfnaaGreatSh3
namespace Go.Proofs.YtjfcngbepjdfnaaGreat
open Go.RowKit

def opsOk (op : Int) : Prop := 3 ≤ op ∧ op ≤ 7
set_option maxHeartbeats 800000 in
theorem iArith3 {a b c : Int} (ha : S9 a) (hb : S9 b) (h : satI (-b) = c) (w : World) : Calls Tryz.prog 72 #[.int .i64 3, .int .i64 a, .int .i64 b] w fun e w' => e = .returned (.int .i64 c) ∧ w = w' := by
  have hm := mul9 ha hb
  have KA := hid ha
  have KB := hid hb
  obtain ⟨a1, a2⟩ := ha
  obtain ⟨b1, b2⟩ := hb
  have HR := hid h
  clear h
  go_enter Tryz.func72, Tryz.ntmps72
  go_wp2_with fail
  refine (iSaturate_val HR.out _).mono ?_
  rintro e w1 ⟨rfl, rfl⟩
  go_wp2
  go_ret
  exact ⟨rfl, rfl⟩
set_option maxHeartbeats 800000 in
theorem iArith4 {a b c : Int} (ha : S9 a) (hb : S9 b) (h : satI (a + b) = c) (w : World) : Calls Tryz.prog 72 #[.int .i64 4, .int .i64 a, .int .i64 b] w fun e w' => e = .returned (.int .i64 c) ∧ w = w' := by
  have hm := mul9 ha hb
  have KA := hid ha
  have KB := hid hb
  obtain ⟨a1, a2⟩ := ha
  obtain ⟨b1, b2⟩ := hb
  have HR := hid h
  clear h
  go_enter Tryz.func72, Tryz.ntmps72
  go_wp2_with fail
  refine (iSaturate_val HR.out _).mono ?_
  rintro e w1 ⟨rfl, rfl⟩
  go_wp2
  go_ret
  exact ⟨rfl, rfl⟩
set_option maxHeartbeats 800000 in
theorem iArith5 {a b c : Int} (ha : S9 a) (hb : S9 b) (h : satI (a - b) = c) (w : World) : Calls Tryz.prog 72 #[.int .i64 5, .int .i64 a, .int .i64 b] w fun e w' => e = .returned (.int .i64 c) ∧ w = w' := by
  have hm := mul9 ha hb
  have KA := hid ha
  have KB := hid hb
  obtain ⟨a1, a2⟩ := ha
  obtain ⟨b1, b2⟩ := hb
  have HR := hid h
  clear h
  go_enter Tryz.func72, Tryz.ntmps72
  go_wp2_with fail
  refine (iSaturate_val HR.out _).mono ?_
  rintro e w1 ⟨rfl, rfl⟩
  go_wp2
  go_ret
  exact ⟨rfl, rfl⟩
set_option maxHeartbeats 800000 in
theorem iArith6 {a b c : Int} (ha : S9 a) (hb : S9 b) (h : satI (fdiv (a * b) 256) = c) (w : World) : Calls Tryz.prog 72 #[.int .i64 6, .int .i64 a, .int .i64 b] w fun e w' => e = .returned (.int .i64 c) ∧ w = w' := by
  have hm := mul9 ha hb
  have KA := hid ha
  have KB := hid hb
  obtain ⟨a1, a2⟩ := ha
  obtain ⟨b1, b2⟩ := hb
  obtain ⟨q, hq⟩ : ∃ q, fdiv (a * b) 256 = q := ⟨_, rfl⟩
  rw [hq] at h
  have HR := hid h
  have HQ := hid hq
  clear h hq
  go_enter Tryz.func72, Tryz.ntmps72
  go_wp2_with fail
  refine (iFloorDiv_val (I64.mk (by omega) (by omega)) HQ.out _).mono ?_
  rintro e w1 ⟨rfl, rfl⟩
  go_wp2_with fail
  refine (iSaturate_val HR.out _).mono ?_
  rintro e w1 ⟨rfl, rfl⟩
  go_wp2
  go_ret
  exact ⟨rfl, rfl⟩
set_option maxHeartbeats 800000 in
theorem iArith7 {a b c : Int} (ha : S9 a) (hb : S9 b) (h : satI (ratI a b) = c) (w : World) : Calls Tryz.prog 72 #[.int .i64 7, .int .i64 a, .int .i64 b] w fun e w' => e = .returned (.int .i64 c) ∧ w = w' := by
  have hm := mul9 ha hb
  have KA := hid ha
  have KB := hid hb
  obtain ⟨a1, a2⟩ := ha
  obtain ⟨b1, b2⟩ := hb
  obtain ⟨q, hq⟩ : ∃ q, ratI a b = q := ⟨_, rfl⟩
  rw [hq] at h
  have HR := hid h
  have HQ := hid hq
  clear h hq
  go_enter Tryz.func72, Tryz.ntmps72
  go_wp2_with fail
  refine (iRatio_val KA.out KB.out HQ.out _).mono ?_
  rintro e w1 ⟨rfl, rfl⟩
  go_wp2_with fail
  refine (iSaturate_val HR.out _).mono ?_
  rintro e w1 ⟨rfl, rfl⟩
  go_wp2
  go_ret
  exact ⟨rfl, rfl⟩
theorem iArith_any {op a b c : Int} (ho : opsOk op) (ha : S9 a) (hb : S9 b) (h : arithI op a b = c) (w : World) : Calls Tryz.prog 72 #[.int .i64 op, .int .i64 a, .int .i64 b] w fun e w' => e = .returned (.int .i64 c) ∧ w = w' := by
  obtain ⟨h1, h2⟩ := ho
  unfold arithI opI at h
  rcases (show op = 3 ∨ op = 4 ∨ op = 5 ∨ op = 6 ∨ op = 7 by omega) with rfl | rfl | rfl | rfl | rfl
  · exact iArith3 ha hb (by simpa using h) w
  · exact iArith4 ha hb (by simpa using h) w
  · exact iArith5 ha hb (by simpa using h) w
  · exact iArith6 ha hb (by simpa using h) w
  · exact iArith7 ha hb (by simpa using h) w

set_option maxHeartbeats 800000 in
theorem sOp3 (lo hi : Nat) (u : Value) {a c : Int} (ha : S9 a) (h : -a = c) (w : World) (hu : Ints lo hi w u [a]) (hh : hi ≤ w.heap.size) : Calls Tryz.prog 81 #[.int .i64 3, u] w fun e w' => e = .returned (.int .i64 c) ∧ Ext w w' := by
  obtain ⟨k, off, cap, rfl, hb, d0, _⟩ := row1 hu
  have hb1 : k < w.heap.size := by omega
  have hb2 : k ≠ w.heap.size := by omega
  obtain ⟨a1, a2⟩ := ha
  have HR := hid h
  clear h hu
  go_enter Tryz.func81, Tryz.ntmps81
  go_wp2
  rw [HR.out]
  go_ret
  exact ⟨rfl, (by repeat (first | with_reducible assumption | with_reducible exact Ext.refl _ | with_reducible apply Ext.alloc | with_reducible apply Ext.drew | with_reducible apply Ext.drewN | (with_reducible refine Ext.setCell ?_ (by simp; omega) _) | (with_reducible refine Ext.setCell ?_ (by simp) _)))⟩
set_option maxHeartbeats 800000 in
theorem sOp4 (lo hi : Nat) (u : Value) {a b c : Int} (ha : S9 a) (hb : S9 b) (h : a + b = c) (w : World) (hu : Ints lo hi w u [a, b]) (hh : hi ≤ w.heap.size) : Calls Tryz.prog 81 #[.int .i64 4, u] w fun e w' => e = .returned (.int .i64 c) ∧ Ext w w' := by
  obtain ⟨k, off, cap, rfl, hbk, d0, d1, _⟩ := row2 hu
  have hb1 : k < w.heap.size := by omega
  have hb2 : k ≠ w.heap.size := by omega
  have hm := mul9 ha hb
  have KA := hid ha
  have KB := hid hb
  obtain ⟨b1, b2⟩ := hb
  obtain ⟨a1, a2⟩ := ha
  have HR := hid h
  clear h hu
  go_enter Tryz.func81, Tryz.ntmps81
  go_wp2_with fail
  refine wp_region_stages [([0, 1, 2, 3, 4, 5, 6], 7)] 99 w.heap.size (by kernel_rfl) (by kernel_rfl) ?_
  refine wpStages_cons ?_
  simp only [List.filterMap_cons, List.filterMap_nil, List.getElem?_toArray, List.getElem?_cons_zero, List.getElem?_cons_succ]
  show wpQuiet _ _ _ _ [_, _, _, _, _, _, _] _
  repeat (go_big_quiet_step (fail))
  refine wpQuiet_nil ⟨_, rfl, fun K hK => ?_⟩
  go_wp2_with fail
  refine hK _ _ (.inr (fun k _ hk => Ext.block (by repeat (with_reducible (first | assumption | exact Ext.refl _ | apply Ext.alloc | apply Ext.drew | apply Ext.drewN))) (by first | omega | (simp; omega)))) ?_
  clear hK K
  refine wpStages_nil ?_
  go_wp2
  rw [HR.out]
  go_ret
  exact ⟨rfl, (by repeat (first | with_reducible assumption | with_reducible exact Ext.refl _ | with_reducible apply Ext.alloc | with_reducible apply Ext.drew | with_reducible apply Ext.drewN | (with_reducible refine Ext.setCell ?_ (by simp; omega) _) | (with_reducible refine Ext.setCell ?_ (by simp) _)))⟩
set_option maxHeartbeats 800000 in
theorem sOp5 (lo hi : Nat) (u : Value) {a b c : Int} (ha : S9 a) (hb : S9 b) (h : a - b = c) (w : World) (hu : Ints lo hi w u [a, b]) (hh : hi ≤ w.heap.size) : Calls Tryz.prog 81 #[.int .i64 5, u] w fun e w' => e = .returned (.int .i64 c) ∧ Ext w w' := by
  obtain ⟨k, off, cap, rfl, hbk, d0, d1, _⟩ := row2 hu
  have hb1 : k < w.heap.size := by omega
  have hb2 : k ≠ w.heap.size := by omega
  have hm := mul9 ha hb
  have KA := hid ha
  have KB := hid hb
  obtain ⟨b1, b2⟩ := hb
  obtain ⟨a1, a2⟩ := ha
  have HR := hid h
  clear h hu
  go_enter Tryz.func81, Tryz.ntmps81
  go_wp2_with fail
  refine wp_region_stages [([0, 1, 2, 3, 4, 5, 6], 7)] 99 w.heap.size (by kernel_rfl) (by kernel_rfl) ?_
  refine wpStages_cons ?_
  simp only [List.filterMap_cons, List.filterMap_nil, List.getElem?_toArray, List.getElem?_cons_zero, List.getElem?_cons_succ]
  show wpQuiet _ _ _ _ [_, _, _, _, _, _, _] _
  repeat (go_big_quiet_step (fail))
  refine wpQuiet_nil ⟨_, rfl, fun K hK => ?_⟩
  go_wp2_with fail
  refine hK _ _ (.inr (fun k _ hk => Ext.block (by repeat (with_reducible (first | assumption | exact Ext.refl _ | apply Ext.alloc | apply Ext.drew | apply Ext.drewN))) (by first | omega | (simp; omega)))) ?_
  clear hK K
  refine wpStages_nil ?_
  go_wp2
  rw [HR.out]
  go_ret
  exact ⟨rfl, (by repeat (first | with_reducible assumption | with_reducible exact Ext.refl _ | with_reducible apply Ext.alloc | with_reducible apply Ext.drew | with_reducible apply Ext.drewN | (with_reducible refine Ext.setCell ?_ (by simp; omega) _) | (with_reducible refine Ext.setCell ?_ (by simp) _)))⟩
set_option maxHeartbeats 800000 in
theorem sOp6 (lo hi : Nat) (u : Value) {a b c : Int} (ha : S9 a) (hb : S9 b) (h : fdiv (a * b) 256 = c) (w : World) (hu : Ints lo hi w u [a, b]) (hh : hi ≤ w.heap.size) : Calls Tryz.prog 81 #[.int .i64 6, u] w fun e w' => e = .returned (.int .i64 c) ∧ Ext w w' := by
  obtain ⟨k, off, cap, rfl, hbk, d0, d1, _⟩ := row2 hu
  have hb1 : k < w.heap.size := by omega
  have hb2 : k ≠ w.heap.size := by omega
  have hm := mul9 ha hb
  have KA := hid ha
  have KB := hid hb
  obtain ⟨b1, b2⟩ := hb
  obtain ⟨a1, a2⟩ := ha
  have HR := hid h
  clear h hu
  go_enter Tryz.func81, Tryz.ntmps81
  go_wp2_with fail
  refine wp_region_stages [([0, 1, 2, 3, 4, 5, 6], 7), ([], 8)] 99 w.heap.size (by kernel_rfl) (by kernel_rfl) ?_
  refine wpStages_cons ?_
  simp only [List.filterMap_cons, List.filterMap_nil, List.getElem?_toArray, List.getElem?_cons_zero, List.getElem?_cons_succ]
  show wpQuiet _ _ _ _ [_, _, _, _, _, _, _] _
  repeat (go_big_quiet_step (fail))
  refine wpQuiet_nil ⟨_, rfl, fun K hK => ?_⟩
  go_wp2_with fail
  refine (sFloorDiv_val (I64.mk (by omega) (by omega)) HR.out _).mono ?_
  rintro e w1 ⟨rfl, rfl⟩
  go_wp2_with fail
  refine hK _ _ (.inr (fun k _ hk => Ext.block (by repeat (with_reducible (first | assumption | exact Ext.refl _ | apply Ext.alloc | apply Ext.drew | apply Ext.drewN))) (by first | omega | (simp; omega)))) ?_
  clear hK K
  refine wpStages_cons ?_
  simp only [List.filterMap_nil]
  show wpQuiet _ _ _ _ [] _
  try simp only [Act.put, List.setIfInBounds_toArray, List.set_cons_succ, List.set_cons_zero]
  repeat (go_big_quiet_step (fail))
  refine wpQuiet_nil ⟨_, rfl, fun K hK => ?_⟩
  go_wp2_with fail
  refine hK _ _ (.inr (fun k _ hk => Ext.block (by repeat (with_reducible (first | assumption | exact Ext.refl _ | apply Ext.alloc | apply Ext.drew | apply Ext.drewN))) (by first | omega | (simp; omega)))) ?_
  clear hK K
  refine wpStages_nil ?_
  go_wp2
  go_ret
  exact ⟨rfl, (by repeat (first | with_reducible assumption | with_reducible exact Ext.refl _ | with_reducible apply Ext.alloc | with_reducible apply Ext.drew | with_reducible apply Ext.drewN | (with_reducible refine Ext.setCell ?_ (by simp; omega) _) | (with_reducible refine Ext.setCell ?_ (by simp) _)))⟩
set_option maxHeartbeats 800000 in
theorem sOp7 (lo hi : Nat) (u : Value) {a b c : Int} (ha : S9 a) (hb : S9 b) (h : ratI a b = c) (w : World) (hu : Ints lo hi w u [a, b]) (hh : hi ≤ w.heap.size) : Calls Tryz.prog 81 #[.int .i64 7, u] w fun e w' => e = .returned (.int .i64 c) ∧ Ext w w' := by
  obtain ⟨k, off, cap, rfl, hbk, d0, d1, _⟩ := row2 hu
  have hb1 : k < w.heap.size := by omega
  have hb2 : k ≠ w.heap.size := by omega
  have hm := mul9 ha hb
  have KA := hid ha
  have KB := hid hb
  obtain ⟨b1, b2⟩ := hb
  obtain ⟨a1, a2⟩ := ha
  have HR := hid h
  clear h hu
  go_enter Tryz.func81, Tryz.ntmps81
  go_wp2_with fail
  refine wp_region_stages [([0, 1, 2, 3, 4, 5, 6], 7), ([], 8)] 99 w.heap.size (by kernel_rfl) (by kernel_rfl) ?_
  refine wpStages_cons ?_
  simp only [List.filterMap_cons, List.filterMap_nil, List.getElem?_toArray, List.getElem?_cons_zero, List.getElem?_cons_succ]
  show wpQuiet _ _ _ _ [_, _, _, _, _, _, _] _
  repeat (go_big_quiet_step (fail))
  refine wpQuiet_nil ⟨_, rfl, fun K hK => ?_⟩
  go_wp2_with fail
  refine (sQuotient_val KA.out KB.out HR.out _).mono ?_
  rintro e w1 ⟨rfl, rfl⟩
  go_wp2_with fail
  refine hK _ _ (.inr (fun k _ hk => Ext.block (by repeat (with_reducible (first | assumption | exact Ext.refl _ | apply Ext.alloc | apply Ext.drew | apply Ext.drewN))) (by first | omega | (simp; omega)))) ?_
  clear hK K
  refine wpStages_cons ?_
  simp only [List.filterMap_nil]
  show wpQuiet _ _ _ _ [] _
  try simp only [Act.put, List.setIfInBounds_toArray, List.set_cons_succ, List.set_cons_zero]
  repeat (go_big_quiet_step (fail))
  refine wpQuiet_nil ⟨_, rfl, fun K hK => ?_⟩
  go_wp2_with fail
  refine hK _ _ (.inr (fun k _ hk => Ext.block (by repeat (with_reducible (first | assumption | exact Ext.refl _ | apply Ext.alloc | apply Ext.drew | apply Ext.drewN))) (by first | omega | (simp; omega)))) ?_
  clear hK K
  refine wpStages_nil ?_
  go_wp2
  go_ret
  exact ⟨rfl, (by repeat (first | with_reducible assumption | with_reducible exact Ext.refl _ | with_reducible apply Ext.alloc | with_reducible apply Ext.drew | with_reducible apply Ext.drewN | (with_reducible refine Ext.setCell ?_ (by simp; omega) _) | (with_reducible refine Ext.setCell ?_ (by simp) _)))⟩
/-- the arguments of an operation on the reference's side -/
def opArgs (op a b : Int) : List Int := if op = 3 then [b] else [a, b]
theorem sOp_any (lo hi : Nat) (u : Value) {op a b c : Int} (ho : opsOk op) (ha : S9 a) (hb : S9 b) (h : opI op a b = c) (w : World) (hu : Ints lo hi w u (opArgs op a b)) (hh : hi ≤ w.heap.size) :
    Calls Tryz.prog 81 #[.int .i64 op, u] w fun e w' => e = .returned (.int .i64 c) ∧ Ext w w' := by
  obtain ⟨h1, h2⟩ := ho
  unfold opI at h
  rcases (show op = 3 ∨ op = 4 ∨ op = 5 ∨ op = 6 ∨ op = 7 by omega) with rfl | rfl | rfl | rfl | rfl
  · exact sOp3 lo hi u hb (by simpa using h) w hu hh
  · exact sOp4 lo hi u ha hb (by simpa using h) w hu hh
  · exact sOp5 lo hi u ha hb (by simpa using h) w hu hh
  · exact sOp6 lo hi u ha hb (by simpa using h) w hu hh
  · exact sOp7 lo hi u ha hb (by simpa using h) w hu hh
end Go.Proofs.YtjfcngbepjdfnaaGreat
