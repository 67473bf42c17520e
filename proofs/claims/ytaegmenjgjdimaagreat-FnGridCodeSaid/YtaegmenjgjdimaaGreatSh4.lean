/- This text proves the operations of the shading language: arithmetic of the program, l17Op of the reference, and the lookup of the callee's texture. -/
import Derived.Test.YtaegmenjgjdimaaGreatSh3
namespace Go.Proofs.YtaegmenjgjdimaaGreat
open Go.RowKit

def opsOk (op : Int) : Prop := 3 ≤ op ∧ op ≤ 7
set_option maxHeartbeats 800000 in
theorem iArith3 {a b c : Int} (ha : S9 a) (hb : S9 b) (h : satI (-b) = c) (w : World) : Calls Tryz.prog 64 #[.int .i64 3, .int .i64 a, .int .i64 b] w fun e w' => e = .returned (.int .i64 c) ∧ w = w' := by
  have hm := mul9 ha hb
  have KA := hid ha
  have KB := hid hb
  obtain ⟨a1, a2⟩ := ha
  obtain ⟨b1, b2⟩ := hb
  have HR := hid h
  clear h
  go_enter Tryz.func64, Tryz.ntmps64
  go_wp2_with fail
  refine (iSaturate_val HR.out _).mono ?_
  rintro e w1 ⟨rfl, rfl⟩
  go_wp2
  go_ret
  exact ⟨rfl, rfl⟩
set_option maxHeartbeats 800000 in
theorem iArith4 {a b c : Int} (ha : S9 a) (hb : S9 b) (h : satI (a + b) = c) (w : World) : Calls Tryz.prog 64 #[.int .i64 4, .int .i64 a, .int .i64 b] w fun e w' => e = .returned (.int .i64 c) ∧ w = w' := by
  have hm := mul9 ha hb
  have KA := hid ha
  have KB := hid hb
  obtain ⟨a1, a2⟩ := ha
  obtain ⟨b1, b2⟩ := hb
  have HR := hid h
  clear h
  go_enter Tryz.func64, Tryz.ntmps64
  go_wp2_with fail
  refine (iSaturate_val HR.out _).mono ?_
  rintro e w1 ⟨rfl, rfl⟩
  go_wp2
  go_ret
  exact ⟨rfl, rfl⟩
set_option maxHeartbeats 800000 in
theorem iArith5 {a b c : Int} (ha : S9 a) (hb : S9 b) (h : satI (a - b) = c) (w : World) : Calls Tryz.prog 64 #[.int .i64 5, .int .i64 a, .int .i64 b] w fun e w' => e = .returned (.int .i64 c) ∧ w = w' := by
  have hm := mul9 ha hb
  have KA := hid ha
  have KB := hid hb
  obtain ⟨a1, a2⟩ := ha
  obtain ⟨b1, b2⟩ := hb
  have HR := hid h
  clear h
  go_enter Tryz.func64, Tryz.ntmps64
  go_wp2_with fail
  refine (iSaturate_val HR.out _).mono ?_
  rintro e w1 ⟨rfl, rfl⟩
  go_wp2
  go_ret
  exact ⟨rfl, rfl⟩
set_option maxHeartbeats 800000 in
theorem iArith6 {a b c : Int} (ha : S9 a) (hb : S9 b) (h : satI (fdiv (a * b) 256) = c) (w : World) : Calls Tryz.prog 64 #[.int .i64 6, .int .i64 a, .int .i64 b] w fun e w' => e = .returned (.int .i64 c) ∧ w = w' := by
  have hm := mul9 ha hb
  have KA := hid ha
  have KB := hid hb
  obtain ⟨a1, a2⟩ := ha
  obtain ⟨b1, b2⟩ := hb
  obtain ⟨q, hq⟩ : ∃ q, fdiv (a * b) 256 = q := ⟨_, rfl⟩
  rw [hq] at h
  have HR := hid h
  have HQ := hid hq
  clear h hq
  go_enter Tryz.func64, Tryz.ntmps64
  go_wp2_with fail
  refine (iFloorDiv_val (I64.mk (by omega) (by omega)) HQ.out _).mono ?_
  rintro e w1 ⟨rfl, rfl⟩
  go_wp2_with fail
  refine (iSaturate_val HR.out _).mono ?_
  rintro e w1 ⟨rfl, rfl⟩
  go_wp2
  go_ret
  exact ⟨rfl, rfl⟩
set_option maxHeartbeats 800000 in
theorem iArith7 {a b c : Int} (ha : S9 a) (hb : S9 b) (h : satI (ratI a b) = c) (w : World) : Calls Tryz.prog 64 #[.int .i64 7, .int .i64 a, .int .i64 b] w fun e w' => e = .returned (.int .i64 c) ∧ w = w' := by
  have hm := mul9 ha hb
  have KA := hid ha
  have KB := hid hb
  obtain ⟨a1, a2⟩ := ha
  obtain ⟨b1, b2⟩ := hb
  obtain ⟨q, hq⟩ : ∃ q, ratI a b = q := ⟨_, rfl⟩
  rw [hq] at h
  have HR := hid h
  have HQ := hid hq
  clear h hq
  go_enter Tryz.func64, Tryz.ntmps64
  go_wp2_with fail
  refine (iRatio_val KA.out KB.out HQ.out _).mono ?_
  rintro e w1 ⟨rfl, rfl⟩
  go_wp2_with fail
  refine (iSaturate_val HR.out _).mono ?_
  rintro e w1 ⟨rfl, rfl⟩
  go_wp2
  go_ret
  exact ⟨rfl, rfl⟩
theorem iArith_any {op a b c : Int} (ho : opsOk op) (ha : S9 a) (hb : S9 b) (h : arithI op a b = c) (w : World) : Calls Tryz.prog 64 #[.int .i64 op, .int .i64 a, .int .i64 b] w fun e w' => e = .returned (.int .i64 c) ∧ w = w' := by
  obtain ⟨h1, h2⟩ := ho
  unfold arithI opI at h
  rcases (show op = 3 ∨ op = 4 ∨ op = 5 ∨ op = 6 ∨ op = 7 by omega) with rfl | rfl | rfl | rfl | rfl
  · exact iArith3 ha hb (by simpa using h) w
  · exact iArith4 ha hb (by simpa using h) w
  · exact iArith5 ha hb (by simpa using h) w
  · exact iArith6 ha hb (by simpa using h) w
  · exact iArith7 ha hb (by simpa using h) w

/-- the arguments of an operation on the reference's side -/
def opArgs (op a b : Int) : List Int := if op = 3 then [b] else [a, b]
end Go.Proofs.YtaegmenjgjdimaaGreat
