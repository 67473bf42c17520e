/- This text proves the arity of a function's name, of both sides, and the pairs of neighbours. -/
import Derived.Test.YtaegmenjgjdimaaGreatSh11
namespace Go.Proofs.YtaegmenjgjdimaaGreat
open Go.RowKit

/-- the number of parameters -/
def arityL (s : List UInt8) : Int :=
  if s == [97, 98, 115] then 1 else if s == [102, 108, 111, 111, 114] then 1 else if s == [100, 117] then 1 else if s == [100, 118] then 1
  else if s == [109, 105, 110] then 2 else if s == [109, 97, 120] then 2 else if s == [115, 116, 101, 112] then 2 else if s == [110, 111, 105, 115, 101] then 2 else if s == [116, 101, 120] then 2
  else if s == [99, 108, 97, 109, 112] then 3 else if s == [109, 105, 120] then 3
  else -1
def arity (s : ByteArray) : Int := arityL s.toList
set_option maxHeartbeats 1600000 in
theorem iArity_any (s : ByteArray) (w : World) : Calls Tryz.prog 69 #[.string s] w fun e w' => e = .returned (.int .i64 (arity s)) ∧ w = w' := by
  go_enter Tryz.func69, Tryz.ntmps69
  go_wp2
  all_goals go_ret
  all_goals first | (exfalso; simp_all; done) | (simp [arity, arityL, *]; done) | simp_all [arity, arityL]
set_option maxHeartbeats 1600000 in
theorem sArity_any (s : ByteArray) (w : World) : Calls Tryz.prog 78 #[.string s] w fun e w' => e = .returned (.int .i64 (arity s)) ∧ w = w' := by
  go_enter Tryz.func78, Tryz.ntmps78
  go_wp2
  all_goals go_ret
  all_goals first | (exfalso; simp_all; done) | (simp [arity, arityL, *]; done) | simp_all [arity, arityL]
/-- the names of the predefined variables -/
def isVar (s : ByteArray) : Bool := s.toList == [117] || s.toList == [118] || s.toList == [120] || s.toList == [121] || s.toList == [122] || s.toList == [116]
set_option maxHeartbeats 1600000 in
theorem iIsVariable_any (s : ByteArray) (w : World) : Calls Tryz.prog 54 #[.string s] w fun e w' => e = .returned (.bool (isVar s)) ∧ w = w' := by
  go_enter Tryz.func54, Tryz.ntmps54
  go_wp2
  all_goals go_ret
  all_goals first | (exfalso; simp_all; done) | (simp [isVar, *]; done) | simp_all [isVar]
end Go.Proofs.YtaegmenjgjdimaaGreat
