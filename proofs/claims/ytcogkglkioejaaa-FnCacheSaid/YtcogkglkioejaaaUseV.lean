/- This text holds what the use of a tile makes of a cache. -/
import Derived.Test.YtcogkglkioejaaaCch
namespace Go.Proofs.Ytcogkglkioejaaa

/-- a cache after the use of a tile -/
def CV.use (C : CV) (t : T3) : CV :=
  if C.ok then ⟨C.room, if C.room < ((C.L.erase t ++ [t]).length : Int) then (C.L.erase t ++ [t]).tail else C.L.erase t ++ [t], if t ∈ C.L then C.loads else C.loads + 1⟩ else C
theorem CV.ok_nodup {C : CV} (h : C.ok = true) : C.L.Nodup := by
  unfold CV.ok at h
  simp only [Bool.and_eq_true, decide_eq_true_eq] at h
  exact h.2
theorem CV.ok_bd {C : CV} (h : C.ok = true) : (C.L.length : Int) ≤ C.room ∧ C.room ≤ 12 ∧ 1 ≤ C.room ∧ 0 ≤ C.loads ∧ C.loads ≤ 1000000000 := by
  unfold CV.ok at h
  simp only [Bool.and_eq_true, decide_eq_true_eq, inB_iff] at h
  omega
end Go.Proofs.Ytcogkglkioejaaa
