/- This text proves what the program's Join hands back. -/
import Derived.Test.YtkcghoeklbcihaaGreatDoorStrs
namespace Go.Proofs.YtkcghoeklbcihaaGreatDoor
open Go.RowKit

theorem strJoin_any (lo hi : Nat) (u : Value) (xs : List ByteArray) (sep : ByteArray) (w : World) (hu : Strs lo hi w u xs) (hh : hi ≤ w.heap.size) (h1 : ∀ x ∈ xs, x.size ≤ 2000000) (h2 : xs.length ≤ 2000000) (h3 : sep.size ≤ 2000000) :
    Calls Tryz.prog 75 #[u, .string sep] w fun e w' => e = .returned (.string (joinB xs sep)) ∧ Ext w w' := by
  obtain ⟨a, cap, rfl, HU⟩ := hu.open
  cases xs with
  | nil =>
    refine (Tryz.strings_Join_none a cap sep w).mono ?_
    rintro e w' ⟨rfl, rfl⟩
    exact ⟨ret_str (joinB_nil _).symm, Ext.refl _⟩
  | cons y r =>
    obtain ⟨b, off, rfl, hb1, hb2, _⟩ := HU.at (k := 0) (by simp)
    have hs := joinB_size (y :: r) sep 2000000 h1 h3
    have hm : (y :: r).length * (2 * 2000000) ≤ 2000000 * (2 * 2000000) := Nat.mul_le_mul_right _ h2
    have e : (joinB (y :: r) sep).size = (Lib.join ((y :: r).map (·.data.toList)) sep.data.toList).length := by
      show (Lib.join ((y :: r).map (·.data.toList)) sep.data.toList).toArray.size = _
      rw [List.size_toArray]
    refine (Tryz.strings_Join b off cap (y :: r) sep w (fun j x hx => ?_) (by omega) (by omega) HU.le (by rw [← e]; omega)).mono ?_
    · obtain ⟨b', off', e, _, _, hc⟩ := HU.cell j x hx
      simp only [Option.some.injEq, Addr.mk.injEq, and_true] at e
      obtain ⟨rfl, rfl⟩ := e
      exact hc
    · rintro e w' ⟨rfl, hx⟩
      exact ⟨rfl, hx⟩

set_option maxHeartbeats 400000 in
theorem joinAll_any (lo hi : Nat) (u : Value) (xs : List ByteArray) (sep : ByteArray) (w : World) (hu : Strs lo hi w u xs) (hh : hi ≤ w.heap.size) (h1 : ∀ x ∈ xs, x.size ≤ 2000000) (h2 : xs.length ≤ 2000000) (h3 : sep.size ≤ 2000000) :
    Calls Tryz.prog 66 #[.string sep, u] w fun e w' => e = .returned (.string (joinB xs sep)) ∧ Ext w w' := by
  have HJ := hid (strJoin_any lo hi u xs sep w hu hh h1 h2 h3)
  obtain ⟨a, cap, rfl, _⟩ := hu.open
  clear hu h1 h2 h3
  go_enter Tryz.func66, Tryz.ntmps66
  go_wp2_with fail
  refine HJ.out.mono ?_
  rintro e w1 ⟨rfl, x1⟩
  go_wp2
  go_ret
  exact ⟨rfl, x1⟩

set_option maxHeartbeats 400000 in
theorem iJoin_any (lo hi : Nat) (u : Value) (xs : List ByteArray) (sep : ByteArray) (w : World) (hu : Strs lo hi w u xs) (hh : hi ≤ w.heap.size) (h1 : ∀ x ∈ xs, x.size ≤ 2000000) (h2 : xs.length ≤ 2000000) (h3 : sep.size ≤ 2000000) :
    Calls Tryz.prog 48 #[u, .string sep] w fun e w' => e = .returned (.string (joinB xs sep)) ∧ Ext w w' := by
  have HJ := hid (joinAll_any lo hi u xs sep w hu hh h1 h2 h3)
  obtain ⟨a, cap, rfl, _⟩ := hu.open
  clear hu h1 h2 h3
  go_enter Tryz.func48, Tryz.ntmps48
  go_wp2_with fail
  refine HJ.out.mono ?_
  rintro e w1 ⟨rfl, x1⟩
  go_wp2
  go_ret
  exact ⟨rfl, x1⟩
end Go.Proofs.YtkcghoeklbcihaaGreatDoor
