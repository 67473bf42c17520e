/- This text proves what the reference's ParseInt hands back for every string. -/
import Derived.Test.YtkcghoeklbcihaaGreatDoorNum2
import Derived.Lib.Strings
namespace Go.Proofs.YtkcghoeklbcihaaGreatDoor
open Go.RowKit

/-- what stands behind the sign -/
def body (neg : Bool) (s : ByteArray) : List UInt8 := if neg then s.data.toList.drop 1 else s.data.toList
def sgn (neg : Bool) : Nat := if neg then 1 else 0
def negB (s : ByteArray) : Bool := s.data.toList.head? == some 45
/-- every numeral's digits behind its sign -/
theorem parseO_body {s : ByteArray} {n : Int} (h : parseO s = some n) : ∃ m : Nat, Lib.decFrom 0 (body (negB s) s) = some m ∧ n = if negB s then -(m : Int) else m := by
  obtain ⟨_, e⟩ := fmtT_inv (parseO_iff.1 h).1 (parseO_iff.1 h).2
  have e2 : s.data.toList = Lib.itoa n := by rw [← e, fmtB_data]
  unfold negB body
  rw [e2]
  unfold Lib.itoa
  split
  · refine ⟨n.natAbs, ?_, ?_⟩
    · simp [decFrom_digits]
    · simp; omega
  · obtain ⟨b, r, hd, h1, h2⟩ := digits_cons n.toNat
    have hb : (b == 45) = false := by rw [beq_eq_false_iff_ne]; intro e; subst e; simp at h1
    refine ⟨n.toNat, ?_, ?_⟩
    · rw [← decFrom_digits n.toNat, hd]; simp [hb]
    · rw [hd]; simp [hb]; omega
theorem digitVal_at {c : UInt8} (h0 : 0 ≤ (c.toNat : Int) - 48) (h1 : (c.toNat : Int) - 48 ≤ 9) : Lib.digitVal c = some (c.toNat - 48) := by
  unfold Lib.digitVal
  rw [if_pos (by omega)]
theorem body_at {s : ByteArray} {neg : Bool} {k : Nat} (h : sgn neg ≤ k) : (body neg s)[k - sgn neg]? = s.data.toList[k]? := by
  unfold body sgn at *
  cases neg
  · simp
  · simp only [if_true] at *
    rw [List.getElem?_drop, show 1 + (k - 1) = k by omega]
/-- a byte that is no digit spoils the numeral -/
theorem parseO_spoilt {s : ByteArray} {k : Nat} {c : UInt8} (hk : sgn (negB s) ≤ k) (hc : s.data.toList[k]? = some c) (hd : Lib.digitVal c = none) : parseO s = none := by
  cases hp : parseO s with
  | none => rfl
  | some n =>
    obtain ⟨m, hm, _⟩ := parseO_body hp
    obtain ⟨d, hd'⟩ := Lib.digit_of_decFrom _ _ _ hm _ c ((body_at hk).trans hc)
    rw [hd] at hd'
    cases hd'
theorem parseO_long {s : ByteArray} (h : 12 < s.size) : parseO s = none := by
  cases hp : parseO s with
  | none => rfl
  | some n => have := parseO_size hp; omega
/-- what the loop has read: the digits up to k -/
def ReadTo (s : ByteArray) (k m : Nat) : Prop := Lib.decFrom 0 ((body (negB s) s).take (k - sgn (negB s))) = some m
theorem ReadTo.start (s : ByteArray) : ReadTo s 0 0 := by simp [ReadTo, Lib.decFrom]
theorem ReadTo.skip {s : ByteArray} {m : Nat} (h : ReadTo s 0 m) (hn : negB s = true) : ReadTo s 1 m := by
  unfold ReadTo sgn at *
  rw [hn] at *
  simpa using h
theorem ReadTo.step {s : ByteArray} {k m : Nat} (h : ReadTo s k m) (hk : sgn (negB s) ≤ k) {c : UInt8} (hc : s.data.toList[k]? = some c) (h0 : 0 ≤ (c.toNat : Int) - 48) (h1 : (c.toNat : Int) - 48 ≤ 9) : ReadTo s (k + 1) (m * 10 + (c.toNat - 48)) := by
  unfold ReadTo at *
  rw [show k + 1 - sgn (negB s) = k - sgn (negB s) + 1 by omega]
  exact Lib.decFrom_take _ _ _ _ _ _ h ((body_at hk).trans hc) (digitVal_at h0 h1)
theorem ReadTo.lt {s : ByteArray} {k m : Nat} (h : ReadTo s k m) (hk : k ≤ 11) : m < 100000000000 := by
  have := Lib.decFrom_lt _ _ _ h
  have h2 : ((body (negB s) s).take (k - sgn (negB s))).length ≤ 11 := by rw [List.length_take]; omega
  have h3 : 10 ^ ((body (negB s) s).take (k - sgn (negB s))).length ≤ 10 ^ 11 := Nat.pow_le_pow_right (by decide) h2
  omega
theorem ReadTo.done {s : ByteArray} {m : Nat} (h : ReadTo s s.size m) {n : Int} (hp : parseO s = some n) : n = if negB s then -(m : Int) else m := by
  obtain ⟨m', h', e⟩ := parseO_body hp
  unfold ReadTo at h
  rw [List.take_of_length_le (by unfold body sgn; cases negB s <;> simp), h'] at h
  rw [e, Option.some.inj h]
theorem negB_at {s : ByteArray} (h : 0 < s.size) : negB s = (s[0] == 45) := by
  have := byte_at s 0 h
  unfold negB
  rw [List.head?_eq_getElem?, this]
  rfl

end Go.Proofs.YtkcghoeklbcihaaGreatDoor
