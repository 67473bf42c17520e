/- This text holds when a string is a number's numeral, as ParseInt of both sides has it. -/
import Derived.Test.YtkcghoeklbcihaaGreatDoorTxt2
import Derived.Lib.AtoiTie
namespace Go.Proofs.YtkcghoeklbcihaaGreatDoor
open Go.RowKit

theorem decFrom_app : ∀ (l : List UInt8) (a : Nat) (b : UInt8) (d m : Nat), Lib.decFrom a l = some m → Lib.digitVal b = some d → Lib.decFrom a (l ++ [b]) = some (m * 10 + d)
  | [], a, b, d, m, h, hd => by
    simp only [Lib.decFrom, Option.some.injEq] at h
    subst h
    simp [Lib.decFrom, hd]
  | c :: r, a, b, d, m, h, hd => by
    simp only [Lib.decFrom, List.cons_append] at h ⊢
    cases hc : Lib.digitVal c with
    | none => simp [hc] at h
    | some e => simp only [hc] at h ⊢; exact decFrom_app r _ b d m h hd
theorem digitVal_of (d : Nat) (h : d < 10) : Lib.digitVal (UInt8.ofNat (48 + d)) = some d := by
  have e : (UInt8.ofNat (48 + d)).toNat = 48 + d := by simp; omega
  unfold Lib.digitVal
  rw [e, if_pos (by omega)]
  congr 1
  omega
theorem decFrom_digits (u : Nat) : Lib.decFrom 0 (Lib.decDigits u) = some u := by
  induction u using Nat.strongRecOn with
  | _ u ih =>
    rw [Lib.decDigits]
    split
    · rename_i h
      simp only [Lib.decFrom]
      rw [digitVal_of u h]
      simp
    · rename_i h
      rw [decFrom_app _ _ _ _ _ (ih (u / 10) (by omega)) (digitVal_of (u % 10) (by omega))]
      congr 1
      omega
theorem digits_cons (u : Nat) : ∃ b r, Lib.decDigits u = b :: r ∧ 48 ≤ b.toNat ∧ b.toNat ≤ 57 := by
  have h := decFrom_digits u
  cases hl : Lib.decDigits u with
  | nil =>
    have := Lib.decDigits_length u
    have := Lib.nDigits_pos u
    rw [hl] at *
    simp at *
    omega
  | cons b r =>
    rw [hl] at h
    obtain ⟨d, hd⟩ := Lib.digit_of_decFrom _ _ _ h 0 b rfl
    have := Lib.digitVal_eq hd
    exact ⟨b, r, rfl, this.1, this.2.1⟩
theorem decNat_digits (u : Nat) : Lib.decNat (Lib.decDigits u) = some u := by
  obtain ⟨b, r, h, _, _⟩ := digits_cons u
  unfold Lib.decNat
  rw [if_neg (by rw [h]; simp)]
  exact decFrom_digits u
theorem atoi_itoa (n : Int) : Lib.atoi (Lib.itoa n) = some n := by
  unfold Lib.itoa
  split
  · simp only [Lib.atoi]
    rw [if_pos (by rfl), decNat_digits]
    simp
    omega
  · obtain ⟨b, r, h, h1, h2⟩ := digits_cons n.toNat
    have hb45 : (b == 45) = false := by
      rw [beq_eq_false_iff_ne]; intro e; subst e; simp at h1
    have hb43 : (b == 43) = false := by
      rw [beq_eq_false_iff_ne]; intro e; subst e; simp at h1
    have e := decNat_digits n.toNat
    rw [h] at e ⊢
    simp only [Lib.atoi, hb45, hb43]
    rw [if_neg (by simp), if_neg (by simp), e]
    simp
    omega

theorem fmtB_data (n : Int) : (fmtB n).data.toList = Lib.itoa n := by simp [fmtB]
theorem fmtB_pos (n : Int) : 1 ≤ (fmtB n).size := by
  have e : (fmtB n).size = (Lib.itoa n).length := by simp [fmtB, ByteArray.size]
  rw [e]
  unfold Lib.itoa
  split
  · simp
  · obtain ⟨b, r, h, _, _⟩ := digits_cons n.toNat
    rw [h]; simp
theorem fmtT_of {n : Int} (h : inB n (-1000000000) 1000000000 = true) : fmtT n = fmtB n := by unfold fmtT; rw [if_pos h]
theorem fmtT_out {n : Int} (h : inB n (-1000000000) 1000000000 = false) : fmtT n = ⟨#[]⟩ := by unfold fmtT; rw [if_neg (by simp [h])]
theorem fmtT_inv {n : Int} {s : ByteArray} (h : fmtT n = s) (h0 : s.size ≠ 0) : inB n (-1000000000) 1000000000 = true ∧ fmtB n = s := by
  cases hin : inB n (-1000000000) 1000000000
  · rw [fmtT_out hin] at h
    subst h
    exact absurd rfl h0
  · rw [fmtT_of hin] at h
    exact ⟨rfl, h⟩

theorem byte_at (s : ByteArray) (k : Nat) (h : k < s.size) : s.data.toList[k]? = some s[k] := by
  simp [ByteArray.getElem_eq_getElem_data, h]

open Classical in
/-- the number whose numeral s is -/
noncomputable def parseO (s : ByteArray) : Option Int := (Lib.atoi s.data.toList).bind fun n => if fmtT n = s ∧ s.size ≠ 0 then some n else none
theorem parseO_iff {s : ByteArray} {n : Int} : parseO s = some n ↔ fmtT n = s ∧ s.size ≠ 0 := by
  constructor
  · intro h
    unfold parseO at h
    cases ha : Lib.atoi s.data.toList with
    | none => rw [ha] at h; cases h
    | some m =>
      rw [ha, Option.bind_some] at h
      split at h
      · simp only [Option.some.injEq] at h
        subst h
        assumption
      · cases h
  · intro h
    obtain ⟨_, e⟩ := fmtT_inv h.1 h.2
    unfold parseO
    rw [← e, fmtB_data, atoi_itoa, Option.bind_some, e, if_pos h]
theorem parseO_fmt {n : Int} (h : inB n (-1000000000) 1000000000 = true) : parseO (fmtB n) = some n := by
  rw [parseO_iff, fmtT_of h]
  have := fmtB_pos n
  exact ⟨rfl, by omega⟩
theorem parseO_in {s : ByteArray} {n : Int} (h : parseO s = some n) : inB n (-1000000000) 1000000000 = true := (fmtT_inv (parseO_iff.1 h).1 (parseO_iff.1 h).2).1
theorem parseO_size {s : ByteArray} {n : Int} (h : parseO s = some n) : s.size ≤ 11 := by
  have := fmtB_size (parseO_in h)
  rw [(fmtT_inv (parseO_iff.1 h).1 (parseO_iff.1 h).2).2] at this
  exact this
theorem parseO_atoi {s : ByteArray} {n : Int} (h : parseO s = some n) : Lib.atoi s.data.toList = some n := by
  rw [← (fmtT_inv (parseO_iff.1 h).1 (parseO_iff.1 h).2).2, fmtB_data]
  exact atoi_itoa n
theorem parseO_all {s : ByteArray} {n : Int} (h : parseO s = some n) : Lib.atoiAll s.data.toList = .ok n := by
  have h1 := parseO_size h
  have e : s.data.toList.length = s.size := by simp
  rw [Lib.atoiAll_short _ (by omega), parseO_atoi h]
  rfl
theorem parseO_not {s : ByteArray} {v : Int} (h : Lib.atoiAll s.data.toList = .ok v) (hne : ¬ (fmtT v = s ∧ s.size ≠ 0)) : parseO s = none := by
  cases hp : parseO s with
  | none => rfl
  | some n =>
    have h2 := parseO_all hp
    rw [h] at h2
    simp only [Lib.NumEnd.ok.injEq] at h2
    subst h2
    exact absurd (parseO_iff.1 hp) hne
theorem parseO_bad {s : ByteArray} (h : ∀ n, Lib.atoiAll s.data.toList ≠ .ok n) : parseO s = none := by
  cases hp : parseO s with
  | none => rfl
  | some n => exact absurd (parseO_all hp) (h n)
end Go.Proofs.YtkcghoeklbcihaaGreatDoor
