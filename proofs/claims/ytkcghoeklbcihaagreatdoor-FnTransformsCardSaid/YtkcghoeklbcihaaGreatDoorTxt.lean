/- This text proves what FormatInt of both sides hands back. -/
import Derived.Test.YtkcghoeklbcihaaGreatDoorL01
import Derived.Test.YtkcghoeklbcihaaGreatDoorShelf
namespace Go.Proofs.YtkcghoeklbcihaaGreatDoor
open Go.RowKit

/-- the decimal numeral of n -/
def fmtB (n : Int) : ByteArray := ⟨(Lib.itoa n).toArray⟩
theorem nDigits_le {n : Nat} (h : n ≤ 1000000000) : Lib.nDigits n ≤ 10 := by
  have h1 : ∀ k u : Nat, u < 10 ^ k → Lib.nDigits u ≤ k ∨ k = 0 := by
    intro k
    induction k with
    | zero => intro u _; exact .inr rfl
    | succ k ih =>
      intro u hu
      refine .inl ?_
      by_cases h : u < 10
      · rw [Lib.nDigits_small h]; omega
      · rw [Lib.nDigits_big h]
        have : u / 10 < 10 ^ k := by rw [Nat.div_lt_iff_lt_mul (by decide)]; rw [Nat.pow_succ] at hu; omega
        rcases ih _ this with h2 | h2
        · omega
        · subst h2; simp at this; omega
  rcases h1 10 n (by omega) with h | h <;> omega
theorem digits_more {k : Nat} (h : ¬ k < 10) (l : List UInt8) : Lib.decDigits k ++ l = Lib.decDigits (k / 10) ++ (UInt8.ofNat (48 + k % 10) :: l) := by
  rw [Lib.decDigits, dif_neg h]
  simp

theorem conv_one (x : Int) (d : Nat) (hd : d < 10) (hx : x = 48 + (d : Int)) (w : World) :
    (convert 22 9 (.slice (some ⟨w.heap.size, 0, none⟩) 1 1)).run Tryz.prog (w.alloc (.cells #[.int .u8 x] 5)) = .ok (.string ⟨#[UInt8.ofNat (48 + d)]⟩) (w.alloc (.cells #[.int .u8 x] 5)) := by
  have h := run_convert_bytes_back (P := Tryz.prog) (w.alloc (.cells #[.int .u8 x] 5)) 22 9 5 ⟨w.heap.size, 0, none⟩ 1 [UInt8.ofNat (48 + d)] Tryz.underlying22 Tryz.underlying5 Tryz.underlying9 (fun j hj => by
    obtain rfl : j = 0 := by simpa using hj
    have e : ((UInt8.ofNat (48 + d)).toNat : Int) = x := by
      rw [hx]
      simp
      omega
    simp only [List.getElem_cons_zero, e]
    simp [Addr.add, go_sem])
  exact h
theorem size_cons (x : UInt8) (t : ByteArray) : ((⟨#[x]⟩ : ByteArray) ++ t).size = 1 + t.size := by rw [ByteArray.size_append]; rfl
theorem data_cons (x : UInt8) (t : ByteArray) : ((⟨#[x]⟩ : ByteArray) ++ t).data.toList = x :: t.data.toList := by simp
theorem bytes_ext {a b : ByteArray} (h : a.data.toList = b.data.toList) : a = b := by
  cases a; cases b
  simpa using h

theorem ret_str {a b : ByteArray} (h : a = b) : Ending.returned (.string a) = .returned (.string b) := by rw [h]

end Go.Proofs.YtkcghoeklbcihaaGreatDoor
