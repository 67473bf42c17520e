/- This text proves what FormatInt of both sides hands back. -/
import Derived.Test.YtodblnccgpiigaaDoorL01
import Derived.Test.YtodblnccgpiigaaDoorShelf
namespace Go.Proofs.YtodblnccgpiigaaDoor
open Go.RowKit

/-- the decimal numeral of n -/
def fmtB (n : Int) : ByteArray := ⟨(Lib.itoa n).toArray⟩
theorem nDigits_le {n : Nat} (h : n ≤ 1000000000) : Lib.nDigits n ≤ 10 := by
  have h1 : ∀ k u : Nat, u < 10 ^ k → Lib.nDigits u ≤ k ∨ k = 0 := by
    intro k
    induction k with
    | zero => intro u _; exact .inr rfl
    | succ k ih =>
      intro u hu
      refine .inl ?_
      by_cases h : u < 10
      · rw [Lib.nDigits_small h]; omega
      · rw [Lib.nDigits_big h]
        have : u / 10 < 10 ^ k := by rw [Nat.div_lt_iff_lt_mul (by decide)]; rw [Nat.pow_succ] at hu; omega
        rcases ih _ this with h2 | h2
        · omega
        · subst h2; simp at this; omega
  rcases h1 10 n (by omega) with h | h <;> omega
theorem digits_more {k : Nat} (h : ¬ k < 10) (l : List UInt8) : Lib.decDigits k ++ l = Lib.decDigits (k / 10) ++ (UInt8.ofNat (48 + k % 10) :: l) := by
  rw [Lib.decDigits, dif_neg h]
  simp

theorem conv_one (x : Int) (d : Nat) (hd : d < 10) (hx : x = 48 + (d : Int)) (w : World) :
    (convert 22 9 (.slice (some ⟨w.heap.size, 0, none⟩) 1 1)).run Tryd.prog (w.alloc (.cells #[.int .u8 x] 5)) = .ok (.string ⟨#[UInt8.ofNat (48 + d)]⟩) (w.alloc (.cells #[.int .u8 x] 5)) := by
  have h := run_convert_bytes_back (P := Tryd.prog) (w.alloc (.cells #[.int .u8 x] 5)) 22 9 5 ⟨w.heap.size, 0, none⟩ 1 [UInt8.ofNat (48 + d)] Tryd.underlying22 Tryd.underlying5 Tryd.underlying9 (fun j hj => by
    obtain rfl : j = 0 := by simpa using hj
    have e : ((UInt8.ofNat (48 + d)).toNat : Int) = x := by
      rw [hx]
      simp
      omega
    simp only [List.getElem_cons_zero, e]
    simp [Addr.add, go_sem])
  exact h
theorem size_cons (x : UInt8) (t : ByteArray) : ((⟨#[x]⟩ : ByteArray) ++ t).size = 1 + t.size := by rw [ByteArray.size_append]; rfl
theorem data_cons (x : UInt8) (t : ByteArray) : ((⟨#[x]⟩ : ByteArray) ++ t).data.toList = x :: t.data.toList := by simp
theorem bytes_ext {a b : ByteArray} (h : a.data.toList = b.data.toList) : a = b := by
  cases a; cases b
  simpa using h

theorem ret_str {a b : ByteArray} (h : a = b) : Ending.returned (.string a) = .returned (.string b) := by rw [h]

set_option maxHeartbeats 800000 in
theorem sFormatInt_nat (n : Nat) (w : World) (h : n ≤ 1000000000) : Calls Tryd.prog 68 #[.int .i64 n] w fun e w' => e = .returned (.string (fmtB n)) ∧ Ext w w' := by
  have hin : inB n (-1000000000) 1000000000 = true := by rw [inB_iff]; omega
  have hl := nDigits_le h
  rw [← Lib.decDigits_length] at hl
  go_enter Tryd.func68, Tryd.ntmps68
  go_wp2_with (go_at_call 83; refine (l01In_val hin _).mono ?_; rintro e w1 ⟨rfl, rfl⟩)
  go_loopw [0, 3] (fun q s wr => ∃ k : Nat, ∃ t : ByteArray, k ≤ n ∧ q = .int .i64 k ∧ s = .string t ∧ Lib.decDigits k ++ t.data.toList = Lib.decDigits n ∧ Ext w wr) (fun q _ _ => (intOf q).toNat)
  case atStart => exact ⟨n, _, Nat.le_refl _, rfl, rfl, by simp, Ext.refl _⟩
  case round =>
    obtain ⟨k, t, hk, rfl, rfl, hd, hx⟩ := hrel
    have ht : t.size ≤ 10 := by
      have := congrArg List.length hd
      rw [List.length_append] at this
      have e : t.data.toList.length = t.size := by simp
      omega
    by_cases hlt : k < 10
    · have c1 := conv_one (48 + (k : Int)) k hlt rfl
      obtain ⟨d, hdd⟩ : ∃ d, UInt8.ofNat (48 + k) = d := ⟨_, rfl⟩
      rw [hdd] at c1
      have s1 := size_cons d t
      have hd' := hid hd
      have hdd := hid hdd
      clear hd
      go_wp2
      go_ret
      refine ⟨ret_str (bytes_ext ?_), (by repeat (with_reducible (first | assumption | exact Ext.refl _ | apply Ext.alloc | apply Ext.drew | apply Ext.drewN)))⟩
      rw [data_cons, fmtB]
      simp only [Lib.itoa]
      rw [if_neg (by omega), Int.toNat_natCast, ← show Lib.decDigits k ++ t.data.toList = Lib.decDigits n from hd'.out, Lib.decDigits_one hlt, hdd.out]
      rfl
    · have c1 := conv_one (48 + (k : Int) % 10) (k % 10) (by omega) (by omega)
      obtain ⟨d, hdd⟩ : ∃ d, UInt8.ofNat (48 + k % 10) = d := ⟨_, rfl⟩
      rw [hdd] at c1
      have s1 := size_cons d t
      have hd' := hid hd
      have hdd := hid hdd
      clear hd
      go_wp2
      go_roundw
      case rel => exact ⟨k / 10, _, by omega, by go_num, rfl, by rw [data_cons, ← hdd.out, ← digits_more hlt]; exact hd'.out, (by repeat (with_reducible (first | assumption | exact Ext.refl _ | apply Ext.alloc | apply Ext.drew | apply Ext.drewN)))⟩
      case measure => simp [intOf]; omega
end Go.Proofs.YtodblnccgpiigaaDoor
