/- This text proves what FormatInt of both sides hands back for every integer. -/
import Derived.Test.YtkcghoeklbcihaaGreatDoorTxt
import Derived.Lib.SmallJoins
import Derived.Lib.LaidTab
namespace Go.Proofs.YtkcghoeklbcihaaGreatDoor
open Go.RowKit

/-- what FormatInt hands back: the numeral of a number of at most nine digits and one, else nothing -/
def fmtT (n : Int) : ByteArray := if inB n (-1000000000) 1000000000 then fmtB n else ⟨#[]⟩
/-- the table of the powers of ten lies in w as the library's text lays it -/
def Tab (w : World) : Prop := Lib.TabIs Tryz.prog w "internal/strconv.uint64pow10" .u64 Lib.pow10Tab
theorem gPow : ∃ g, Tryz.prog.globalNamed "internal/strconv.uint64pow10" = some g := ⟨3, by kernel_rfl⟩
theorem Tab.ext {w w' : World} (h : Tab w) (e : Ext w w') : Tab w' := by
  obtain ⟨g, hg⟩ := gPow
  exact Go.Joins.var_stays hg h e (Nat.le_refl _)
theorem Ext.grow {w : World} (k : Nat) (os : Array Obj) : Ext w (Go.Sort.grow (w.drewN k) os) := by
  refine ⟨rfl, rfl, rfl, by simp [Go.Sort.grow], fun b hb => ?_⟩
  simp only [Go.Sort.grow]
  exact Array.getElem?_append_left (by simpa using hb)

theorem fmtB_neg {n : Int} (h : n < 0) : (⟨#[45]⟩ : ByteArray) ++ fmtB (-n) = fmtB n := by
  refine bytes_ext ?_
  rw [data_cons]
  unfold fmtB Lib.itoa
  rw [if_neg (by omega), if_pos h, show (-n).toNat = n.natAbs by omega]
theorem fmtB_size {n : Int} (h : inB n (-1000000000) 1000000000 = true) : (fmtB n).size ≤ 11 := by
  rw [inB_iff] at h
  have e : (fmtB n).size = (Lib.itoa n).length := by simp [fmtB, ByteArray.size]
  rw [e]
  unfold Lib.itoa
  split
  · rw [List.length_cons, Lib.decDigits_length]
    have := nDigits_le (n := n.natAbs) (by omega)
    omega
  · rw [Lib.decDigits_length]
    have := nDigits_le (n := n.toNat) (by omega)
    omega
theorem fmtT_size (n : Int) : (fmtT n).size ≤ 11 := by
  unfold fmtT
  split
  · exact fmtB_size (by assumption)
  · decide

set_option maxHeartbeats 800000 in
theorem iFormatInt_any (n : Int) (w : World) (hn : I64 n) (ht : Tab w) : Calls Tryz.prog 47 #[.int .i64 n] w fun e w' => e = .returned (.string (fmtT n)) ∧ Ext w w' := by
  have HT := hid ht
  have HN := hid hn
  clear ht hn
  by_cases h1 : n < -1000000000
  · have e : fmtT n = ⟨#[]⟩ := by unfold fmtT; rw [if_neg (by rw [inB_iff]; omega)]
    rw [e]
    go_enter Tryz.func47, Tryz.ntmps47
    go_wp2_with fail
    go_ret
    exact ⟨rfl, Ext.refl _⟩
  · by_cases h2 : 1000000000 < n
    · have e : fmtT n = ⟨#[]⟩ := by unfold fmtT; rw [if_neg (by rw [inB_iff]; omega)]
      rw [e]
      go_enter Tryz.func47, Tryz.ntmps47
      go_wp2_with fail
      go_ret
      exact ⟨rfl, Ext.refl _⟩
    · have e : fmtT n = fmtB n := by unfold fmtT; rw [if_pos (by rw [inB_iff]; omega)]
      rw [e]
      clear e
      go_enter Tryz.func47, Tryz.ntmps47
      go_wp2_with fail
      refine (Tryz.strconv_Itoa n HN.out.lo HN.out.hi _ HT.out).mono ?_
      rintro e w1 ⟨rfl, k, os, rfl⟩
      go_wp2
      go_ret
      exact ⟨rfl, Ext.grow k os⟩
end Go.Proofs.YtkcghoeklbcihaaGreatDoor
