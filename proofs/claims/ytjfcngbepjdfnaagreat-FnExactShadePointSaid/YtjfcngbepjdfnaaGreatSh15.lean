/- This text proves the reference's values of the predefined variables. -/
import Derived.Test.YtjfcngbepjdfnaaGreatSh14
namespace Go.Proofs.YtjfcngbepjdfnaaGreat
open Go.RowKit

/-- the value of a predefined variable at point q -/
def varL (l : List UInt8) (f : Nat → Int) (tm : Int) (q : Nat) : Int :=
  if l == [117] then f (q * 5) else if l == [118] then f (q * 5 + 1) else if l == [120] then f (q * 5 + 2) else if l == [121] then f (q * 5 + 3) else if l == [122] then f (q * 5 + 4) else tm
set_option maxHeartbeats 1600000 in
theorem l17Variable_any (lo hi : Nat) (n m i j q : Nat) (u : Value) (f : Nat → Int) (tm g3 : Int) (g4 : Value) (s : ByteArray) (w : World) (hu : Flats 5 lo hi w u m f) (hh : hi ≤ w.heap.size) (hq : (j : Int) * n + i = q) (hq' : q < m) (hm : m ≤ 1000) (hj : (j : Int) * n ≤ 1000) (h0 : 0 ≤ (j : Int) * n) (hi0 : i ≤ 1000) :
    Calls Tryz.prog 77 #[.agg #[.int .i64 n, u, .int .i64 tm, .int .i64 g3, g4], .string s, .int .i64 i, .int .i64 j] w fun e w' => e = .returned (.int .i64 (varL s.toList f tm q)) ∧ Ext w w' := by
  obtain ⟨a, cap, rfl, HU⟩ := hu.open
  obtain ⟨b, off, rfl, hb1, hb2, hc⟩ := HU.at hq' (by decide)
  have c0 := hc 0 (by decide)
  have c1 := hc 1 (by decide)
  have c2 := hc 2 (by decide)
  have c3 := hc 3 (by decide)
  have c4 := hc 4 (by decide)
  have l1 := HU.le
  have l2 := HU.cap
  simp only [Nat.add_zero] at c0
  have hbw : b < w.heap.size := by omega
  have hbw2 : b ≠ w.heap.size := by omega
  have hbw3 : b ≠ w.heap.size + 1 := by omega
  clear hu hc HU
  go_enter Tryz.func77, Tryz.ntmps77
  go_wp2
  all_goals go_ret
  all_goals first | (exfalso; simp_all; done) | (refine ⟨by simp [varL, *]; done, (by repeat (first | with_reducible assumption | with_reducible exact Ext.refl _ | with_reducible apply Ext.alloc | with_reducible apply Ext.drew | with_reducible apply Ext.drewN | (with_reducible refine Ext.setCell ?_ (by simp; omega) _) | (with_reducible refine Ext.setCell ?_ (by simp) _)))⟩)
end Go.Proofs.YtjfcngbepjdfnaaGreat
