/- This text proves what the reference's Apply hands back. -/
import Derived.Test.YtkcghoeklbcihaaGreatDoorL04c
namespace Go.Proofs.YtkcghoeklbcihaaGreatDoor
open Go.RowKit

theorem mulC_range {a b : Int} (h1 : -64 ≤ a) (h2 : a ≤ 64) (h3 : -1000000 ≤ b) (h4 : b ≤ 1000000) : -1000000000000 ≤ a * b ∧ a * b ≤ 1000000000000 := mul_range (by omega) (by omega) h3 h4
theorem cl_in {n : Int} (h : inB n (-64) 64 = true) : cl n = n := by
  rw [inB_iff] at h
  unfold cl clampI
  rw [if_neg (by omega), if_neg (by omega)]

/-- the boxes of the reference's Apply: the transform, the limited vector in box A, the sums behind it -/
structure ASt (w wr : World) (A : Nat) (m0 m1 m2 m3 m4 m5 m6 m7 m8 o1 o2 o3 yx yy yz p0 p1 p2 : Int) : Prop where
  ext : Ext w wr
  pos : w.heap.size + 1 + 1 < A
  size : A + 1 < wr.heap.size
  t0 : wr.cell? ⟨w.heap.size, 0, none⟩ = some (.int .i64 m0)
  t1 : wr.cell? ⟨w.heap.size, 1, none⟩ = some (.int .i64 m1)
  t2 : wr.cell? ⟨w.heap.size, 2, none⟩ = some (.int .i64 m2)
  t3 : wr.cell? ⟨w.heap.size, 3, none⟩ = some (.int .i64 m3)
  t4 : wr.cell? ⟨w.heap.size, 4, none⟩ = some (.int .i64 m4)
  t5 : wr.cell? ⟨w.heap.size, 5, none⟩ = some (.int .i64 m5)
  t6 : wr.cell? ⟨w.heap.size, 6, none⟩ = some (.int .i64 m6)
  t7 : wr.cell? ⟨w.heap.size, 7, none⟩ = some (.int .i64 m7)
  t8 : wr.cell? ⟨w.heap.size, 8, none⟩ = some (.int .i64 m8)
  t9 : wr.cell? ⟨w.heap.size, 9, none⟩ = some (.int .i64 o1)
  t10 : wr.cell? ⟨w.heap.size, 10, none⟩ = some (.int .i64 o2)
  t11 : wr.cell? ⟨w.heap.size, 11, none⟩ = some (.int .i64 o3)
  y0 : wr.cell? ⟨A, 0, none⟩ = some (.int .i64 yx)
  y1 : wr.cell? ⟨A, 1, none⟩ = some (.int .i64 yy)
  y2 : wr.cell? ⟨A, 2, none⟩ = some (.int .i64 yz)
  p0 : wr.cell? ⟨A + 1, 0, none⟩ = some (.int .i64 p0)
  p1 : wr.cell? ⟨A + 1, 1, none⟩ = some (.int .i64 p1)
  p2 : wr.cell? ⟨A + 1, 2, none⟩ = some (.int .i64 p2)
  f0 : wr.frozen? ⟨A + 1, 0, none⟩ = false
  f1 : wr.frozen? ⟨A + 1, 1, none⟩ = false
  f2 : wr.frozen? ⟨A + 1, 2, none⟩ = false
  r0 : wr.cell? ⟨w.heap.size + 1 + 1, 0, none⟩ = some (.int .i64 0)
  r1 : wr.cell? ⟨w.heap.size + 1 + 1, 1, none⟩ = some (.int .i64 0)
  r2 : wr.cell? ⟨w.heap.size + 1 + 1, 2, none⟩ = some (.int .i64 0)
  g0 : wr.frozen? ⟨w.heap.size + 1 + 1, 0, none⟩ = false
  g1 : wr.frozen? ⟨w.heap.size + 1 + 1, 1, none⟩ = false
  g2 : wr.frozen? ⟨w.heap.size + 1 + 1, 2, none⟩ = false

end Go.Proofs.YtkcghoeklbcihaaGreatDoor
