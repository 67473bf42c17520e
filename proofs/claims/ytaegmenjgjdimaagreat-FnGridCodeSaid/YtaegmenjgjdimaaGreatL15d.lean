/- This text proves what the program's halving of a texture computes. -/
import Derived.Test.YtaegmenjgjdimaaGreatL15c
import Derived.Test.YtaegmenjgjdimaaGreatPlan
import Derived.Deep.LoopGhost
namespace Go.Proofs.YtaegmenjgjdimaaGreat
open Go.RowKit

/-- the boxes of the program's half, and what it has gathered -/
structure HSt (w wr : World) (t : Tex) (u : Value) (m k : Nat) (a : Option Addr) (c : Nat) : Prop where
  ext : Ext w wr
  size : w.heap.size + 1 + 1 < wr.heap.size
  p0 : wr.cell? ⟨w.heap.size, 0, none⟩ = some (.int .i64 t.log)
  p1 : wr.cell? ⟨w.heap.size, 1, none⟩ = some u
  r0 : wr.cell? ⟨w.heap.size + 1, 0, none⟩ = some (.int .i64 0)
  r1 : wr.cell? ⟨w.heap.size + 1, 1, none⟩ = some (.slice none 0 0)
  f0 : wr.frozen? ⟨w.heap.size + 1, 0, none⟩ = false
  f1 : wr.frozen? ⟨w.heap.size + 1, 1, none⟩ = false
  o0 : wr.cell? ⟨w.heap.size + 1 + 1, 0, none⟩ = some (.int .i64 (t.log - 1))
  o1 : wr.cell? ⟨w.heap.size + 1 + 1, 1, none⟩ = some (.slice a k c)
  g1 : wr.frozen? ⟨w.heap.size + 1 + 1, 1, none⟩ = false
  own : OwnInts (w.heap.size + 1 + 1 + 1) wr (.slice a k c) (t.halfPx m k)

theorem HSt.to {w wr wr' : World} {t : Tex} {u : Value} {m k : Nat} {a : Option Addr} {c : Nat} (h : HSt w wr t u m k a c) (e : Ext wr wr') : HSt w wr' t u m k a c := by
  obtain ⟨hc, hf⟩ := e.cells
  have hs := h.size
  have hz := e.size
  exact ⟨h.ext.trans e, by omega, by rw [hc _ _ (by omega)]; exact h.p0, by rw [hc _ _ (by omega)]; exact h.p1, by rw [hc _ _ (by omega)]; exact h.r0, by rw [hc _ _ (by omega)]; exact h.r1,
    by rw [hf _ _ (by omega)]; exact h.f0, by rw [hf _ _ (by omega)]; exact h.f1, by rw [hc _ _ (by omega)]; exact h.o0, by rw [hc _ _ (by omega)]; exact h.o1, by rw [hf _ _ (by omega)]; exact h.g1, h.own.ext e⟩

theorem HSt.push {w wr w1 : World} {t : Tex} {u : Value} {m k : Nat} {a a' : Option Addr} {c c' n' : Nat} (h : HSt w wr t u m k a c) (hg : wr.grownBy w1 (Value.slice a k c).ownBlock)
    (hown : OwnInts (w.heap.size + 1 + 1 + 1) w1 (.slice a' n' c') (t.halfPx m k ++ [t.avgK m k])) :
    HSt w (w1.setCell ⟨w.heap.size + 1 + 1, 1, none⟩ (.slice a' n' c')) t u m (k + 1) a' c' ∧ n' = k + 1 := by
  rw [← Tex.halfPx_succ] at hown
  obtain ⟨a2, cap2, hv, _⟩ := hown.form
  rw [Tex.halfPx_length] at hv
  simp only [Value.slice.injEq] at hv
  obtain ⟨_, rfl, _⟩ := hv
  have hs := h.size
  have hz := hg.size
  have hlt := h.own.lt
  have hne : ∀ b, b < w.heap.size + 1 + 1 + 1 → some b ≠ (Value.slice a k c).ownBlock := fun b hb e => by have := (hlt b e.symm).1; omega
  have hc : ∀ b o, b < w.heap.size + 1 + 1 + 1 → w1.cell? ⟨b, o, none⟩ = wr.cell? ⟨b, o, none⟩ := fun b o hb => World.cell?_of_block (w := wr) (hg.block b (by omega) (hne b hb))
  have hf : ∀ b o, b < w.heap.size + 1 + 1 + 1 → w1.frozen? ⟨b, o, none⟩ = wr.frozen? ⟨b, o, none⟩ := fun b o hb => World.frozen?_of_block (w := wr) (hg.block b (by omega) (hne b hb))
  have hd : ∀ b o, b < w.heap.size + 1 + 1 → (w1.setCell ⟨w.heap.size + 1 + 1, 1, none⟩ (.slice a' (k + 1) c')).cell? ⟨b, o, none⟩ = wr.cell? ⟨b, o, none⟩ := fun b o hb => by
    rw [World.cell?_setCell_other _ _ _ _ (fun e => by simp only [Addr.mk.injEq] at e; omega), hc b o (by omega)]
  refine ⟨⟨(h.ext.grown hg (fun b e => by have := (hlt b e).1; omega)).setCell (by show w.heap.size ≤ w.heap.size + 1 + 1; omega) _, by rw [World.size_setCell]; omega, by rw [hd _ _ (by omega)]; exact h.p0, by rw [hd _ _ (by omega)]; exact h.p1,
    by rw [hd _ _ (by omega)]; exact h.r0, by rw [hd _ _ (by omega)]; exact h.r1, by rw [World.frozen?_setCell, hf _ _ (by omega)]; exact h.f0, by rw [World.frozen?_setCell, hf _ _ (by omega)]; exact h.f1, ?_, ?_,
    by rw [World.frozen?_setCell, hf _ _ (by omega)]; exact h.g1, hown.setLow (by simp) _⟩, rfl⟩
  · rw [World.cell?_setCell_other _ _ _ _ (by simp), hc _ _ (by omega)]; exact h.o0
  · exact World.cell?_setCell_same _ _ _ ((hc _ _ (by omega)).trans h.o1)

/-- where row y begins, n on a side -/
def rowOff (n : Nat) (y : Int) : Nat := y.toNat * n
theorem rowOff_two (n j : Nat) : rowOff n (2 * (j : Int)) = 2 * j * n := by unfold rowOff; congr 1
theorem rowOff_two1 (n j : Nat) : rowOff n (2 * (j : Int) + 1) = (2 * j + 1) * n := by unfold rowOff; congr 1
theorem row_int {b off cap : Nat} {t : Tex} {q : Nat} {y : Int} (ht : t.Ok) (hq : t.n = q) (h1 : 0 ≤ y) (h2 : y < q) (hc : t.px.length ≤ cap) (w : World) :
    Calls Tryz.prog 152 #[.agg #[.int .i64 t.log, .slice (some ⟨b, off, none⟩) t.px.length cap], .int .i64 y] w fun e w' => e = .returned (.slice (some ⟨b, off + rowOff q y, none⟩) q q) ∧ Ext w w' := by
  subst hq
  have h := row_any b off cap t y.toNat w ht (by omega) hc
  rw [Int.toNat_of_nonneg h1] at h
  exact h
theorem side_val {u : Value} {l : Int} {n : Nat} (h0 : 0 ≤ l) (h4 : l ≤ 4) (hn : 2 ^ l.toNat = n) (w : World) :
    Calls Tryz.prog 151 #[.agg #[.int .i64 l, u]] w fun e w' => e = .returned (.int .i64 n) ∧ Ext w w' := by
  subst hn; exact side_any u ⟨l, []⟩ w h0 h4

/-- the four texels of a block: where they lie -/
theorem Tex.Ok.block {t : Tex} (ht : t.Ok) {m i j p q : Nat} (hn : t.n = 2 * m) (hi : i < m) (hj : j < m) (hp : 2 * j * t.n = p) (hq : (2 * j + 1) * t.n = q) :
    t.px[p + 2 * i]? = some (t.at (2 * i) (2 * j)) ∧ t.px[p + (2 * i + 1)]? = some (t.at (2 * i + 1) (2 * j)) ∧ t.px[q + 2 * i]? = some (t.at (2 * i) (2 * j + 1)) ∧ t.px[q + (2 * i + 1)]? = some (t.at (2 * i + 1) (2 * j + 1)) := by
  have key : ∀ x y : Nat, x < t.n → y < t.n → t.px[y * t.n + x]? = some (t.at x y) := fun x y hx hy => by
    rcases t.at_nat hx hy with h | h
    · exact h
    · rw [ht.len] at h
      have := texel_nat hy hx
      omega
  subst hp hq
  have k1 := key (2 * i) (2 * j) (by omega) (by omega)
  have k2 := key (2 * i + 1) (2 * j) (by omega) (by omega)
  have k3 := key (2 * i) (2 * j + 1) (by omega) (by omega)
  have k4 := key (2 * i + 1) (2 * j + 1) (by omega) (by omega)
  simp only [Int.natCast_add, Int.natCast_mul, Int.natCast_one] at k1 k2 k3 k4
  exact ⟨k1, k2, k3, k4⟩
theorem Tex.avgK_at (t : Tex) {m i j : Nat} (hi : i < m) : t.avgK m (j * m + i) = t.avg i j := by
  have h1 : (j * m + i) % m = i := by rw [Nat.mul_comm, Nat.mul_add_mod, Nat.mod_eq_of_lt hi]
  have h2 : (j * m + i) / m = j := by rw [Nat.mul_comm, Nat.mul_add_div (by omega), Nat.div_eq_of_lt hi]; rfl
  rw [Tex.avgK, h1, h2]

end Go.Proofs.YtaegmenjgjdimaaGreat
