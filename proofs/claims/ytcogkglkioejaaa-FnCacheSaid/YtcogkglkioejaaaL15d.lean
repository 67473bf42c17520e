/- This text proves what the program's halving of a texture computes. -/
import Derived.Test.YtcogkglkioejaaaL15c
import Derived.Test.YtcogkglkioejaaaPlan
import Derived.Deep.LoopGhost
namespace Go.Proofs.Ytcogkglkioejaaa
open Go.RowKit

/-- the boxes of the program's half, and what it has gathered -/
structure HSt (w wr : World) (t : Tex) (u : Value) (m k : Nat) (a : Option Addr) (c : Nat) : Prop where
  ext : Ext w wr
  size : w.heap.size + 1 + 1 < wr.heap.size
  p0 : wr.cell? ⟨w.heap.size, 0, none⟩ = some (.int .i64 t.log)
  p1 : wr.cell? ⟨w.heap.size, 1, none⟩ = some u
  r0 : wr.cell? ⟨w.heap.size + 1, 0, none⟩ = some (.int .i64 0)
  r1 : wr.cell? ⟨w.heap.size + 1, 1, none⟩ = some (.slice none 0 0)
  f0 : wr.frozen? ⟨w.heap.size + 1, 0, none⟩ = false
  f1 : wr.frozen? ⟨w.heap.size + 1, 1, none⟩ = false
  o0 : wr.cell? ⟨w.heap.size + 1 + 1, 0, none⟩ = some (.int .i64 (t.log - 1))
  o1 : wr.cell? ⟨w.heap.size + 1 + 1, 1, none⟩ = some (.slice a k c)
  g1 : wr.frozen? ⟨w.heap.size + 1 + 1, 1, none⟩ = false
  own : OwnInts (w.heap.size + 1 + 1 + 1) wr (.slice a k c) (t.halfPx m k)

theorem HSt.to {w wr wr' : World} {t : Tex} {u : Value} {m k : Nat} {a : Option Addr} {c : Nat} (h : HSt w wr t u m k a c) (e : Ext wr wr') : HSt w wr' t u m k a c := by
  obtain ⟨hc, hf⟩ := e.cells
  have hs := h.size
  have hz := e.size
  exact ⟨h.ext.trans e, by omega, by rw [hc _ _ (by omega)]; exact h.p0, by rw [hc _ _ (by omega)]; exact h.p1, by rw [hc _ _ (by omega)]; exact h.r0, by rw [hc _ _ (by omega)]; exact h.r1,
    by rw [hf _ _ (by omega)]; exact h.f0, by rw [hf _ _ (by omega)]; exact h.f1, by rw [hc _ _ (by omega)]; exact h.o0, by rw [hc _ _ (by omega)]; exact h.o1, by rw [hf _ _ (by omega)]; exact h.g1, h.own.ext e⟩

theorem HSt.push {w wr w1 : World} {t : Tex} {u : Value} {m k : Nat} {a a' : Option Addr} {c c' n' : Nat} (h : HSt w wr t u m k a c) (hg : wr.grownBy w1 (Value.slice a k c).ownBlock)
    (hown : OwnInts (w.heap.size + 1 + 1 + 1) w1 (.slice a' n' c') (t.halfPx m k ++ [t.avgK m k])) :
    HSt w (w1.setCell ⟨w.heap.size + 1 + 1, 1, none⟩ (.slice a' n' c')) t u m (k + 1) a' c' ∧ n' = k + 1 := by
  rw [← Tex.halfPx_succ] at hown
  obtain ⟨a2, cap2, hv, _⟩ := hown.form
  rw [Tex.halfPx_length] at hv
  simp only [Value.slice.injEq] at hv
  obtain ⟨_, rfl, _⟩ := hv
  have hs := h.size
  have hz := hg.size
  have hlt := h.own.lt
  have hne : ∀ b, b < w.heap.size + 1 + 1 + 1 → some b ≠ (Value.slice a k c).ownBlock := fun b hb e => by have := (hlt b e.symm).1; omega
  have hc : ∀ b o, b < w.heap.size + 1 + 1 + 1 → w1.cell? ⟨b, o, none⟩ = wr.cell? ⟨b, o, none⟩ := fun b o hb => World.cell?_of_block (w := wr) (hg.block b (by omega) (hne b hb))
  have hf : ∀ b o, b < w.heap.size + 1 + 1 + 1 → w1.frozen? ⟨b, o, none⟩ = wr.frozen? ⟨b, o, none⟩ := fun b o hb => World.frozen?_of_block (w := wr) (hg.block b (by omega) (hne b hb))
  have hd : ∀ b o, b < w.heap.size + 1 + 1 → (w1.setCell ⟨w.heap.size + 1 + 1, 1, none⟩ (.slice a' (k + 1) c')).cell? ⟨b, o, none⟩ = wr.cell? ⟨b, o, none⟩ := fun b o hb => by
    rw [World.cell?_setCell_other _ _ _ _ (fun e => by simp only [Addr.mk.injEq] at e; omega), hc b o (by omega)]
  refine ⟨⟨(h.ext.grown hg (fun b e => by have := (hlt b e).1; omega)).setCell (by show w.heap.size ≤ w.heap.size + 1 + 1; omega) _, by rw [World.size_setCell]; omega, by rw [hd _ _ (by omega)]; exact h.p0, by rw [hd _ _ (by omega)]; exact h.p1,
    by rw [hd _ _ (by omega)]; exact h.r0, by rw [hd _ _ (by omega)]; exact h.r1, by rw [World.frozen?_setCell, hf _ _ (by omega)]; exact h.f0, by rw [World.frozen?_setCell, hf _ _ (by omega)]; exact h.f1, ?_, ?_,
    by rw [World.frozen?_setCell, hf _ _ (by omega)]; exact h.g1, hown.setLow (by simp) _⟩, rfl⟩
  · rw [World.cell?_setCell_other _ _ _ _ (by simp), hc _ _ (by omega)]; exact h.o0
  · exact World.cell?_setCell_same _ _ _ ((hc _ _ (by omega)).trans h.o1)

/-- where row y begins, n on a side -/
def rowOff (n : Nat) (y : Int) : Nat := y.toNat * n
theorem rowOff_two (n j : Nat) : rowOff n (2 * (j : Int)) = 2 * j * n := by unfold rowOff; congr 1
theorem rowOff_two1 (n j : Nat) : rowOff n (2 * (j : Int) + 1) = (2 * j + 1) * n := by unfold rowOff; congr 1
theorem row_int {b off cap : Nat} {t : Tex} {q : Nat} {y : Int} (ht : t.Ok) (hq : t.n = q) (h1 : 0 ≤ y) (h2 : y < q) (hc : t.px.length ≤ cap) (w : World) :
    Calls Try.prog 80 #[.agg #[.int .i64 t.log, .slice (some ⟨b, off, none⟩) t.px.length cap], .int .i64 y] w fun e w' => e = .returned (.slice (some ⟨b, off + rowOff q y, none⟩) q q) ∧ Ext w w' := by
  subst hq
  have h := row_any b off cap t y.toNat w ht (by omega) hc
  rw [Int.toNat_of_nonneg h1] at h
  exact h
theorem side_val {u : Value} {l : Int} {n : Nat} (h0 : 0 ≤ l) (h4 : l ≤ 4) (hn : 2 ^ l.toNat = n) (w : World) :
    Calls Try.prog 58 #[.agg #[.int .i64 l, u]] w fun e w' => e = .returned (.int .i64 n) ∧ Ext w w' := by
  subst hn; exact side_any u ⟨l, []⟩ w h0 h4

/-- the four texels of a block: where they lie -/
theorem Tex.Ok.block {t : Tex} (ht : t.Ok) {m i j p q : Nat} (hn : t.n = 2 * m) (hi : i < m) (hj : j < m) (hp : 2 * j * t.n = p) (hq : (2 * j + 1) * t.n = q) :
    t.px[p + 2 * i]? = some (t.at (2 * i) (2 * j)) ∧ t.px[p + (2 * i + 1)]? = some (t.at (2 * i + 1) (2 * j)) ∧ t.px[q + 2 * i]? = some (t.at (2 * i) (2 * j + 1)) ∧ t.px[q + (2 * i + 1)]? = some (t.at (2 * i + 1) (2 * j + 1)) := by
  have key : ∀ x y : Nat, x < t.n → y < t.n → t.px[y * t.n + x]? = some (t.at x y) := fun x y hx hy => by
    rcases t.at_nat hx hy with h | h
    · exact h
    · rw [ht.len] at h
      have := texel_nat hy hx
      omega
  subst hp hq
  have k1 := key (2 * i) (2 * j) (by omega) (by omega)
  have k2 := key (2 * i + 1) (2 * j) (by omega) (by omega)
  have k3 := key (2 * i) (2 * j + 1) (by omega) (by omega)
  have k4 := key (2 * i + 1) (2 * j + 1) (by omega) (by omega)
  simp only [Int.natCast_add, Int.natCast_mul, Int.natCast_one] at k1 k2 k3 k4
  exact ⟨k1, k2, k3, k4⟩
theorem Tex.avgK_at (t : Tex) {m i j : Nat} (hi : i < m) : t.avgK m (j * m + i) = t.avg i j := by
  have h1 : (j * m + i) % m = i := by rw [Nat.mul_comm, Nat.mul_add_mod, Nat.mod_eq_of_lt hi]
  have h2 : (j * m + i) / m = j := by rw [Nat.mul_comm, Nat.mul_add_div (by omega), Nat.div_eq_of_lt hi]; rfl
  rw [Tex.avgK, h1, h2]

set_option maxRecDepth 10000 in
set_option maxHeartbeats 1600000 in
theorem half_any (lo hi : Nat) (v : Value) (t : Tex) (w : World) (hv : TexR lo hi w v t) (hh : hi ≤ w.heap.size) (ht : t.Ok) (hl : 1 ≤ t.log) :
    Calls Try.prog 62 #[v] w fun e w' => ∃ v', e = .returned v' ∧ OwnTex w.heap.size w' v' t.half ∧ Ext w w' := by
  obtain ⟨b, off, cap, rfl, hcap, hlo, hhi, hcell⟩ := hv.ok ht
  have h0 := ht.log0
  have h4 := ht.log4
  have HT := hid ht
  have HC := hid hcap
  have HH := hid hcell
  obtain ⟨m, hm⟩ : ∃ m, 2 ^ (t.log - 1).toNat = m := ⟨_, rfl⟩
  have hn : t.n = 2 * m := by rw [ht.half_n hl, hm]
  have hm8 : m ≤ 8 := by have := ht.n_le; omega
  have HM := hid hm
  have HN := hid hn
  have hb0 : b < w.heap.size := by omega
  clear hv ht hcap hcell hm hn
  go_enter Try.func62, Try.ntmps62
  go_wp2
  go_loopw [4] (fun y wr => ∃ (j : Nat) (a : Option Addr) (c : Nat), j ≤ m ∧ y = .int .i64 j ∧ HSt w wr t (.slice (some ⟨b, off, none⟩) t.px.length cap) m (j * m) a c) (fun y _ => m - (intOf y).toNat)
  case atStart =>
    refine ⟨0, none, 0, by omega, rfl, ?_⟩
    rw [Nat.zero_mul]
    exact ⟨(((Ext.refl _).alloc _).alloc _).alloc _, by simp, by simp [go_sem], by simp [go_sem], by simp [go_sem], by simp [go_sem], by simp [go_sem], by simp [go_sem], by simp [go_sem], by simp [go_sem], by simp [go_sem], OwnInts.nil _ _⟩
  case round =>
    obtain ⟨j, a, c, hj, rfl, hst⟩ := hrel
    have HS := hid hst
    have hsz := hst.size
    have o0 := hst.o0
    have o1 := hst.o1
    clear hst
    by_cases hjm : j < m
    · go_wp2_with (go_at_call 58; (refine (side_val (by omega) (by omega) HM.out _).mono ?_; rintro e w1 ⟨rfl, hx⟩; have HS1 := hid (HS.out.to hx); have hz1 := HS1.out.size; have p0 := HS1.out.p0; have p1 := HS1.out.p1; have q0 : w.heap.size < w1.heap.size := (by omega); clear hx hsz o0 o1 HS))
      refine wp_region_ext (by kernel_rfl) (by kernel_rfl) ?_
      have hjI : (j : Int) < m := by omega
      repeat (go_big_quiet_step ((go_at_call 80; exact grow_call (row_int HT.out HN.out (by omega) (by omega) HC.out _))))
      refine wpQuiet_nil ?_
      intro w2 hx2
      have HS2 := hid (HS1.out.to hx2)
      clear p0 p1 hx2 hz1 q0 HS1
      go_wp2
      go_loopw [7] (fun x wr => ∃ (i : Nat) (a : Option Addr) (c : Nat), i ≤ m ∧ x = .int .i64 i ∧ HSt w wr t (.slice (some ⟨b, off, none⟩) t.px.length cap) m (j * m + i) a c) (fun x _ => m - (intOf x).toNat)
      case atStart => exact ⟨0, a, c, by omega, rfl, HS2.out⟩
      case round =>
        clear HS2
        obtain ⟨i, a, c, hi', rfl, hst⟩ := hrel
        have HS := hid hst
        have hsz := hst.size
        have o0 := hst.o0
        have o1 := hst.o1
        clear hst
        by_cases him : i < m
        · go_wp2_with (go_at_call 58; refine (side_val (by omega) (by omega) HM.out _).mono ?_; rintro e w1 ⟨rfl, hx⟩; have HS1 := hid (HS.out.to hx); have hz1 := HS1.out.size; have x0 := HS1.out.o0; have x1 := HS1.out.o1; have x2 := HS1.out.g1; clear hx hsz o0 o1 HS)
          obtain ⟨k1, k2, k3, k4⟩ := HT.out.block HN.out him hjm rfl rfl
          rw [HN.out, ← rowOff_two] at k1 k2
          rw [HN.out, ← rowOff_two1] at k3 k4
          have hcs := (HS1.out.ext.cells).1
          have c1 := (hcs b _ hb0).trans (HH.out _ _ k1)
          have c2 := (hcs b _ hb0).trans (HH.out _ _ k2)
          have c3 := (hcs b _ hb0).trans (HH.out _ _ k3)
          have c4 := (hcs b _ hb0).trans (HH.out _ _ k4)
          have d1 := HT.out.at_range (2 * i) (2 * j)
          have d2 := HT.out.at_range (2 * i + 1) (2 * j)
          have d3 := HT.out.at_range (2 * i) (2 * j + 1)
          have d4 := HT.out.at_range (2 * i + 1) (2 * j + 1)
          have hav := t.avgK_at (i := i) (j := j) him
          rw [Tex.avg] at hav
          rw [← Nat.add_assoc] at c1 c2 c3 c4
          generalize t.at (2 * i) (2 * j) = r1 at c1 d1 hav
          generalize t.at (2 * i + 1) (2 * j) = r2 at c2 d2 hav
          generalize t.at (2 * i) (2 * j + 1) = r3 at c3 d3 hav
          generalize t.at (2 * i + 1) (2 * j + 1) = r4 at c4 d4 hav
          have HAV := hid hav
          clear hav k1 k2 k3 k4 hcs
          have hb3 : b < w.heap.size + 1 + 1 + 1 := by omega
          refine wp_region_stages [([0, 1, 2, 3, 4, 5, 6, 7, 8, 9, 10, 11, 12, 13, 14, 15, 16, 17, 18, 19, 20, 21, 22, 23, 24, 25, 26, 27], 28), ([], 29), ([30], 31)] 31 (w.heap.size + 1 + 1 + 1) (by kernel_rfl) (by kernel_rfl) ?_
          refine wpStages_cons ?_
          simp only [List.filterMap_cons, List.filterMap_nil, List.getElem?_toArray, List.getElem?_cons_zero, List.getElem?_cons_succ]
          show wpQuiet _ _ _ _ [_, _, _, _, _, _, _, _, _, _, _, _, _, _, _, _, _, _, _, _, _, _, _, _, _, _, _, _] _
          repeat (go_big_quiet_step (fail))
          refine wpQuiet_nil ⟨_, rfl, fun K hK => ?_⟩
          go_wp2
          clear c1 c2 c3 c4 x0 x1
          have hE : Ext w1 (w1.alloc (.cells #[.int .i64 ((r1 + r2 + r3 + r4) / 4)] 3)).drew := ((Ext.refl _).alloc _).drew
          have HS2 := hid (HS1.out.to hE)
          refine hK _ _ (.inr (hE.same (by omega))) ?_
          clear hK K
          refine wpStages_cons ?_
          simp only [List.filterMap_nil]
          show wpQuiet _ _ _ _ [] _
          refine wpQuiet_nil ⟨_, rfl, fun K hK => ?_⟩
          have hji : j * m + i < 1000000000 := by
            have := Nat.mul_le_mul hj hm8
            have := Nat.mul_le_mul hm8 (Nat.le_refl 8)
            omega
          refine wpList_append1 _ rfl _ _ rfl (w.heap.size + 1 + 1 + 1) (.slice a (j * m + i) c) (t.halfPx m (j * m + i)) rfl HS2.out.own ((r1 + r2 + r3 + r4) / 4) ⟨by omega, by omega⟩ w1.heap.size rfl (by simp [go_sem]) (by rw [Tex.halfPx_length]; exact hji) (by simp; omega) ?_
          intro v' w3 hown hg
          rw [← HAV.out] at hown
          obtain ⟨a', c', rfl, _⟩ := hown.form
          obtain ⟨hst, hn'⟩ := HS2.out.push hg hown
          rw [hn'] at hst
          have HN' := hid hn'
          have HS3 := hid hst
          have hs3 : Same 0 (w.heap.size + 1 + 1 + 1) w1 w3 := fun bb _ hbb => (hg.block bb (by simp; omega) (fun e => by have := (HS2.out.own.lt bb e.symm).1; omega)).trans (hE.block (by omega))
          have hlt3 := hg.size
          simp at hlt3
          have y1 : w3.cell? ⟨w.heap.size + 1 + 1, 1, none⟩ = some (.slice a (j * m + i) c) := (hs3.cell (Nat.zero_le _) (by omega)).trans HS1.out.o1
          have y2 : w3.frozen? ⟨w.heap.size + 1 + 1, 1, none⟩ = false := (hs3.frozen (Nat.zero_le _) (by omega)).trans x2
          have H3 := hid hs3
          clear hst hn' hs3 hown hg HS2 hE
          go_wp2
          refine hK _ _ (.inr H3.out) ?_
          clear hK K
          refine wpStages_cons ?_
          simp only [List.filterMap_cons, List.filterMap_nil, List.getElem?_toArray, List.getElem?_cons_zero, List.getElem?_cons_succ]
          show wpQuiet _ _ _ _ [_] _
          simp only [Act.put, List.getElem_toArray, List.getElem_cons_succ, List.getElem_cons_zero, List.setIfInBounds_toArray, List.set_cons_succ, List.set_cons_zero]
          repeat (go_big_quiet_step (fail))
          refine wpQuiet_nil ⟨_, rfl, fun K hK => ?_⟩
          go_wp2
          refine hK _ _ (.inl (by trivial)) (wpStages_nil ?_)
          clear hK K
          go_wp2
          go_roundw
          case rel => exact ⟨i + 1, a', c', by omega, by go_num, by rw [← Nat.add_assoc, Tex.halfPx_length]; exact HS3.out⟩
          case measure => simp [intOf]; omega
        · go_wp2_with (go_at_call 58; refine (side_val (by omega) (by omega) HM.out _).mono ?_; rintro e w1 ⟨rfl, hx⟩; have HS1 := hid (HS.out.to hx); have hz1 := HS1.out.size; have x0 := HS1.out.o0; have x1 := HS1.out.o1; have x2 := HS1.out.g1; clear hx hsz o0 o1 HS)
          obtain rfl : i = m := by omega
          go_roundw
          case rel => exact ⟨j + 1, a, c, by omega, by go_num, by rw [Nat.add_mul, Nat.one_mul]; exact HS1.out⟩
          case measure => simp [intOf]; omega
    · go_wp2_with (go_at_call 58; refine (side_val (by omega) (by omega) HM.out _).mono ?_; rintro e w1 ⟨rfl, hx⟩; have HS1 := hid (HS.out.to hx); have hz1 := HS1.out.size; have x0 := HS1.out.o0; have x1 := HS1.out.o1; have x2 := HS1.out.r0; have x3 := HS1.out.r1; have x4 := HS1.out.f0; have x5 := HS1.out.f1; clear hx hsz o0 o1 HS)
      obtain rfl : j = m := by omega
      have hown := HS1.out.own
      have hext := HS1.out.ext
      refine bodyPost_ret (v := .agg #[.int .i64 (t.log - 1), .slice a (j * j) c]) (by simp [results, Try.results62, go_sem, *]) rfl ⟨_, rfl, ⟨_, rfl, ⟨by show _ ≤ t.log - 1; omega, by show t.log - 1 ≤ _; omega⟩, ?_⟩, ?_⟩
      · have : t.half.px = t.halfPx j (j * j) := by rw [Tex.half, HM.out]
        rw [this]
        exact ((hown.setLow (by simp) _).setLow (by simp) _).low (by omega)
      · exact (hext.setCell (by simp) _).setCell (by simp) _

end Go.Proofs.Ytcogkglkioejaaa
