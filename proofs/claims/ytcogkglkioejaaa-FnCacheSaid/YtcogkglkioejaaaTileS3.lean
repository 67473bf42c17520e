/- This text proves what the laws' marks on a slice of tiles do, and what is read back of them. -/
import Derived.Test.YtcogkglkioejaaaTileS2
namespace Go.Proofs.Ytcogkglkioejaaa
open Go.RowKit

/-- the first c integers of the tiles numbered from k0 on -/
def TL.mark (s : TL) (k0 : Int) (c : Nat) : TL := ⟨s.n, fun j => if j < c then k0 + j else s.f j⟩
theorem TL.mark0 {s : TL} {k0 : Int} {lo : Nat} {w : World} {v : Value} (h : s.Own lo w v) : (s.mark k0 0).Own lo w v := by
  have e : s.mark k0 0 = s := by unfold TL.mark; simp
  rw [e]; exact h
theorem map_set_range (f : Nat → Int) (n i : Nat) (x : Int) : ((List.range n).map fun j => Value.int .i64 (f j)).set i (.int .i64 x) = (List.range n).map fun j => Value.int .i64 (if j = i then x else f j) := by
  apply List.ext_getElem?
  intro j
  rw [List.getElem?_set]
  by_cases e : i = j
  · subst e
    by_cases h : i < n <;> simp [h]
  · rw [if_neg e]
    by_cases h : j < n
    · simp [h]
      exact fun e' => absurd e'.symm e
    · simp [h]
theorem TL.Own.markAt {s : TL} {k0 : Int} {c : Nat} {lo : Nat} {w : World} {a : Option Addr} {cap : Nat} (h : (s.mark k0 c).Own lo w (.slice a s.n cap)) (hc : c < s.n * 3) (hb : 0 ≤ k0 ∧ k0 + (s.n * 3 : Nat) ≤ 1152921504606846976) :
    ∃ g y, a = some ⟨g, 0, none⟩ ∧ lo ≤ g ∧ g < w.heap.size ∧ w.cell? ⟨g, c, none⟩ = some (.int .i64 y) ∧ w.frozen? ⟨g, c, none⟩ = false ∧
      ∀ x, x = k0 + c → (s.mark k0 (c + 1)).Own lo (w.setCell ⟨g, c, none⟩ (.int .i64 x)) (.slice a s.n cap) ∧ w.grownBy (w.setCell ⟨g, c, none⟩ (.int .i64 x)) (some g) := by
  obtain ⟨hown, h3⟩ := h
  have hown' := hown
  rcases hown.2 with ⟨h1, h4⟩ | ⟨g, cap', cur, h1, hb', hg, hcc, hm, hs, ht⟩
  · have : s.n = 0 := h4
    omega
  · simp only [Value.slice.injEq] at h1
    obtain ⟨rfl, h1, rfl⟩ := h1
    refine ⟨g, (s.mark k0 c).f c, rfl, hb', (Array.getElem?_eq_some_iff.1 hg).1, ?_, hown'.frozenAt c, fun x hx => ?_⟩
    · rw [hown'.cellAt c (by simpa [TL.mark] using hc)]; simp [TL.mark, hc]
    · subst hx
      have hst := hown'.stored c (.int .i64 (k0 + c))
      rw [map_set_range] at hst
      have e : (fun j => Value.int .i64 (if j = c then k0 + (c : Int) else (s.mark k0 c).f j)) = fun j => Value.int .i64 ((s.mark k0 (c + 1)).f j) := by
        funext j
        congr 1
        simp only [TL.mark]
        by_cases e : j = c
        · subst e; simp
        · rw [if_neg e]
          by_cases h : j < c
          · rw [if_pos h, if_pos (by omega)]
          · rw [if_neg h, if_neg (by omega)]
      rw [e] at hst
      refine ⟨⟨hst.1, fun i hi => ?_⟩, hst.2⟩
      simp only [TL.mark] at hi ⊢
      split
      · exact ⟨by omega, by omega⟩
      · rename_i hlt
        have := h3 i hi
        simp only [TL.mark] at this
        rw [if_neg (by omega)] at this
        exact this

set_option maxHeartbeats 1600000 in
theorem markTileS_any (lo : Nat) (u : Value) (s : TL) (k0 : Int) (w : World) (hu : s.Own lo w u) (hb : 0 ≤ k0 ∧ k0 + (s.n * 3 : Nat) ≤ 1152921504606846976) :
    Calls Try.prog 47 #[u, .int .i64 k0] w fun e w' => e = .returned (.int .i64 (k0 + (s.n * 3 : Nat))) ∧ (s.mark k0 (s.n * 3)).Own lo w' u ∧ w.grownBy w' u.ownBlock := by
  obtain ⟨a, cap, rfl, hlen⟩ := hu.form
  have HU := hid (TL.mark0 (k0 := k0) hu)
  clear hu
  go_enter Try.func47, Try.ntmps47
  go_wp2
  go_loopw [1, 5] (fun q i wr => ∃ k : Nat, k ≤ s.n ∧ i = .int .i64 k ∧ q = .int .i64 (k0 + (k * 3 : Nat)) ∧ (s.mark k0 (k * 3)).Own lo wr (.slice a s.n cap) ∧ w.grownBy wr (Value.slice a s.n cap).ownBlock) (fun _ i _ => s.n - (intOf i).toNat)
  case atStart => exact ⟨0, by omega, rfl, by simp, by simpa using HU.out, grownBy.refl _ _⟩
  case round =>
    obtain ⟨k, hk, rfl, rfl, hown, hg⟩ := hrel
    by_cases hlt : k < s.n
    · have hb2 : k0 + ((k * 3 : Nat) : Int) + 3 ≤ 1152921504606846976 := by omega
      obtain ⟨g, y, rfl, hb1, hgs, hc0, hf0, hst⟩ := hown.markAt (c := k * 3) (by omega) hb
      obtain ⟨o1, g1⟩ := hst (k0 + (k * 3 : Nat)) rfl
      obtain ⟨g', y1, e1, _, _, hc1, hf1, hst1⟩ := o1.markAt (c := k * 3 + 1) (by omega) hb
      simp only [Option.some.injEq, Addr.mk.injEq, and_true] at e1
      subst e1
      obtain ⟨o2, g2⟩ := hst1 (k0 + (k * 3 : Nat) + 1) (by omega)
      obtain ⟨g', y2, e2, _, _, hc2, hf2, hst2⟩ := o2.markAt (c := k * 3 + 2) (by omega) hb
      simp only [Option.some.injEq, Addr.mk.injEq, and_true] at e2
      subst e2
      obtain ⟨o3, g3⟩ := hst2 (k0 + (k * 3 : Nat) + 1 + 1) (by omega)
      have HO := hid o3
      have HG := hid (grownBy.trans hg (grownBy.trans g1 (grownBy.trans g2 g3)))
      clear hst hst1 hst2 o1 o2 o3 g1 g2 g3 hg hown HU
      obtain ⟨j, hj⟩ : ∃ j, k * 3 = j := ⟨_, rfl⟩
      rw [hj] at hb2 hc0 hf0 hc1 hf1 hc2 hf2 HO HG ⊢
      go_wp2
      go_roundw
      case rel => exact ⟨k + 1, by omega, by go_num, by congr 1; omega, by rw [Nat.add_mul, Nat.one_mul, hj]; exact HO.out, HG.out⟩
      case measure => simp [intOf]; omega
    · obtain rfl : k = s.n := by omega
      go_wp2
      go_ret
      exact ⟨rfl, hown, hg⟩

theorem TL.marked_cell {s : TL} {k0 : Int} {i j : Nat} (hi' : i < s.n) (hj : j < 3) : (s.mark k0 (s.n * 3)).f (i * 3 + j) = k0 + ((i * 3 + j : Nat) : Int) := by
  simp only [TL.mark]
  rw [if_pos (flat_lt hi' hj)]

set_option maxHeartbeats 1600000 in
theorem heldTileS_mark (lo hi : Nat) (u : Value) (s : TL) (k0 : Int) (w : World) (hu : (s.mark k0 (s.n * 3)).R lo hi w u) (hb : 0 ≤ k0 ∧ k0 + (s.n * 3 : Nat) ≤ 1152921504606846976) :
    Calls Try.prog 48 #[u, .int .i64 k0] w fun e w' => e = .returned (.int .i64 (k0 + (s.n * 3 : Nat))) ∧ Ext w w' := by
  obtain ⟨a, cap, e0, HU⟩ := Flats.open hu
  change u = .slice a s.n cap at e0
  subst e0
  change FlatsAt 3 lo hi w a cap s.n (s.mark k0 (s.n * 3)).f at HU
  have hle := HU.le
  have hcap := HU.cap
  clear hu
  go_enter Try.func48, Try.ntmps48
  go_wp2
  go_loopw [1, 5] (fun q i wr => ∃ k : Nat, k ≤ s.n ∧ i = .int .i64 k ∧ q = .int .i64 (k0 + (k * 3 : Nat)) ∧ w = wr) (fun _ i _ => s.n - (intOf i).toNat)
  case atStart => exact ⟨0, by omega, rfl, by simp, rfl⟩
  case round =>
    obtain ⟨k, hk, rfl, rfl, rfl⟩ := hrel
    by_cases hlt : k < s.n
    · have hb2 : k0 + ((k * 3 : Nat) : Int) + 3 ≤ 1152921504606846976 := by omega
      obtain ⟨b, off, rfl, hb1, hb2', hc⟩ := HU.at hlt (by decide)
      have c0 := hc 0 (by decide)
      have c1 := hc 1 (by decide)
      have c2 := hc 2 (by decide)
      rw [TL.marked_cell hlt (by decide)] at c0 c1 c2
      have e1 : k0 + ((k * 3 + 1 : Nat) : Int) = k0 + ((k * 3 : Nat) : Int) + 1 := by omega
      have e2 : k0 + ((k * 3 + 2 : Nat) : Int) = k0 + ((k * 3 : Nat) : Int) + 1 + 1 := by omega
      rw [e1] at c1
      rw [e2] at c2
      simp only [Nat.add_zero] at c0
      clear hc e1 e2
      obtain ⟨j, hj⟩ : ∃ j, k * 3 = j := ⟨_, rfl⟩
      rw [hj] at hb2 c0 c1 c2 ⊢
      go_wp2
      go_roundw
      case rel => exact ⟨k + 1, by omega, by go_num, by congr 1; omega, by simp⟩
      case measure => simp [intOf]; omega
    · go_wp2
      go_ret
      obtain rfl : k = s.n := by omega
      exact ⟨rfl, Ext.refl _⟩
end Go.Proofs.Ytcogkglkioejaaa
