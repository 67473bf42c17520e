/- This text proves what the program's FormatImage hands back. -/
import Derived.Test.YtodblnccgpiigaaDoorPgm2
namespace Go.Proofs.YtodblnccgpiigaaDoor
open Go.RowKit

/-- box B holds a value of three cells -/
structure PBox (w : World) (B : Nat) (a b c : Value) : Prop where
  lt : B < w.heap.size
  c0 : w.cell? ⟨B, 0, none⟩ = some a
  c1 : w.cell? ⟨B, 1, none⟩ = some b
  c2 : w.cell? ⟨B, 2, none⟩ = some c
theorem PBox.at {w w' : World} {B : Nat} {a b c : Value} (h : PBox w B a b c) (hz : w.heap.size ≤ w'.heap.size) (s : w'.heap[B]? = w.heap[B]?) : PBox w' B a b c :=
  ⟨Nat.lt_of_lt_of_le h.lt hz, (World.cell?_of_block (w := w) s).trans h.c0, (World.cell?_of_block (w := w) s).trans h.c1, (World.cell?_of_block (w := w) s).trans h.c2⟩
theorem PBox.ext {w w' : World} {B : Nat} {a b c : Value} (h : PBox w B a b c) (e : Ext w w') : PBox w' B a b c := h.at e.size (e.block h.lt)
theorem PBox.made (w : World) (a b c : Value) (ty : TypeId) : PBox (w.alloc (.cells #[a, b, c] ty)) w.heap.size a b c := ⟨by simp, by simp [go_sem], by simp [go_sem], by simp [go_sem]⟩

theorem OwnStrs.built {lo : Nat} {w : World} {g n : Nat} {xs : List ByteArray} (hl : lo ≤ g) (hn : xs.length = n) (hm : n ≤ 1000000) (hg : w.heap[g]? = some (.cells (xs.map Value.string).toArray 9)) : OwnStrs lo w (.slice (some ⟨g, 0, none⟩) n n) xs := by
  subst hn
  exact ⟨by simp, .inr ⟨g, xs.length, _, rfl, hl, hg, Nat.le_refl _, by unfold maxLen; omega, by simp, by rw [Nat.mul_one]; exact List.take_of_length_le (by simp)⟩⟩
theorem ints_two {lo : Nat} {w : World} {g : Nat} {a b : Int} (hl : lo ≤ g) (ha : I64 a) (hb : I64 b) (hg : w.heap[g]? = some (.cells #[.int .i64 a, .int .i64 b] 3)) : Ints lo w.heap.size w (.slice (some ⟨g, 0, none⟩) 2 2) [a, b] := by
  have hlt : g < w.heap.size := (Array.getElem?_eq_some_iff.1 hg).1
  refine ⟨some ⟨g, 0, none⟩, 2, rfl, Nat.le_refl _, by unfold maxLen; omega, fun i x hx => ?_⟩
  match i, hx with
  | 0, hx => simp at hx; subst hx; exact ⟨ha, g, 0, rfl, hl, hlt, by simp [World.cell?, hg]⟩
  | 1, hx => simp at hx; subst hx; exact ⟨hb, g, 0, rfl, hl, hlt, by simp [World.cell?, hg]⟩

def nlB : ByteArray := ⟨#[10]⟩
def lineL (px : List Int) (W y : Nat) : ByteArray := joinB ((rowOf px W y).map fmtT) spB
def headL (W H : Nat) : List ByteArray := [⟨#[80, 50]⟩, joinB [fmtT W, fmtT H] spB, ⟨#[50, 53, 54]⟩]
def linesL (px : List Int) (W H k : Nat) : List ByteArray := headL W H ++ (List.range k).map (lineL px W)
def pgmB (px : List Int) (W H : Nat) : ByteArray := joinB (linesL px W H H) nlB ++ nlB
theorem linesL_length (px : List Int) (W H k : Nat) : (linesL px W H k).length = k + 3 := by simp [linesL, headL]
theorem linesL_succ (px : List Int) (W H k : Nat) : linesL px W H k ++ [lineL px W k] = linesL px W H (k + 1) := by simp [linesL, List.range_succ]
theorem join_fmt_size (xs : List Int) (h : xs.length ≤ 12) : (joinB (xs.map fmtT) spB).size ≤ 300 := by
  have := joinB_size (xs.map fmtT) spB 11 (fun x hx => by obtain ⟨n, _, rfl⟩ := List.mem_map.1 hx; exact fmtT_size n) (by decide)
  rw [List.length_map] at this
  omega
theorem lineL_size {px : List Int} {W y : Nat} (hW : W ≤ 12) : (lineL px W y).size ≤ 300 := join_fmt_size _ (by unfold rowOf; rw [List.length_take]; omega)
theorem linesL_size {px : List Int} {W H k : Nat} (hW : W ≤ 12) : ∀ x ∈ linesL px W H k, x.size ≤ 300 := by
  intro x hx
  rcases List.mem_append.1 hx with h | h
  · simp only [headL, List.mem_cons, List.not_mem_nil, or_false] at h
    rcases h with rfl | rfl | rfl
    · decide
    · exact join_fmt_size [(W : Int), (H : Int)] (by simp)
    · decide
  · obtain ⟨y, _, rfl⟩ := List.mem_map.1 h
    exact lineL_size hW

set_option maxHeartbeats 1600000 in
theorem iFormat_valid (lo hi : Nat) (b off cap W H : Nat) (px : List Int) (w : World) (hu : IntsAt lo hi w (some ⟨b, off, none⟩) cap px) (hh : hi ≤ w.heap.size) (hW : 1 ≤ W ∧ W ≤ 12) (hH : 1 ≤ H ∧ H ≤ 12) (hl : px.length = H * W) (hok : (⟨W, H, px⟩ : Pic).okB = true) (ht : Tab w) :
    Calls Tryd.prog 8 #[.agg #[.int .i64 W, .int .i64 H, .slice (some ⟨b, off, none⟩) px.length cap]] w fun e w' => e = .returned (.string (pgmB px W H)) ∧ Ext w w' := by
  obtain ⟨W1, W2⟩ := hW
  obtain ⟨H1, H2⟩ := hH
  have l1 := hu.le
  have l2 := hu.cap
  have iW : I64 (W : Int) := ⟨by omega, by omega⟩
  have iH : I64 (H : Int) := ⟨by omega, by omega⟩
  have HL := hid hl
  have HT := hid ht
  have HV : Hid (Pic.R ⟨W, H, px⟩ lo hi w (.agg #[.int .i64 W, .int .i64 H, .slice (some ⟨b, off, none⟩) px.length cap])) := hid ⟨_, rfl, iW, iH, hu.shut⟩
  have HK := hid hok
  have HU := hid hu
  clear hl ht hok hu
  go_enter Tryd.func8, Tryd.ntmps8
  go_wp2_with fail
  refine (iIsValidImage_any lo hi _ _ _ (HV.out.ext hh (by repeat (with_reducible (first | assumption | exact Ext.refl _ | apply Ext.alloc | apply Ext.drew | apply Ext.drewN)))) (by simp; omega)).mono ?_
  rw [HK.out]
  rintro e w1 ⟨rfl, x1⟩
  have P1 := (PBox.made w (.int .i64 W) (.int .i64 H) (.slice (some ⟨b, off, none⟩) px.length cap) _).ext x1
  have E1 : Ext w w1 := Ext.trans (by repeat (with_reducible (first | assumption | exact Ext.refl _ | apply Ext.alloc | apply Ext.drew | apply Ext.drewN))) x1
  have z1 := P1.lt
  have p0 := P1.lt
  have p1 := P1.c0
  have p2 := P1.c1
  have p3 := P1.c2
  go_wp2_with fail
  refine (spaced_any (w1.heap.size) _ _ [(W : Int), (H : Int)] _ (ints_two (Nat.le_refl _) iW iH (heap_new _ _)) (by simp) (by simp) (HT.out.ext (Ext.trans E1 (by repeat (with_reducible (first | assumption | exact Ext.refl _ | apply Ext.alloc | apply Ext.drew | apply Ext.drewN)))))).mono ?_
  rintro e w2 ⟨rfl, x2⟩
  have y2 : Ext w1 w2 := Ext.trans (by repeat (with_reducible (first | assumption | exact Ext.refl _ | apply Ext.alloc | apply Ext.drew | apply Ext.drewN))) x2
  have P2 := P1.ext y2
  have E2 := E1.trans y2
  have z2 := y2.size
  clear p0 p1 p2 p3
  have p0 := P2.lt
  have p1 := P2.c0
  have p2 := P2.c1
  have p3 := P2.c2
  go_wp2
  have HP2 := hid P2
  have HE2 := hid E2
  clear p0 p1 p2 p3 x1 x2 y2 P1 P2 E1 E2 z1 z2
  go_loopw [3, 17] (fun s i wr => ∃ k : Nat, k ≤ H ∧ i = .int .i64 k ∧ OwnStrs w2.heap.size wr s (linesL px W H k) ∧ Ext w2 wr) (fun _ i _ => H - (intOf i).toNat)
  case atStart => exact ⟨0, by omega, rfl, OwnStrs.built (Nat.le_refl _) rfl (by decide) (heap_new w2 _), (by repeat (with_reducible (first | assumption | exact Ext.refl _ | apply Ext.alloc | apply Ext.drew | apply Ext.drewN)))⟩
  case round =>
    obtain ⟨k, hk, rfl, hown, hx⟩ := hrel
    obtain ⟨a', c', e0, _⟩ := hown.form
    rw [linesL_length] at e0
    subst e0
    have HX := hid hx
    have HO := hid hown
    have P3 := HP2.out.ext hx
    clear hx hown
    have p0 := P3.lt
    have p1 := P3.c0
    have p2 := P3.c1
    have p3 := P3.c2
    by_cases hlt : k < H
    · have hb : (k + 1) * W ≤ px.length := by rw [HL.out]; exact Nat.mul_le_mul_right _ hlt
      have HB := hid hb
      clear hb
      go_wp2_with fail
      refine (picRow_any b off cap px.length W H k _ (by omega) W2 W1 HB.out l1).mono ?_
      rintro e w3 ⟨rfl, x3⟩
      go_wp2_with fail
      have hxx := HX.out.trans x3
      have E3 := HE2.out.trans hxx
      refine (spaced_any _ _ _ _ _ ((rowOf_ints HU.out HB.out).ext hh E3) (by have := E3.size; omega) (by rw [rowOf_length HB.out]; omega) (HT.out.ext E3)).mono ?_
      rintro e w4 ⟨rfl, x4⟩
      go_wp2_with (at_builtin; refine wpList_append_str _ rfl _ _ rfl w2.heap.size _ _ rfl (HO.out.ext ((x3.trans x4).trans (by repeat (with_reducible (first | assumption | exact Ext.refl _ | apply Ext.alloc | apply Ext.drew | apply Ext.drewN))))) (lineL px W k) w4.heap.size rfl (by simp [go_sem, lineL]) (by rw [linesL_length]; omega) (by have := (hxx.trans x4).size; simp; omega) ?_; intro v' w5 hown' hg)
      rw [linesL_succ] at hown'
      have hx' : Ext w2 w5 := Ext.grown ((hxx.trans x4).alloc _) hg (fun g e => (HO.out.lt g e).1)
      have HO' := hid hown'
      have HX' := hid hx'
      clear hown' hx' hg p0 p1 p2 p3 P3 x3 x4
      go_wp2
      go_roundw
      case rel => exact ⟨k + 1, by omega, by go_num, HO'.out, HX'.out⟩
      case measure => simp [intOf]; omega
    · obtain rfl : k = H := by omega
      have hjs := joinB_size (linesL px W k k) nlB 300 (linesL_size W2) (by decide)
      rw [linesL_length] at hjs
      have hjs2 : (joinB (linesL px W k k) nlB).size ≤ 1000000 := by omega
      clear hjs
      obtain ⟨j, hj⟩ : ∃ j, joinB (linesL px W k k) nlB = j := ⟨_, rfl⟩
      rw [hj] at hjs2
      have HJ := hid hj
      have hn : nlB.size = 1 := rfl
      clear hj
      go_wp2_with fail
      refine (iJoin_any _ _ _ _ nlB _ HO.out.strs (Nat.le_refl _) (fun x h => by have := linesL_size W2 x h; omega) (by rw [linesL_length]; omega) (by decide)).mono ?_
      rw [HJ.out]
      rintro e w3 ⟨rfl, x3⟩
      go_wp2
      go_ret
      exact ⟨ret_str (by unfold pgmB; rw [HJ.out]; rfl), (HE2.out.trans HX.out).trans x3⟩
end Go.Proofs.YtodblnccgpiigaaDoor
