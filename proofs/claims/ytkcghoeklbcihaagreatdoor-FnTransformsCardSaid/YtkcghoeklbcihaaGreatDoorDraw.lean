/- This text proves what the reference's draws hand back: a cursor over bytes, numbers within bounds. -/
import Derived.Test.YtkcghoeklbcihaaGreatDoorBlk0
import Derived.Test.YtkcghoeklbcihaaGreatDoorL01
namespace Go.Proofs.YtkcghoeklbcihaaGreatDoor
open Go.RowKit

/-- v reads in w as n bytes; its cells lie in blocks below hi -/
def Byts (hi : Nat) (w : World) (v : Value) (n : Nat) : Prop :=
  ∃ a cap, v = .slice a n cap ∧ n ≤ cap ∧ cap ≤ maxLen ∧ ∀ i, i < n → ∃ b off x, a = some ⟨b, off, none⟩ ∧ b < hi ∧ 0 ≤ x ∧ x ≤ 255 ∧ w.cell? ⟨b, off + i, none⟩ = some (.int .u8 x)
theorem Byts.same {hi : Nat} {w w' : World} {v : Value} {n : Nat} (h : Byts hi w v n) (s : Same 0 hi w w') : Byts hi w' v n := by
  obtain ⟨a, cap, h1, h2, h3, h4⟩ := h
  refine ⟨a, cap, h1, h2, h3, fun i hx => ?_⟩
  obtain ⟨b, off, x, h6, h7, h8, h9, h10⟩ := h4 i hx
  exact ⟨b, off, x, h6, h7, h8, h9, by rw [s.cell (Nat.zero_le _) h7]; exact h10⟩
theorem Byts.ext {hi : Nat} {w w' : World} {v : Value} {n : Nat} (h : Byts hi w v n) (hh : hi ≤ w.heap.size) (e : Ext w w') : Byts hi w' v n := h.same (e.same hh)
theorem Byts.open {hi : Nat} {w : World} {v : Value} {n : Nat} (h : Byts hi w v n) : ∃ a cap, v = .slice a n cap ∧ n ≤ cap ∧ cap ≤ 9223372036854775807 := by
  obtain ⟨a, cap, h1, h2, h3, _⟩ := h
  exact ⟨a, cap, h1, h2, by unfold maxLen at h3; omega⟩
theorem Byts.at {hi : Nat} {w : World} {a : Option Addr} {cap n : Nat} (h : Byts hi w (.slice a n cap) n) {i : Nat} (hi' : i < n) : ∃ b off x, a = some ⟨b, off, none⟩ ∧ b < hi ∧ 0 ≤ x ∧ x ≤ 255 ∧ w.cell? ⟨b, off + i, none⟩ = some (.int .u8 x) := by
  obtain ⟨a', cap', h1, h2, h3, h4⟩ := h
  simp only [Value.slice.injEq, true_and] at h1
  obtain ⟨rfl, rfl⟩ := h1
  exact h4 i hi'

/-- block B is a cursor over n bytes -/
def Cur (hi : Nat) (w : World) (B : Nat) : Prop :=
  hi ≤ B ∧ ∃ v n i h, Blk w B 69 [v, .int .i64 (i : Nat), .int .i64 h] ∧ Byts hi w v n ∧ i ≤ n ∧ n ≤ 1048576 ∧ I64 h
theorem Cur.lt {hi : Nat} {w : World} {B : Nat} (h : Cur hi w B) : B < w.heap.size := by
  obtain ⟨_, v, n, i, q, h1, _⟩ := h
  exact h1.lt
theorem Cur.ext {hi : Nat} {w w' : World} {B : Nat} (h : Cur hi w B) (e : Ext w w') : Cur hi w' B := by
  have hl := h.lt
  obtain ⟨h0, v, n, i, q, h1, h2, h3⟩ := h
  exact ⟨h0, v, n, i, q, h1.ext e, h2.ext (by omega) e, h3⟩
/-- w' is w with new blocks, and block B written -/
def Gr (B : Nat) (w w' : World) : Prop := w.grownBy w' (some B)
theorem Gr.refl (B : Nat) (w : World) : Gr B w w := World.grownBy.refl w _
theorem Gr.trans {B : Nat} {w w1 w2 : World} (h : Gr B w w1) (k : Gr B w1 w2) : Gr B w w2 := grownBy.trans h k
theorem Gr.ext {B : Nat} {w w1 w2 : World} (h : Gr B w w1) (k : Ext w1 w2) : Gr B w w2 := h.trans (k.gr _)
theorem Gr.size {B : Nat} {w w1 : World} (h : Gr B w w1) : w.heap.size ≤ w1.heap.size := World.grownBy.size h
theorem Gr.set {B : Nat} {w w1 : World} (h : Gr B w w1) (i : Nat) (u : Value) : Gr B w (w1.setCell ⟨B, i, none⟩ u) :=
  ⟨h.os, h.tape, h.output, by rw [World.size_setCell]; exact h.size, fun k hk hne => (Below.heap_setCell _ _ _ _ (fun e => hne (by simp only at e; rw [e]))).trans (h.block k hk hne)⟩
theorem Gr.up {B : Nat} {w0 w w1 : World} (h : Gr B w w1) (e : Ext w0 w) (hB : w0.heap.size ≤ B) : Ext w0 w1 := Ext.grown e h (fun k hk => by simp only [Option.some.injEq] at hk; omega)
theorem Gr.blk {B : Nat} {w w1 : World} (h : Gr B w w1) {g : Nat} {t : TypeId} {cs : List Value} (k : Blk w g t cs) (ne : g ≠ B) : Blk w1 g t cs := k.grown h (fun e => ne (by simpa using e))

theorem Gr.step {B : Nat} {wa w w' : World} {row : Option Nat} (h : Gr B wa w) (hg : w.grownBy w' row) (hr : ∀ k, row = some k → wa.heap.size ≤ k) : Gr B wa w' :=
  ⟨hg.os.trans h.os, hg.tape.trans h.tape, hg.output.trans h.output, Nat.le_trans h.size hg.size, fun k hk hne => (hg.block k (Nat.lt_of_lt_of_le hk h.size) (fun e => by have := hr k e.symm; omega)).trans (h.block k hk hne)⟩
theorem Gr.setNew {B : Nat} {wa w : World} (h : Gr B wa w) {b : Nat} (hb : wa.heap.size ≤ b) (i : Nat) (u : Value) : Gr B wa (w.setCell ⟨b, i, none⟩ u) :=
  ⟨h.os, h.tape, h.output, by rw [World.size_setCell]; exact h.size, fun k hk hne => (Below.heap_setCell _ _ _ _ (by simp only; omega)).trans (h.block k hk hne)⟩
theorem Cur.keep {hi : Nat} {w w' : World} {B : Nat} (h : Cur hi w B) (e : ∀ b, b ≤ B → w'.heap[b]? = w.heap[b]?) : Cur hi w' B := by
  obtain ⟨h0, v, n, i, q, h1, h2, h3⟩ := h
  exact ⟨h0, v, n, i, q, h1.of (e _ (Nat.le_refl _)), h2.same (fun b _ hb => e b (by omega)), h3⟩
theorem Cur.setNew {hi : Nat} {w : World} {B b : Nat} (h : Cur hi w B) (hb : B < b) (i : Nat) (u : Value) : Cur hi (w.setCell ⟨b, i, none⟩ u) B := h.keep fun k hk => Below.heap_setCell _ _ _ _ (by simp only; omega)
theorem and_mask (z : Int) (m : Nat) (hm : m < 4611686018427387904) : 0 ≤ bits .and .i64 z (m : Int) ∧ bits .and .i64 z (m : Int) ≤ m := by
  have h2 : (BitVec.ofInt 64 (m : Int)).toNat = m := by
    rw [BitVec.ofInt_natCast, BitVec.toNat_ofNat]; exact Nat.mod_eq_of_lt (by omega)
  have h3 : (BitVec.ofInt 64 z &&& BitVec.ofInt 64 (m : Int)).toNat ≤ m := by
    rw [BitVec.toNat_and, h2]
    exact Nat.and_le_right
  show 0 ≤ IntKind.i64.wrap ((BitVec.ofInt 64 z &&& BitVec.ofInt 64 (m : Int)).toNat : Int) ∧ IntKind.i64.wrap ((BitVec.ofInt 64 z &&& BitVec.ofInt 64 (m : Int)).toNat : Int) ≤ m
  rw [IntWalk.i64_in _ ⟨by omega, by omega⟩]
  omega
theorem wrap64_i64 (n : Int) : I64 (wrap64 n) := by unfold wrap64; exact ⟨by omega, by omega⟩
theorem mask255 (z : Int) : 0 ≤ bits .and .i64 z 255 ∧ bits .and .i64 z 255 ≤ 255 := and_mask z 255 (by decide)

set_option maxHeartbeats 800000 in
theorem l01Byte_any (hi B : Nat) (w : World) (hc : Cur hi w B) :
    Calls Tryz.prog 17 #[.pointer (some ⟨B, 0, none⟩)] w fun e w' => ∃ x : Int, e = .returned (.int .i64 x) ∧ (0 ≤ x ∧ x ≤ 255) ∧ Cur hi w' B ∧ Gr B w w' := by
  obtain ⟨h0, v, n, i, q, h1, h2, h3, h4, h5⟩ := hc
  obtain ⟨a, cap, rfl, k1, k2⟩ := h2.open
  have c0 := h1.cell 0 rfl
  have c1 := h1.cell 1 rfl
  have c2 := h1.cell 2 rfl
  have f0 := h1.free 0
  have f1 := h1.free 1
  have f2 := h1.free 2
  have z := h1.lt
  have H1 := hid h1
  have H2 := hid h2
  clear h1 h2
  go_enter Tryz.func17, Tryz.ntmps17
  go_wp2
  go_quiet (fail)
  go_wp2
  obtain ⟨q1, hq1⟩ : ∃ r, wrap64 (wrap64 (q * 6364136223846793005) + 1442695040888963407) = r := ⟨_, rfl⟩
  have i1 : I64 q1 := hq1 ▸ wrap64_i64 _
  rw [hq1]
  clear hq1
  obtain ⟨x1, hx1⟩ : ∃ x, bits .and .i64 (bits .xor .i64 (q1 / 8589934592) (q1 / 35184372088832)) 255 = x := ⟨_, rfl⟩
  have b1 : 0 ≤ x1 ∧ x1 ≤ 255 := hx1 ▸ mask255 _
  rw [hx1]
  clear hx1
  have B1 := H1.out.set 2 (.int .i64 q1)
  have G1 := (Gr.refl B w).set 2 (.int .i64 q1)
  clear c0 c1 c2 f0 f1 f2 z
  have G2 : Gr B w ((w.setCell ⟨B, 2, none⟩ (.int .i64 q1)).drewN nq) := G1.ext (by repeat (with_reducible (first | assumption | exact Ext.refl _ | apply Ext.alloc | apply Ext.drew | apply Ext.drewN)))
  have B2 : Blk ((w.setCell ⟨B, 2, none⟩ (.int .i64 q1)).drewN nq) B 69 [.slice a n cap, .int .i64 (i : Nat), .int .i64 q1] := B1
  have H3 : Byts hi ((w.setCell ⟨B, 2, none⟩ (.int .i64 q1)).drewN nq) (.slice a n cap) n := H2.out.same (fun b _ hb => G2.block b (by have := H1.out.lt; omega) (fun e => by simp only [Option.some.injEq] at e; omega))
  have hz : w.heap.size ≤ ((w.setCell ⟨B, 2, none⟩ (.int .i64 q1)).drewN nq).heap.size := G2.size
  obtain ⟨w1, hw1⟩ : ∃ w1, (w.setCell ⟨B, 2, none⟩ (.int .i64 q1)).drewN nq = w1 := ⟨_, rfl⟩
  rw [hw1] at G2 B2 H3 hz ⊢
  have c0 := B2.cell 0 rfl
  have c1 := B2.cell 1 rfl
  have z := B2.lt
  clear hw1 B1 G1
  by_cases hlt : i < n
  · obtain ⟨b, off, y, rfl, hb, y0, y1, hcy⟩ := H3.at hlt
    have f1 := B2.free 1
    have hb2 : b < w1.heap.size := by omega
    replace H3 := hid H3
    go_quiet (fail)
    go_wp2
    go_quiet (fail)
    go_wp2
    go_ret
    refine ⟨_, rfl, mask255 _, ⟨h0, _, n, i + 1, q1, ?_, H3.out.same (fun b _ hb => Below.heap_setCell _ _ _ _ (by simp; omega)), by omega, h4, i1⟩, ?_⟩
    · have B3 := B2.set 1 (.int .i64 ((i : Int) + 1))
      have e : ((i : Int) + 1) = ((i + 1 : Nat) : Int) := by omega
      rw [← e]
      exact B3
    · exact (G2.ext (show Ext w1 (w1.drewN _) from (by repeat (with_reducible (first | assumption | exact Ext.refl _ | apply Ext.alloc | apply Ext.drew | apply Ext.drewN))))).set 1 _
  · go_quiet (fail)
    go_wp2
    go_ret
    exact ⟨x1, rfl, b1, ⟨h0, _, n, i, q1, B2, H3, h3, h4, i1⟩, G2.ext (by repeat (with_reducible (first | assumption | exact Ext.refl _ | apply Ext.alloc | apply Ext.drew | apply Ext.drewN)))⟩

set_option maxHeartbeats 800000 in
theorem l01Below_any (hi B : Nat) (n : Int) (w : World) (hc : Cur hi w B) (h0 : 0 < n) (hn : I64 n) :
    Calls Tryz.prog 37 #[.pointer (some ⟨B, 0, none⟩), .int .i64 n] w fun e w' => ∃ x : Int, e = .returned (.int .i64 x) ∧ (0 ≤ x ∧ x < n) ∧ Cur hi w' B ∧ Gr B w w' := by
  have HC := hid hc
  have HN := hid hn
  clear hc hn
  have hn0 : ¬ n ≤ 0 := by omega
  by_cases h1 : n ≤ 256
  · go_enter Tryz.func37, Tryz.ntmps37
    go_wp2_with fail
    refine (l01Byte_any hi B _ HC.out).mono ?_
    rintro e w1 ⟨x, rfl, ⟨x0, x1⟩, C1, G1⟩
    go_wp2
    go_ret
    exact ⟨x % n, rfl, ⟨Int.emod_nonneg _ (by omega), Int.emod_lt_of_pos _ h0⟩, C1, G1⟩
  · go_enter Tryz.func37, Tryz.ntmps37
    go_wp2_with fail
    refine (l01Byte_any hi B _ HC.out).mono ?_
    rintro e w1 ⟨x, rfl, ⟨x0, x1⟩, C1, G1⟩
    go_wp2_with fail
    refine (l01Byte_any hi B _ C1).mono ?_
    rintro e w2 ⟨y, rfl, ⟨y0, y1⟩, C2, G2⟩
    go_wp2_with fail
    refine (l01Byte_any hi B _ C2).mono ?_
    rintro e w3 ⟨z, rfl, ⟨z0, z1⟩, C3, G3⟩
    go_wp2_with fail
    refine (l01Byte_any hi B _ C3).mono ?_
    rintro e w4 ⟨v, rfl, ⟨v0, v1⟩, C4, G4⟩
    go_wp2
    go_ret
    exact ⟨_, rfl, ⟨Int.emod_nonneg _ (by omega), Int.emod_lt_of_pos _ h0⟩, C4, ((G1.trans G2).trans G3).trans G4⟩

theorem mask30 (z : Int) : 0 ≤ bits .and .i64 z 1073741823 ∧ bits .and .i64 z 1073741823 ≤ 1073741823 := and_mask z 1073741823 (by decide)
set_option maxHeartbeats 800000 in
theorem l01New_any (hi : Nat) (v : Value) (n : Nat) (w : World) (hv : Byts hi w v n) (hh : hi ≤ w.heap.size) (hn : n ≤ 1048576) :
    Calls Tryz.prog 22 #[v] w fun e w' => ∃ B, e = .returned (.pointer (some ⟨B, 0, none⟩)) ∧ w.heap.size ≤ B ∧ Cur hi w' B ∧ Ext w w' := by
  have HV := hid hv
  obtain ⟨a, cap, rfl, k1, k2⟩ := hv.open
  clear hv
  go_enter Tryz.func22, Tryz.ntmps22
  go_wp2
  go_loop [3, 4] (fun h i => ∃ (x : Int) (k : Nat), h = .int .i64 x ∧ i = .int .i64 k ∧ (0 ≤ x ∧ x ≤ 1100000000) ∧ k ≤ n) (fun _ i => n - (intOf i).toNat)
  case atStart => exact ⟨1953 + (n : Int), 0, rfl, rfl, ⟨by omega, by omega⟩, by omega⟩
  case round =>
    obtain ⟨x, k, rfl, rfl, ⟨x0, x1⟩, hk⟩ := hrel
    by_cases hlt : k < n
    · obtain ⟨b, off, y, rfl, hb, y0, y1, hcy⟩ := HV.out.at hlt
      have hb2 : b < w.heap.size := by omega
      by_cases h4 : k < 4000
      · have e4 : decide ((k : Int) < 4000) = true := decide_eq_true (by omega)
        go_wp2
        go_round
        case rel => exact ⟨_, k + 1, rfl, by go_num, ⟨(mask30 _).1, Int.le_trans (mask30 _).2 (by decide)⟩, by omega⟩
        case measure => simp [intOf]; omega
      · have e4 : decide ((k : Int) < 4000) = false := decide_eq_false (by omega)
        go_wp2
        go_ret
        exact ⟨w.heap.size, rfl, Nat.le_refl _, ⟨hh, _, n, 0, x, Blk.new _ _ _, HV.out.ext hh (by repeat (with_reducible (first | assumption | exact Ext.refl _ | apply Ext.alloc | apply Ext.drew | apply Ext.drewN))), by omega, hn, ⟨by omega, by omega⟩⟩, (by repeat (with_reducible (first | assumption | exact Ext.refl _ | apply Ext.alloc | apply Ext.drew | apply Ext.drewN)))⟩
    · obtain rfl : k = n := by omega
      go_wp2
      go_ret
      exact ⟨w.heap.size, rfl, Nat.le_refl _, ⟨hh, _, k, 0, x, Blk.new _ _ _, HV.out.ext hh (by repeat (with_reducible (first | assumption | exact Ext.refl _ | apply Ext.alloc | apply Ext.drew | apply Ext.drewN))), by omega, hn, ⟨by omega, by omega⟩⟩, (by repeat (with_reducible (first | assumption | exact Ext.refl _ | apply Ext.alloc | apply Ext.drew | apply Ext.drewN)))⟩

set_option maxHeartbeats 800000 in
theorem l32New_any (hi : Nat) (v : Value) (n m : Nat) (w : World) (hv : Byts hi w v n) (hh : hi ≤ w.heap.size) (hn : n ≤ 1048576) (hm : m ≤ 1000) :
    Calls Tryz.prog 16 #[v, .int .i64 m] w fun e w' => ∃ B, e = .returned (.pointer (some ⟨B, 0, none⟩)) ∧ w.heap.size ≤ B ∧ Cur hi w' B ∧ Ext w w' := by
  have HV := hid hv
  obtain ⟨a, cap, rfl, k1, k2⟩ := hv.open
  clear hv
  go_enter Tryz.func16, Tryz.ntmps16
  go_wp2_with fail
  refine (l01New_any hi _ n _ HV.out hh hn).mono ?_
  rintro e w1 ⟨B, rfl, hB, C1, x1⟩
  have HC := hid C1
  have HX := hid x1
  clear C1 x1
  go_wp2
  go_loopw [6] (fun i wr => ∃ k : Nat, i = .int .i64 k ∧ k ≤ m ∧ Cur hi wr B ∧ Gr B w1 wr) (fun i _ => m - (intOf i).toNat)
  case atStart => exact ⟨0, rfl, by omega, HC.out, Gr.refl _ _⟩
  case round =>
    obtain ⟨k, rfl, hk, C2, G2⟩ := hrel
    by_cases hlt : k < m
    · go_wp2_with fail
      refine (l01Byte_any hi B _ C2).mono ?_
      rintro e w3 ⟨x, rfl, hx, C3, G3⟩
      have HC3 := hid C3
      have HG3 := hid (G2.trans G3)
      clear C2 G2 C3 G3 hx
      go_wp2
      go_roundw
      case rel => exact ⟨k + 1, by go_num, by omega, HC3.out, HG3.out⟩
      case measure => simp [intOf]; omega
    · obtain rfl : k = m := by omega
      have HC2 := hid C2
      have HG2 := hid G2
      clear C2 G2
      go_wp2
      go_ret
      exact ⟨B, rfl, hB, HC2.out, HG2.out.up HX.out hB⟩

set_option maxHeartbeats 800000 in
theorem MakeNum_any (hi : Nat) (v : Value) (n m : Nat) (w : World) (hv : Byts hi w v n) (hh : hi ≤ w.heap.size) (hn : n ≤ 1048576) (hm : m ≤ 1000) :
    Calls Tryz.prog 5 #[v, .int .i64 m] w fun e w' => ∃ x : Int, e = .returned (.int .i64 x) ∧ (0 ≤ x ∧ x ≤ 65535) ∧ Ext w w' := by
  have HV := hid hv
  obtain ⟨a, cap, rfl, k1, k2⟩ := hv.open
  clear hv
  go_enter Tryz.func5, Tryz.ntmps5
  go_wp2_with fail
  refine (l32New_any hi _ n m _ HV.out hh hn hm).mono ?_
  rintro e w1 ⟨B, rfl, hB, C1, x1⟩
  go_wp2_with fail
  refine (l01Byte_any hi B _ C1).mono ?_
  rintro e w2 ⟨x, rfl, ⟨x0, x1'⟩, C2, G2⟩
  go_wp2_with fail
  refine (l01Byte_any hi B _ C2).mono ?_
  rintro e w3 ⟨y, rfl, ⟨y0, y1'⟩, C3, G3⟩
  go_wp2
  go_ret
  exact ⟨_, rfl, ⟨by omega, by omega⟩, (G2.trans G3).up x1 hB⟩
end Go.Proofs.YtkcghoeklbcihaaGreatDoor
