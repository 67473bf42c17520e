/- Texts of this claim, one behind another: Tk3, Tk4, Tk5, Ps1, Ps2, PlanE, Ps3, Ps4, Ps5, Ps6, Ps7, Ps8, Ps9, Cp6, Cp7, Cp8, Cp2, Draw, DrawT, Dr1, Dr2, L02a, L02b. -/
import Derived.Test.YtaegmenjgjdimaaGreatP23Y3
import Derived.Lib.SlBytesConst
import Derived.Test.YtaegmenjgjdimaaGreatPlan
import Derived.Test.YtaegmenjgjdimaaGreatP23Y2
import Derived.Maps.AppendAt
import Derived.Test.YtaegmenjgjdimaaGreatGr1
import Derived.Test.YtaegmenjgjdimaaGreatL01
import Derived.Test.YtaegmenjgjdimaaGreatL15e
import Derived.Deep.LoopGhost
import Derived.Test.YtaegmenjgjdimaaGreatP23Y1
set_option linter.unusedSimpArgs false
set_option linter.unusedVariables false
section
/- This text proves what the reference's scanner of one token hands back. -/
namespace Go.Proofs.YtaegmenjgjdimaaGreat
open Go.RowKit

def ldB (s : ByteArray) (j : Nat) : Bool := if h : j < s.size then letB (s[j].toNat : Nat) || digB (s[j].toNat : Nat) else false
def symL : List Int := [43, 45, 42, 47, 40, 41, 44, 61, 59]
/-- token t from o up to k of the text s -/
structure ScanR (s : ByteArray) (o : Nat) (t : Tok) (k : Nat) : Prop where
  lt : o < k
  le : k ≤ s.size
  off : t.off = o
  text : t.text.size ≤ 2000
  num : I64 t.num
  kind : 1 ≤ t.kind ∧ t.kind ≤ 3
def Tok.val (t : Tok) : Value := .agg #[.int .i64 t.kind, .string t.text, .int .i64 t.num, .int .i64 t.off]
theorem extract_le (s : ByteArray) (a b : Nat) : (s.extract a b).size ≤ s.size := by
  rw [ByteArray.size_extract]
  omega
set_option maxRecDepth 10000 in
set_option maxHeartbeats 3200000 in
theorem l12Scan_dig (s : ByteArray) (o : Nat) (w : World) (hs : s.size ≤ 2000) (ho : o < s.size) (hd : digB (s[o].toNat : Nat) = true) : Calls Tryz.prog 104 #[.string s, .int .i64 (o : Nat)] w fun e w' => ∃ (t : Tok) (k : Nat) (b : Bool), e = .returned (.tuple #[t.val, .int .i64 (k : Nat), .bool b]) ∧ ScanR s o t k ∧ Ext w w' := by
  have HD := hid hd
  clear hd
  go_enter Tryz.func104, Tryz.ntmps104
  go_wp2_with (go_at_call 131; refine (l12Digit_val HD.out _).mono ?_; rintro e w1 ⟨rfl, rfl⟩)
  refine (l12Number_any s o _ hs ho HD.out).mono ?_
  rintro e w1 ⟨k, n, b, rfl, hk, hks, hn, x1⟩
  have z1 := x1.size
  have BX := (Bx.made w #[.int .i64 0, .string ⟨#[]⟩, .int .i64 0, .int .i64 0] 145).ext x1
  simp only [World.size_alloc] at z1
  have X0 : Ext w w1 := Ext.trans (by repeat (with_reducible (first | assumption | exact Ext.refl _ | apply Ext.alloc | apply Ext.drew | apply Ext.drewN))) x1
  clear x1
  have bx := BX.lt
  have bx0 := BX.cell 0
  simp only [List.getElem?_toArray, List.getElem?_cons_zero, List.getElem?_cons_succ] at bx0
  have bx1 := BX.cell 1
  simp only [List.getElem?_toArray, List.getElem?_cons_zero, List.getElem?_cons_succ] at bx1
  have bx2 := BX.cell 2
  simp only [List.getElem?_toArray, List.getElem?_cons_zero, List.getElem?_cons_succ] at bx2
  have bx3 := BX.cell 3
  simp only [List.getElem?_toArray, List.getElem?_cons_zero, List.getElem?_cons_succ] at bx3
  have bxf0 := BX.frozen 0
  have bxf1 := BX.frozen 1
  have bxf2 := BX.frozen 2
  have bxf3 := BX.frozen 3
  go_wp2

  refine bodyPost_ret (v := .tuple #[.agg #[.int .i64 1, .string (s.extract o k), .int .i64 n, .int .i64 (o : Nat)], .int .i64 (k : Nat), .bool b]) (by simp [results, Tryz.results104, go_sem, *]) rfl ?_
  exact ⟨⟨1, s.extract o k, n, o⟩, k, b, rfl, ⟨hk, hks, rfl, Nat.le_trans (extract_le s o k) hs, hn, by show (1 : Int) ≤ 1; decide, by show (1 : Int) ≤ 3; decide⟩, (by repeat (first | with_reducible assumption | with_reducible exact Ext.refl _ | with_reducible apply Ext.alloc | with_reducible apply Ext.drew | with_reducible apply Ext.drewN | (with_reducible refine Ext.setCell ?_ (by simp; omega) _) | (with_reducible refine Ext.setCell ?_ (by simp) _)))⟩
set_option maxRecDepth 20000 in
set_option maxHeartbeats 6400000 in
theorem l12Scan_let (s : ByteArray) (o : Nat) (w : World) (hs : s.size ≤ 2000) (ho : o < s.size) (hd : digB (s[o].toNat : Nat) = false) (hl : letB (s[o].toNat : Nat) = true) : Calls Tryz.prog 104 #[.string s, .int .i64 (o : Nat)] w fun e w' => ∃ k : Nat, e = .returned (.tuple #[Tok.val ⟨2, s.extract o k, 0, o⟩, .int .i64 (k : Nat), .bool (decide ((k : Int) - o ≤ 8))]) ∧ ScanR s o ⟨2, s.extract o k, 0, o⟩ k ∧ (∀ j, o ≤ j → j < k → ldB s j = true) ∧ ldB s k = false ∧ Ext w w' := by
  have HD := hid hd
  have HL := hid hl
  clear hd hl
  go_enter Tryz.func104, Tryz.ntmps104
  have BX := Bx.made w #[.int .i64 0, .string ⟨#[]⟩, .int .i64 0, .int .i64 0] 145
  have X0 : Ext w (w.alloc (.cells #[.int .i64 0, .string ⟨#[]⟩, .int .i64 0, .int .i64 0] 145)) := (by repeat (with_reducible (first | assumption | exact Ext.refl _ | apply Ext.alloc | apply Ext.drew | apply Ext.drewN)))
  go_wp2_with first | (go_at_call 131; refine (l12Digit_val HD.out _).mono ?_; rintro e w1 ⟨rfl, rfl⟩) | (go_at_call 133; refine (l12Letter_val HL.out _).mono ?_; rintro e w1 ⟨rfl, rfl⟩)
  go_loopw [11] (fun i wr => ∃ k : Nat, o ≤ k ∧ k ≤ s.size ∧ i = .int .i64 (k : Nat) ∧ (∀ j, o ≤ j → j < k → ldB s j = true) ∧ wr = w.alloc (.cells #[.int .i64 0, .string ⟨#[]⟩, .int .i64 0, .int .i64 0] 145)) (fun i _ => s.size - (intOf i).toNat)
  case atStart => exact ⟨o, Nat.le_refl _, by omega, rfl, fun j h1 h2 => by omega, rfl⟩
  case round =>
    obtain ⟨k, hk, hks, rfl, hall, rfl⟩ := hrel
    have HA := hid hall
    clear hall
    have htok : ∀ q, (s.extract o q).size ≤ 2000 := fun q => Nat.le_trans (extract_le s o q) hs
    have HT := hid htok
    clear htok
    have bx := BX.lt
    have bx0 := BX.cell 0
    simp only [List.getElem?_toArray, List.getElem?_cons_zero, List.getElem?_cons_succ] at bx0
    have bx1 := BX.cell 1
    simp only [List.getElem?_toArray, List.getElem?_cons_zero, List.getElem?_cons_succ] at bx1
    have bx2 := BX.cell 2
    simp only [List.getElem?_toArray, List.getElem?_cons_zero, List.getElem?_cons_succ] at bx2
    have bx3 := BX.cell 3
    simp only [List.getElem?_toArray, List.getElem?_cons_zero, List.getElem?_cons_succ] at bx3
    have bxf0 := BX.frozen 0
    have bxf1 := BX.frozen 1
    have bxf2 := BX.frozen 2
    have bxf3 := BX.frozen 3
    simp only [World.size_alloc] at bx
    have fin : k ≤ s.size ∧ ldB s k = false → o < k := fun h => by
      by_cases e : k = o
      · subst e
        have h2 := h.2
        unfold ldB at h2
        rw [dif_pos ho, HL.out] at h2
        simp at h2
      · omega
    have HF := hid fin
    clear fin
    by_cases hlt : k < s.size
    · cases h1 : letB (s[k].toNat : Nat)
      · cases h2 : digB (s[k].toNat : Nat)
        · have hld : ldB s k = false := by unfold ldB; rw [dif_pos hlt, h1, h2]; rfl
          have HB := hid hld
          have H1 := hid h1
          have H2 := hid h2
          have hok := HF.out ⟨hks, hld⟩
          clear hld h1 h2
          go_wp2_with first | (go_at_call 131; refine (l12Digit_val H2.out _).mono ?_; rintro e w1 ⟨rfl, rfl⟩) | (go_at_call 133; refine (l12Letter_val H1.out _).mono ?_; rintro e w1 ⟨rfl, rfl⟩)
          refine bodyPost_ret (v := .tuple #[Tok.val ⟨2, s.extract o k, 0, o⟩, .int .i64 (k : Nat), .bool (decide ((k : Int) - o ≤ 8))]) (by simp [results, Tok.val, Tryz.results104, go_sem, *]) rfl ?_
          exact ⟨k, rfl, ⟨hok, hks, rfl, HT.out k, ⟨by show (-9223372036854775808 : Int) ≤ 0; decide, by show (0 : Int) ≤ 9223372036854775807; decide⟩, by show (1 : Int) ≤ 2; decide, by show (2 : Int) ≤ 3; decide⟩, HA.out, HB.out, (by repeat (first | with_reducible assumption | with_reducible exact Ext.refl _ | with_reducible apply Ext.alloc | with_reducible apply Ext.drew | with_reducible apply Ext.drewN | (with_reducible refine Ext.setCell ?_ (by simp; omega) _) | (with_reducible refine Ext.setCell ?_ (by simp) _)))⟩
        · have hld : ldB s k = true := by unfold ldB; rw [dif_pos hlt, h1, h2]; rfl
          have HB := hid hld
          have H1 := hid h1
          have H2 := hid h2
          clear hld h1 h2
          go_wp2_with first | (go_at_call 131; refine (l12Digit_val H2.out _).mono ?_; rintro e w1 ⟨rfl, rfl⟩) | (go_at_call 133; refine (l12Letter_val H1.out _).mono ?_; rintro e w1 ⟨rfl, rfl⟩)
          go_roundw
          case rel => exact ⟨k + 1, by omega, by omega, by go_num, fun j j1 j2 => by (by_cases e : j = k); exact e ▸ HB.out; exact HA.out j j1 (by omega), by trivial⟩
          case measure => simp [intOf]; omega
      · have hld : ldB s k = true := by unfold ldB; rw [dif_pos hlt, h1]; rfl
        have HB := hid hld
        have H1 := hid h1
        clear hld h1
        go_wp2_with first | (go_at_call 133; refine (l12Letter_val H1.out _).mono ?_; rintro e w1 ⟨rfl, rfl⟩)
        go_roundw
        case rel => exact ⟨k + 1, by omega, by omega, by go_num, fun j j1 j2 => by (by_cases e : j = k); exact e ▸ HB.out; exact HA.out j j1 (by omega), by trivial⟩
        case measure => simp [intOf]; omega
    · have hld : ldB s k = false := by unfold ldB; rw [dif_neg hlt]
      have HB := hid hld
      have hok := HF.out ⟨hks, hld⟩
      clear hld
      go_wp2
      refine bodyPost_ret (v := .tuple #[Tok.val ⟨2, s.extract o k, 0, o⟩, .int .i64 (k : Nat), .bool (decide ((k : Int) - o ≤ 8))]) (by simp [results, Tok.val, Tryz.results104, go_sem, *]) rfl ?_
      exact ⟨k, rfl, ⟨hok, hks, rfl, HT.out k, ⟨by show (-9223372036854775808 : Int) ≤ 0; decide, by show (0 : Int) ≤ 9223372036854775807; decide⟩, by show (1 : Int) ≤ 2; decide, by show (2 : Int) ≤ 3; decide⟩, HA.out, HB.out, (by repeat (first | with_reducible assumption | with_reducible exact Ext.refl _ | with_reducible apply Ext.alloc | with_reducible apply Ext.drew | with_reducible apply Ext.drewN | (with_reducible refine Ext.setCell ?_ (by simp; omega) _) | (with_reducible refine Ext.setCell ?_ (by simp) _)))⟩
set_option maxRecDepth 20000 in
set_option maxHeartbeats 6400000 in
theorem l12Scan_oth (s : ByteArray) (o : Nat) (w : World) (hs : s.size ≤ 2000) (ho : o < s.size) (hd : digB (s[o].toNat : Nat) = false) (hl : letB (s[o].toNat : Nat) = false) : Calls Tryz.prog 104 #[.string s, .int .i64 (o : Nat)] w fun e w' => ∃ (t : Tok) (k : Nat) (b : Bool), e = .returned (.tuple #[t.val, .int .i64 (k : Nat), .bool b]) ∧ (b = true → t = ⟨3, s.extract o (o + 1), 0, o⟩ ∧ k = o + 1) ∧ (((s[o].toNat : Nat) : Int) ∈ symL → b = true) ∧ Ext w w' := by
  obtain ⟨c, hc⟩ : ∃ c : Int, ((s[o].toNat : Nat) : Int) = c := ⟨_, rfl⟩
  rw [hc] at hd hl ⊢
  have HD := hid hd
  have HL := hid hl
  have htok : ∀ q, (s.extract o q).size ≤ 2000 := fun q => Nat.le_trans (extract_le s o q) hs
  have HT := hid htok
  clear hd hl htok
  have kc : (Go.convert 22 22 (.slice (some ⟨w.heap.size + 1, 0, none⟩) 9 9)).run Tryz.prog ((w.alloc (.cells #[.int .i64 0, .string ⟨#[]⟩, .int .i64 0, .int .i64 0] 145)).alloc (.cells #[.int .u8 43, .int .u8 45, .int .u8 42, .int .u8 47, .int .u8 40, .int .u8 41, .int .u8 44, .int .u8 61, .int .u8 59] 5)) = .ok (.slice (some ⟨w.heap.size + 1, 0, none⟩) 9 9) ((w.alloc (.cells #[.int .i64 0, .string ⟨#[]⟩, .int .i64 0, .int .i64 0] 145)).alloc (.cells #[.int .u8 43, .int .u8 45, .int .u8 42, .int .u8 47, .int .u8 40, .int .u8 41, .int .u8 44, .int .u8 61, .int .u8 59] 5 (9, 10))) := by
    have := Lib.run_convert_bytes_const (P := Tryz.prog) (w.alloc (.cells #[.int .i64 0, .string ⟨#[]⟩, .int .i64 0, .int .i64 0] 145)) 22 5 #[.int .u8 43, .int .u8 45, .int .u8 42, .int .u8 47, .int .u8 40, .int .u8 41, .int .u8 44, .int .u8 61, .int .u8 59] 9 9 Tryz.underlying22 Tryz.underlying5
    simp only [World.size_alloc] at this
    exact this
  have BX := Bx.made w #[.int .i64 0, .string ⟨#[]⟩, .int .i64 0, .int .i64 0] 145
  have x1 : Ext (w.alloc (.cells #[.int .i64 0, .string ⟨#[]⟩, .int .i64 0, .int .i64 0] 145)) ((w.alloc (.cells #[.int .i64 0, .string ⟨#[]⟩, .int .i64 0, .int .i64 0] 145)).alloc (.cells #[.int .u8 43, .int .u8 45, .int .u8 42, .int .u8 47, .int .u8 40, .int .u8 41, .int .u8 44, .int .u8 61, .int .u8 59] 5 (9, 10))) := (by repeat (with_reducible (first | assumption | exact Ext.refl _ | apply Ext.alloc | apply Ext.drew | apply Ext.drewN)))
  have BX1 := BX.ext x1
  have X0 : Ext w ((w.alloc (.cells #[.int .i64 0, .string ⟨#[]⟩, .int .i64 0, .int .i64 0] 145)).alloc (.cells #[.int .u8 43, .int .u8 45, .int .u8 42, .int .u8 47, .int .u8 40, .int .u8 41, .int .u8 44, .int .u8 61, .int .u8 59] 5 (9, 10))) := (by repeat (with_reducible (first | assumption | exact Ext.refl _ | apply Ext.alloc | apply Ext.drew | apply Ext.drewN)))
  have hcell : ∀ (j : Nat) (y : Int), symL[j]? = some y → ((w.alloc (.cells #[.int .i64 0, .string ⟨#[]⟩, .int .i64 0, .int .i64 0] 145)).alloc (.cells #[.int .u8 43, .int .u8 45, .int .u8 42, .int .u8 47, .int .u8 40, .int .u8 41, .int .u8 44, .int .u8 61, .int .u8 59] 5 (9, 10))).cell? ⟨w.heap.size + 1, j, none⟩ = some (.int .u8 y) := by
    intro j y hy
    have hb : ((w.alloc (.cells #[.int .i64 0, .string ⟨#[]⟩, .int .i64 0, .int .i64 0] 145)).alloc (.cells #[.int .u8 43, .int .u8 45, .int .u8 42, .int .u8 47, .int .u8 40, .int .u8 41, .int .u8 44, .int .u8 61, .int .u8 59] 5 (9, 10))).heap[w.heap.size + 1]? = some (.cells (symL.map (Value.int .u8)).toArray 5 (9, 10)) := by
      have := heap_alloc_new (w.alloc (.cells #[.int .i64 0, .string ⟨#[]⟩, .int .i64 0, .int .i64 0] 145)) (.cells #[.int .u8 43, .int .u8 45, .int .u8 42, .int .u8 47, .int .u8 40, .int .u8 41, .int .u8 44, .int .u8 61, .int .u8 59] 5 (9, 10))
      rw [World.size_alloc] at this
      exact this
    simp only [World.cell?, hb]
    simp [hy]
  generalize ((w.alloc (.cells #[.int .i64 0, .string ⟨#[]⟩, .int .i64 0, .int .i64 0] 145)).alloc (.cells #[.int .u8 43, .int .u8 45, .int .u8 42, .int .u8 47, .int .u8 40, .int .u8 41, .int .u8 44, .int .u8 61, .int .u8 59] 5 (9, 10))) = W at BX1 X0 hcell x1 kc
  have HC := hid hcell
  clear hcell x1
  go_enter Tryz.func104, Tryz.ntmps104
  go_wp2_with first | (go_at_call 131; refine (l12Digit_val HD.out _).mono ?_; rintro e w1 ⟨rfl, rfl⟩) | (go_at_call 133; refine (l12Letter_val HL.out _).mono ?_; rintro e w1 ⟨rfl, rfl⟩)
  clear kc BX
  have HK := hid hc
  clear hc
  go_loopw [70] (fun i wr => ∃ k : Nat, k ≤ 9 ∧ i = .int .i64 (k : Nat) ∧ (∀ j, j < k → symL[j]? ≠ some c) ∧ wr = W) (fun i _ => 9 - (intOf i).toNat)
  case atStart => exact ⟨0, by omega, rfl, fun j h => by omega, rfl⟩
  case round =>
    obtain ⟨k, hk, rfl, hall, rfl⟩ := hrel
    have HA := hid hall
    clear hall
    have bx := BX1.lt
    have bx0 := BX1.cell 0
    simp only [List.getElem?_toArray, List.getElem?_cons_zero, List.getElem?_cons_succ] at bx0
    have bx1 := BX1.cell 1
    simp only [List.getElem?_toArray, List.getElem?_cons_zero, List.getElem?_cons_succ] at bx1
    have bx2 := BX1.cell 2
    simp only [List.getElem?_toArray, List.getElem?_cons_zero, List.getElem?_cons_succ] at bx2
    have bx3 := BX1.cell 3
    simp only [List.getElem?_toArray, List.getElem?_cons_zero, List.getElem?_cons_succ] at bx3
    have bxf0 := BX1.frozen 0
    have bxf1 := BX1.frozen 1
    have bxf2 := BX1.frozen 2
    have bxf3 := BX1.frozen 3
    by_cases hlt : k < 9
    · obtain ⟨y, hy⟩ : ∃ y, symL[k]? = some y := ⟨symL[k]'(by simpa [symL] using hlt), by simp⟩
      have hcell := HC.out k y hy
      have hb2 : w.heap.size + 1 < wr.heap.size := World.block_lt_of_cell? _ _ hcell
      have HY := hid hy
      clear hy
      by_cases hyc : y = c
      · subst hyc
        go_wp2
        refine bodyPost_ret (v := .tuple #[Tok.val ⟨3, s.extract o (o + 1), 0, o⟩, .int .i64 ((o : Int) + 1), .bool true]) (by simp [results, Tok.val, Tryz.results104, go_sem, *]) rfl ?_
        exact ⟨_, o + 1, true, by go_num, fun _ => ⟨rfl, rfl⟩, fun _ => rfl, (by repeat (first | with_reducible assumption | with_reducible exact Ext.refl _ | with_reducible apply Ext.alloc | with_reducible apply Ext.drew | with_reducible apply Ext.drewN | (with_reducible refine Ext.setCell ?_ (by simp; omega) _) | (with_reducible refine Ext.setCell ?_ (by simp) _)))⟩
      · have hyb : (y == c) = false := beq_eq_false_iff_ne.2 hyc
        go_wp2
        go_roundw
        case rel => exact ⟨k + 1, by omega, by go_num, fun j hj => by (by_cases e : j = k); exact e ▸ (fun h => hyc (by rw [HY.out] at h; simpa using h)); exact HA.out j (by omega), by trivial⟩
        case measure => simp [intOf]; omega
    · obtain rfl : k = 9 := by omega
      have hno : c ∉ symL := fun h => by
        obtain ⟨j, hj, e⟩ := List.getElem_of_mem h
        exact HA.out j (by simpa [symL] using hj) (by rw [List.getElem?_eq_getElem hj, e])
      have HN := hid hno
      clear hno
      go_wp2
      refine bodyPost_ret (v := .tuple #[Tok.val ⟨0, ⟨#[]⟩, 0, 0⟩, .int .i64 (o : Nat), .bool false]) (by simp [results, Tok.val, Tryz.results104, go_sem, *]) rfl ?_
      exact ⟨_, o, false, rfl, (fun h => nomatch h), (fun h => absurd h HN.out), (by repeat (first | with_reducible assumption | with_reducible exact Ext.refl _ | with_reducible apply Ext.alloc | with_reducible apply Ext.drew | with_reducible apply Ext.drewN | (with_reducible refine Ext.setCell ?_ (by simp; omega) _) | (with_reducible refine Ext.setCell ?_ (by simp) _)))⟩
end Go.Proofs.YtaegmenjgjdimaaGreat
end

section
/- This text gathers what the scanner of one token hands back, and follows it over the text "color = u;". -/
namespace Go.Proofs.YtaegmenjgjdimaaGreat
open Go.RowKit

/-- what a scan of names and symbols is exactly -/
structure ScanE (s : ByteArray) (o : Nat) (ho : o < s.size) (t : Tok) (k : Nat) (b : Bool) : Prop where
  lets : letB (s[o].toNat : Nat) = true → t = ⟨2, s.extract o k, 0, o⟩ ∧ b = decide ((k : Int) - o ≤ 8) ∧ (∀ j, o ≤ j → j < k → ldB s j = true) ∧ ldB s k = false ∧ o < k
  syms : digB (s[o].toNat : Nat) = false → letB (s[o].toNat : Nat) = false → ((s[o].toNat : Nat) : Int) ∈ symL → b = true ∧ t = ⟨3, s.extract o (o + 1), 0, o⟩ ∧ k = o + 1
theorem let_dig {x : Int} (h : letB x = true) : digB x = false := by
  have h1 := inB_iff.1 h
  cases h2 : digB x
  · rfl
  · have := inB_iff.1 h2
    omega
theorem l12Scan_any (s : ByteArray) (o : Nat) (w : World) (hs : s.size ≤ 2000) (ho : o < s.size) : Calls Tryz.prog 104 #[.string s, .int .i64 (o : Nat)] w fun e w' => ∃ (t : Tok) (k : Nat) (b : Bool), e = .returned (.tuple #[t.val, .int .i64 (k : Nat), .bool b]) ∧ (b = true → ScanR s o t k) ∧ ScanE s o ho t k b ∧ Ext w w' := by
  cases hd : digB (s[o].toNat : Nat)
  · cases hl : letB (s[o].toNat : Nat)
    · refine (l12Scan_oth s o w hs ho hd hl).mono ?_
      rintro e w1 ⟨t, k, b, rfl, h1, h2, x⟩
      refine ⟨t, k, b, rfl, fun hb => ?_, ⟨(fun h => by rw [hl] at h; cases h), fun _ _ hm => ⟨h2 hm, (h1 (h2 hm)).1, (h1 (h2 hm)).2⟩⟩, x⟩
      obtain ⟨rfl, rfl⟩ := h1 hb
      exact ⟨by omega, by omega, rfl, Nat.le_trans (extract_le s o (o + 1)) hs, ⟨by show (-9223372036854775808 : Int) ≤ 0; decide, by show (0 : Int) ≤ 9223372036854775807; decide⟩, by show (1 : Int) ≤ 3; decide, by show (3 : Int) ≤ 3; decide⟩
    · refine (l12Scan_let s o w hs ho hd hl).mono ?_
      rintro e w1 ⟨k, rfl, h1, h2, h3, x⟩
      exact ⟨_, k, _, rfl, fun _ => h1, ⟨fun _ => ⟨rfl, rfl, h2, h3, h1.lt⟩, (fun _ h => by rw [hl] at h; cases h)⟩, x⟩
  · refine (l12Scan_dig s o w hs ho hd).mono ?_
    rintro e w1 ⟨t, k, b, rfl, h1, x⟩
    exact ⟨t, k, b, rfl, fun _ => h1, ⟨(fun h => by rw [let_dig h] at hd; cases hd), (fun h => by rw [hd] at h; cases h)⟩, x⟩

def cuS : ByteArray := ⟨#[99, 111, 108, 111, 114, 32, 61, 32, 117, 59]⟩
def cuT : List Tok := [⟨2, ⟨#[99, 111, 108, 111, 114]⟩, 0, 0⟩, ⟨3, ⟨#[61]⟩, 0, 6⟩, ⟨2, ⟨#[117]⟩, 0, 8⟩, ⟨3, ⟨#[59]⟩, 0, 9⟩]
/-- where the lexer may stand in that text, and its tokens up to there -/
def CuSt (o : Nat) (out : List Tok) : Prop := (o = 0 ∧ out = []) ∨ (o = 5 ∧ out = cuT.take 1) ∨ (o = 6 ∧ out = cuT.take 1) ∨ (o = 7 ∧ out = cuT.take 2) ∨ (o = 8 ∧ out = cuT.take 2) ∨ (o = 9 ∧ out = cuT.take 3) ∨ (o = 10 ∧ out = cuT.take 4)
theorem cu_size : cuS.size = 10 := rfl
theorem cu_end {o k e : Nat} (h1 : ∀ j, o ≤ j → j < k → ldB cuS j = true) (h2 : ldB cuS k = false) (hk : o < k) (he : ldB cuS e = false) (hoe : o ≤ e) (hall : ∀ j, o < j → j < e → ldB cuS j = true) : k = e := by
  rcases Nat.lt_trichotomy k e with h | h | h
  · rw [hall k hk h] at h2; cases h2
  · exact h
  · rw [h1 e hoe h] at he; cases he
/-- a separator -/
def sepB (x : Int) : Bool := decide (x = 32) || decide (x = 10)
theorem cu_step {o : Nat} {out : List Tok} (h : CuSt o out) (ho : o < cuS.size) : (sepB (cuS[o].toNat : Nat) = true → CuSt (o + 1) out) ∧ (sepB (cuS[o].toNat : Nat) = false → ∀ (t : Tok) (k : Nat) (b : Bool), ScanE cuS o ho t k b → b = true ∧ CuSt k (out ++ [t])) := by
  rcases h with ⟨rfl, rfl⟩ | ⟨rfl, rfl⟩ | ⟨rfl, rfl⟩ | ⟨rfl, rfl⟩ | ⟨rfl, rfl⟩ | ⟨rfl, rfl⟩ | ⟨rfl, rfl⟩
  · have e : (cuS[0]'ho).toNat = 99 := rfl
    refine ⟨(fun h => by rw [e] at h; exact absurd h (by decide)), fun _ t k b hE => ?_⟩
    obtain ⟨rfl, rfl, h1, h2, hk⟩ := hE.lets (by rw [e]; decide)
    obtain rfl := cu_end h1 h2 hk (e := 5) (by decide) (by decide) (by
      intro j j1 j2
      rcases (show j = 1 ∨ j = 2 ∨ j = 3 ∨ j = 4 by omega) with rfl | rfl | rfl | rfl <;> decide)
    exact ⟨by decide, .inr (.inl ⟨rfl, rfl⟩)⟩
  · have e : (cuS[5]'ho).toNat = 32 := rfl
    exact ⟨fun _ => .inr (.inr (.inl ⟨rfl, rfl⟩)), (fun h => by rw [e] at h; exact absurd h (by decide))⟩
  · have e : (cuS[6]'ho).toNat = 61 := rfl
    refine ⟨(fun h => by rw [e] at h; exact absurd h (by decide)), fun _ t k b hE => ?_⟩
    obtain ⟨rfl, rfl, rfl⟩ := hE.syms (by rw [e]; decide) (by rw [e]; decide) (by rw [e]; decide)
    exact ⟨rfl, .inr (.inr (.inr (.inl ⟨rfl, rfl⟩)))⟩
  · have e : (cuS[7]'ho).toNat = 32 := rfl
    exact ⟨fun _ => .inr (.inr (.inr (.inr (.inl ⟨rfl, rfl⟩)))), (fun h => by rw [e] at h; exact absurd h (by decide))⟩
  · have e : (cuS[8]'ho).toNat = 117 := rfl
    refine ⟨(fun h => by rw [e] at h; exact absurd h (by decide)), fun _ t k b hE => ?_⟩
    obtain ⟨rfl, rfl, h1, h2, hk⟩ := hE.lets (by rw [e]; decide)
    obtain rfl := cu_end h1 h2 hk (e := 9) (by decide) (by decide) (by intro j j1 j2; omega)
    exact ⟨by decide, .inr (.inr (.inr (.inr (.inr (.inl ⟨rfl, rfl⟩)))))⟩
  · have e : (cuS[9]'ho).toNat = 59 := rfl
    refine ⟨(fun h => by rw [e] at h; exact absurd h (by decide)), fun _ t k b hE => ?_⟩
    obtain ⟨rfl, rfl, rfl⟩ := hE.syms (by rw [e]; decide) (by rw [e]; decide) (by rw [e]; decide)
    exact ⟨rfl, .inr (.inr (.inr (.inr (.inr (.inr ⟨rfl, rfl⟩)))))⟩
  · exact absurd ho (by decide)
end Go.Proofs.YtaegmenjgjdimaaGreat
end

section
/- This text proves the reference's Tokenize: what its tokens are at least, and what they are at the text "color = u;". -/
namespace Go.Proofs.YtaegmenjgjdimaaGreat
open Go.RowKit

/-- what is asked of a token that is not the last -/
def TokG (t : Tok) : Prop := 1 ≤ t.kind ∧ t.kind ≤ 3 ∧ t.text.size ≤ 2000 ∧ I64 t.num ∧ 0 ≤ t.off ∧ t.off ≤ 2000
/-- tokens that end with the mark of the end -/
def Toks (tk : List Tok) : Prop := ∃ (ts : List Tok) (n : Int), tk = ts ++ [⟨0, ⟨#[]⟩, 0, n⟩] ∧ (∀ t ∈ ts, TokG t) ∧ 0 ≤ n ∧ n ≤ 2000 ∧ ts.length ≤ 2000
set_option maxRecDepth 20000 in
set_option maxHeartbeats 6400000 in
theorem sTokenize_any (s : ByteArray) (w : World) (hs : s.size ≤ maxLen) : Calls Tryz.prog 70 #[.string s] w fun e w' => ∃ (v : Value) (n : Int), e = .returned (.tuple #[v, .int .i64 n]) ∧ Ext w w' ∧ (s = cuS → n = -1) ∧ (0 ≤ n ∨ (n = -1 ∧ ∃ tk, OwnToks w.heap.size w' v tk ∧ Toks tk ∧ (s = cuS → tk = cuT ++ [⟨0, ⟨#[]⟩, 0, 10⟩]))) := by
  unfold maxLen at hs
  by_cases hl : s.size > 2000
  · have hne : s ≠ cuS := fun e => by rw [e, cu_size] at hl; omega
    go_enter Tryz.func70, Tryz.ntmps70
    go_wp2
    go_ret2
    exact ⟨_, _, rfl, Ext.refl _, fun e => absurd e hne, .inl (by decide)⟩
  · have hs2 : s.size ≤ 2000 := by omega
    have hown : OwnToks w.heap.size (w.alloc (.cells #[] 145)) (.slice (some ⟨w.heap.size, 0, none⟩) 0 0) [] := ⟨rfl, .inr ⟨w.heap.size, 0, #[], rfl, Nat.le_refl _, heap_alloc_new w _, Nat.le_refl _, by unfold maxLen; omega, rfl, rfl⟩⟩
    have HO := hid hown
    clear hown
    go_enter Tryz.func70, Tryz.ntmps70
    go_wp2
    go_loopw [4, 5] (fun v i wr => ∃ (k : Nat) (ts : List Tok), k ≤ s.size ∧ i = .int .i64 (k : Nat) ∧ OwnToks w.heap.size wr v ts ∧ (∀ t ∈ ts, TokG t) ∧ ts.length ≤ k ∧ (s = cuS → CuSt k ts) ∧ Ext w wr) (fun _ i _ => s.size - (intOf i).toNat)
    case atStart => exact ⟨0, [], by omega, rfl, HO.out, (fun t h => nomatch h), Nat.le_refl _, fun _ => .inl ⟨rfl, rfl⟩, (by repeat (with_reducible (first | assumption | exact Ext.refl _ | apply Ext.alloc | apply Ext.drew | apply Ext.drewN)))⟩
    case round =>
      obtain ⟨k, ts, hk, rfl, hown, hall, htl, hcu, hx⟩ := hrel
      have HO2 := hid hown
      have HA := hid hall
      have HC := hid hcu
      have HX := hid hx
      obtain ⟨va, vc, rfl, -⟩ := hown.form
      have zx := hx.size
      clear hown hall hcu hx HO
      by_cases hlt : k < s.size
      · cases hsp : sepB (s[k].toNat : Nat)
        · have h32 : ¬ ((s[k].toNat : Nat) : Int) = 32 := fun e => by rw [e] at hsp; cases hsp
          have h10 : ¬ ((s[k].toNat : Nat) : Int) = 10 := fun e => by rw [e] at hsp; cases hsp
          have HS := hid hsp
          have e32 : (((s[k].toNat : Nat) : Int) == 32) = false := beq_eq_false_iff_ne.2 h32
          have e10 : (((s[k].toNat : Nat) : Int) == 10) = false := beq_eq_false_iff_ne.2 h10
          clear hsp h32 h10
          go_wp2_with fail
          refine (l12Scan_any s k wr hs2 hlt).mono ?_
          rintro e w1 ⟨t, k2, b, rfl, hR, hE, x1⟩
          simp only [Tok.val]
          have hcu2 : s = cuS → b = true ∧ CuSt k2 (ts ++ [t]) := fun e => by
            subst e
            exact (cu_step (HC.out rfl) hlt).2 HS.out t k2 b hE
          have HC2 := hid hcu2
          have z1 := x1.size
          clear hE hcu2
          cases b
          · go_wp2
            go_ret2
            exact ⟨_, _, rfl, (show Ext w _ from HX.out.trans (x1.trans (by repeat (with_reducible (first | assumption | exact Ext.refl _ | apply Ext.alloc | apply Ext.drew | apply Ext.drewN))))), (fun e => by have := (HC2.out e).1; cases this), .inl (by omega)⟩
          · have R := hR rfl
            have HR := hid R
            have k2s := R.le
            have kk2 := R.lt
            have HO3 := hid (HO2.out.ext x1 : OwnToks w.heap.size w1 (.slice va ts.length vc) ts)
            clear hR R
            have B2 : Blk ((w1.alloc (.cells #[.int .i64 t.kind, .string t.text, .int .i64 t.num, .int .i64 t.off] 145)).alloc (.cells #[.int .i64 t.kind, .string t.text, .int .i64 t.num, .int .i64 t.off] 145)) (w1.heap.size + 1) 145 [.int .i64 t.kind, .string t.text, .int .i64 t.num, .int .i64 t.off] := by
              have := Blk.new (w1.alloc (.cells #[.int .i64 t.kind, .string t.text, .int .i64 t.num, .int .i64 t.off] 145)) 145 [.int .i64 t.kind, .string t.text, .int .i64 t.num, .int .i64 t.off]
              rw [World.size_alloc] at this
              exact this
            have y2 : Ext w1 ((w1.alloc (.cells #[.int .i64 t.kind, .string t.text, .int .i64 t.num, .int .i64 t.off] 145)).alloc (.cells #[.int .i64 t.kind, .string t.text, .int .i64 t.num, .int .i64 t.off] 145)) := (by repeat (with_reducible (first | assumption | exact Ext.refl _ | apply Ext.alloc | apply Ext.drew | apply Ext.drewN)))
            have X2 := HX.out.trans (x1.trans y2)
            have HO4 := hid (OwnG.ext HO3.out y2)
            have HB2 := hid B2
            have HX2 := hid X2
            clear B2 y2 X2 HO3 x1
            go_wp2_with (at_builtin; refine wpList_append_tok _ rfl _ _ rfl w.heap.size (.slice va ts.length vc) ts rfl HO4.out t (w1.heap.size + 1) rfl ⟨HB2.out.cell 0 rfl, HB2.out.cell 1 rfl, HB2.out.cell 2 rfl, HB2.out.cell 3 rfl⟩ (by omega) (by simp; omega) ?_; intro v' w2 hown hg)
            have X3 := hid (HX2.out.grown hg (fun q hq => (OwnG.lt HO4.out q hq).1))
            obtain ⟨va', vc', rfl, -⟩ := OwnG.form hown
            have HO5 := hid hown
            clear hown hg
            go_wp2
            go_roundw
            case rel => exact ⟨k2, ts ++ [t], by omega, rfl, HO5.out, (fun x hx => by
              rcases List.mem_append.1 hx with h | h
              · exact HA.out x h
              · simp only [List.mem_cons, List.not_mem_nil, or_false] at h
                subst h
                have R := HR.out
                exact ⟨R.kind.1, R.kind.2, R.text, R.num, by rw [R.off]; omega, by rw [R.off]; omega⟩), by simp; omega, (fun e => (HC2.out e).2), X3.out⟩
            case measure => simp [intOf]; omega
        · have HS := hid hsp
          have hor : (((s[k].toNat : Nat) : Int) == 32 || ((s[k].toNat : Nat) : Int) == 10) = true := by
            unfold sepB at hsp
            simpa using hsp
          clear hsp
          by_cases e : ((s[k].toNat : Nat) : Int) = 32
          · have e32 : (((s[k].toNat : Nat) : Int) == 32) = true := beq_iff_eq.2 e
            have HE := hid e
            clear e hor
            go_wp2
            go_roundw
            case rel => exact ⟨k + 1, ts, by omega, by go_num, HO2.out, HA.out, by omega, (fun e => by subst e; exact (cu_step (HC.out rfl) hlt).1 HS.out), HX.out⟩
            case measure => simp [intOf]; omega
          · have e32 : (((s[k].toNat : Nat) : Int) == 32) = false := beq_eq_false_iff_ne.2 e
            have e10 : (((s[k].toNat : Nat) : Int) == 10) = true := by rw [e32] at hor; simpa using hor
            have HE := hid e
            clear e hor
            go_wp2
            go_roundw
            case rel => exact ⟨k + 1, ts, by omega, by go_num, HO2.out, HA.out, by omega, (fun e => by subst e; exact (cu_step (HC.out rfl) hlt).1 HS.out), HX.out⟩
            case measure => simp [intOf]; omega
      · obtain rfl : k = s.size := by omega
        have B2 := Blk.new wr 145 [.int .i64 0, .string ⟨#[]⟩, .int .i64 0, .int .i64 (s.size : Nat)]
        have y2 : Ext wr (wr.alloc (.cells #[.int .i64 0, .string ⟨#[]⟩, .int .i64 0, .int .i64 (s.size : Nat)] 145)) := (by repeat (with_reducible (first | assumption | exact Ext.refl _ | apply Ext.alloc | apply Ext.drew | apply Ext.drewN)))
        have X2 := HX.out.trans y2
        have HO4 := hid (OwnG.ext HO2.out y2)
        have HB2 := hid B2
        have HX2 := hid X2
        clear B2 y2 X2
        go_wp2_with (at_builtin; refine wpList_append_tok _ rfl _ _ rfl w.heap.size (.slice va ts.length vc) ts rfl HO4.out ⟨0, ⟨#[]⟩, 0, (s.size : Nat)⟩ wr.heap.size rfl ⟨HB2.out.cell 0 rfl, HB2.out.cell 1 rfl, HB2.out.cell 2 rfl, HB2.out.cell 3 rfl⟩ (by omega) (by simp; omega) ?_; intro v' w2 hown hg)
        have X3 := hid (HX2.out.grown hg (fun q hq => (OwnG.lt HO4.out q hq).1))
        have HO5 := hid hown
        clear hown hg
        go_wp2
        go_ret2
        refine ⟨v', -1, rfl, X3.out, fun _ => rfl, .inr ⟨rfl, _, HO5.out, ⟨ts, _, rfl, HA.out, by omega, by omega, by omega⟩, fun e => ?_⟩⟩
        subst e
        rcases HC.out rfl with h | h | h | h | h | h | h
        · exact absurd h.1 (by decide)
        · exact absurd h.1 (by decide)
        · exact absurd h.1 (by decide)
        · exact absurd h.1 (by decide)
        · exact absurd h.1 (by decide)
        · exact absurd h.1 (by decide)
        · rw [h.2]; rfl
end Go.Proofs.YtaegmenjgjdimaaGreat
end

section
/- This text holds the memory of the reference's parser and proves its small steps: the look at the next token, the record of an error. -/
namespace Go.Proofs.YtaegmenjgjdimaaGreat
open Go.RowKit

/-- what is asked of a node under way -/
def NdG (x : Nd) : Prop := I64 x.op ∧ I64 x.num ∧ x.name.size ≤ 2000 ∧ x.args.length ≤ 3
/-- block B is the parser's state, at token k of tk, with the nodes ns and the assignments gs -/
structure Pst (lo : Nat) (X : Nat → Prop) (B : Nat) (tk : List Tok) (gs : List Asg) (w : World) (k : Nat) (ns : List Nd) (bad : Int) (tv nv gv : Value) : Prop where
  box : Blk w B 143 [tv, .int .i64 (k : Nat), nv, gv, .int .i64 bad]
  low : lo ≤ B
  toks : OwnToks lo w tv tk
  nds : OwnNds lo X w nv ns
  asgs : OwnAsgs lo w gv gs
  ends : Toks tk
  here : k < tk.length
  len : ns.length ≤ 60
  good : ∀ x ∈ ns, NdG x
  b64 : I64 bad
  xlt : ∀ b, X b → b < w.heap.size
theorem Pst.ext {lo B : Nat} {X : Nat → Prop} {tk : List Tok} {gs : List Asg} {w w' : World} {k : Nat} {ns : List Nd} {bad : Int} {tv nv gv : Value} (h : Pst lo X B tk gs w k ns bad tv nv gv) (x : Ext w w') : Pst lo X B tk gs w' k ns bad tv nv gv :=
  ⟨h.box.ext x, h.low, OwnG.ext h.toks x, h.nds.ext x, OwnG.ext h.asgs x, h.ends, h.here, h.len, h.good, h.b64, fun b hb => Nat.lt_of_lt_of_le (h.xlt b hb) x.size⟩
/-- the token at which the parser stands -/
theorem Toks.at {tk : List Tok} (h : Toks tk) {k : Nat} (hk : k < tk.length) : ∃ t, tk[k]? = some t ∧ I64 t.kind ∧ t.text.size ≤ 2000 ∧ I64 t.num ∧ 0 ≤ t.off ∧ t.off ≤ 2000 ∧ (t.kind ≠ 0 → k + 1 < tk.length) := by
  obtain ⟨ts, n, rfl, h1, h2, h3, h4⟩ := h
  refine ⟨_, List.getElem?_eq_getElem hk, ?_⟩
  rw [List.getElem_append]
  split
  · rename_i hlt
    obtain ⟨g1, g2, g3, g4, g5, g6⟩ := h1 _ (List.getElem_mem hlt)
    exact ⟨⟨by omega, by omega⟩, g3, g4, g5, g6, fun _ => by simp; omega⟩
  · simp
    exact ⟨⟨by decide, by decide⟩, by decide, ⟨by decide, by decide⟩, h2, h3⟩
def peekB (t : Tok) : ByteArray := if t.kind = 3 then t.text else ⟨#[]⟩
set_option maxRecDepth 20000 in
set_option maxHeartbeats 3200000 in
theorem sPeek_any {lo B : Nat} {X : Nat → Prop} {tk : List Tok} {gs : List Asg} {w : World} {k : Nat} {ns : List Nd} {bad : Int} {tv nv gv : Value} (h : Pst lo X B tk gs w k ns bad tv nv gv) {t : Tok} (ht : tk[k]? = some t) :
    Calls Tryz.prog 105 #[.pointer (some ⟨B, 0, none⟩)] w fun e w' => e = .returned (.string (peekB t)) ∧ Ext w w' := by
  obtain ⟨g, cap, rfl, g1, g2, g3, g4, _, hc⟩ := OwnG.at h.toks (fun _ => rfl) ht
  have hk := h.here
  have c0 := h.box.cell 0 rfl
  have c1 := h.box.cell 1 rfl
  have z := h.box.lt
  have d0 := hc 0 (by decide)
  have d1 := hc 1 (by decide)
  have d2 := hc 2 (by decide)
  have d3 := hc 3 (by decide)
  simp only [Tok.cs, Nat.add_zero, List.getElem?_cons_zero, List.getElem?_cons_succ] at d0 d1 d2 d3
  have HT := hid ht
  have gne : g ≠ w.heap.size := by omega
  have bne : B ≠ w.heap.size := by omega
  clear h hc ht
  go_enter Tryz.func105, Tryz.ntmps105
  go_wp2
  refine wp_region_stagesS [([0, 1, 2, 3, 4, 5, 6, 7, 8, 9], 10), ([], 11)] 99 (fun w' => ∃ d, w' = lowx (w.heap.size) (w.heap.size) _ d) (by kernel_rfl) (by kernel_rfl) ⟨_, lowx_of (fun _ _ _ => rfl)⟩ ?_
  refine wpStagesS_cons ?_
  simp only [List.filterMap_cons, List.filterMap_nil, List.getElem?_toArray, List.getElem?_cons_zero, List.getElem?_cons_succ]
  show wpQuiet _ _ _ _ [_, _, _, _, _, _, _, _, _, _] _
  repeat (go_big_quiet_step (fail))
  refine wpQuiet_nil ⟨_, rfl, fun K hK => ?_⟩
  go_wp2_with fail
  go_wp2_with fail
  refine hK _ _ (.inr ⟨_, lowx_of (fun b hb _ => Ext.block (show Ext w _ from (by repeat (with_reducible (first | assumption | exact Ext.refl _ | apply Ext.alloc | apply Ext.drew | apply Ext.drewN)))) hb)⟩) ?_
  clear hK K
  refine wpStagesS_cons ?_
  simp only [List.filterMap_nil]
  show wpQuiet _ _ _ _ [] _
  try simp only [Act.put, List.setIfInBounds_toArray, List.set_cons_succ, List.set_cons_zero]
  repeat (go_big_quiet_step (fail))
  refine wpQuiet_nil ⟨_, rfl, fun K hK => ?_⟩
  go_wp2_with fail
  go_wp2_with fail
  refine hK _ _ (.inr ⟨_, lowx_of (fun b hb _ => Ext.block (show Ext w _ from (by repeat (first | with_reducible assumption | with_reducible exact Ext.refl _ | with_reducible apply Ext.alloc | with_reducible apply Ext.drew | with_reducible apply Ext.drewN | (with_reducible refine Ext.setCell ?_ (by simp; omega) _) | (with_reducible refine Ext.setCell ?_ (by simp) _)))) hb)⟩) ?_
  clear hK K
  refine wpStagesS_nil ?_
  by_cases h3 : t.kind = 3
  · have hp : peekB t = t.text := by unfold peekB; rw [if_pos h3]
    have HP := hid hp
    have e3 : (t.kind == 3) = true := beq_iff_eq.2 h3
    clear hp h3
    go_wp2
    go_ret
    exact ⟨by rw [HP.out]; rfl, (by repeat (with_reducible (first | assumption | exact Ext.refl _ | apply Ext.alloc | apply Ext.drew | apply Ext.drewN)))⟩
  · have hp : peekB t = ⟨#[]⟩ := by unfold peekB; rw [if_neg h3]
    have HP := hid hp
    have e3 : (t.kind == 3) = false := beq_eq_false_iff_ne.2 h3
    clear hp h3
    go_wp2
    go_ret
    exact ⟨by rw [HP.out]; rfl, (by repeat (with_reducible (first | assumption | exact Ext.refl _ | apply Ext.alloc | apply Ext.drew | apply Ext.drewN)))⟩
/-- the error's place is recorded -/
theorem Pst.setBad {lo B : Nat} {X : Nat → Prop} {tk : List Tok} {gs : List Asg} {w : World} {k : Nat} {ns : List Nd} {bad : Int} {tv nv gv : Value} (h : Pst lo X B tk gs w k ns bad tv nv gv) {z : Int} (hz : I64 z) : Pst lo X B tk gs (w.setCell ⟨B, 4, none⟩ (.int .i64 z)) k ns z tv nv gv :=
  ⟨h.box.set 4 _, h.low, OwnG.set h.toks h.box (by decide) 4 _, OwnNds.set h.nds h.box (by decide) (by decide) 4 _, OwnG.set h.asgs h.box (by decide) 4 _, h.ends, h.here, h.len, h.good, hz, fun b hb => by rw [World.size_setCell]; exact h.xlt b hb⟩
/-- the parser goes to token q -/
theorem Pst.setAt {lo B : Nat} {X : Nat → Prop} {tk : List Tok} {gs : List Asg} {w : World} {k : Nat} {ns : List Nd} {bad : Int} {tv nv gv : Value} (h : Pst lo X B tk gs w k ns bad tv nv gv) {q : Nat} (hq : q < tk.length) : Pst lo X B tk gs (w.setCell ⟨B, 1, none⟩ (.int .i64 (q : Nat))) q ns bad tv nv gv :=
  ⟨h.box.set 1 _, h.low, OwnG.set h.toks h.box (by decide) 1 _, OwnNds.set h.nds h.box (by decide) (by decide) 1 _, OwnG.set h.asgs h.box (by decide) 1 _, h.ends, hq, h.len, h.good, h.b64, fun b hb => by rw [World.size_setCell]; exact h.xlt b hb⟩
end Go.Proofs.YtaegmenjgjdimaaGreat
end

section
/- This text proves the parser's record of an error, and its step over a symbol. -/
namespace Go.Proofs.YtaegmenjgjdimaaGreat
open Go.RowKit

/-- what the record of an error reads: the tokens, and two cells of the state -/
def CFl (B g : Nat) : Addr → Prop := fun a => a.block = g ∨ a = ⟨B, 0, none⟩ ∨ a = ⟨B, 1, none⟩
@[go_sem] theorem CFl_g (B g o : Nat) : CFl B g ⟨g, o, none⟩ := .inl rfl
@[go_sem] theorem CFl_0 (B g : Nat) : CFl B g ⟨B, 0, none⟩ := .inr (.inl rfl)
@[go_sem] theorem CFl_1 (B g : Nat) : CFl B g ⟨B, 1, none⟩ := .inr (.inr rfl)
set_option maxRecDepth 20000 in
set_option maxHeartbeats 3200000 in
theorem sFail_any {lo B : Nat} {X : Nat → Prop} {tk : List Tok} {gs : List Asg} {w : World} {k : Nat} {ns : List Nd} {bad : Int} {tv nv gv : Value} (h : Pst lo X B tk gs w k ns bad tv nv gv) :
    Calls Tryz.prog 71 #[.pointer (some ⟨B, 0, none⟩)] w fun e w' => ∃ z, e = .returned (.int .i64 0) ∧ 0 ≤ z ∧ Pst lo X B tk gs w' k ns z tv nv gv ∧ KN lo B 79 w w' := by
  have HP := hid h
  obtain ⟨t, ht, _, _, _, o1, o2, _⟩ := h.ends.at h.here
  obtain ⟨g, cap, rfl, g1, g2, g3, g4, ⟨cg, hcg⟩, hc⟩ := OwnG.at h.toks (fun _ => rfl) ht
  have gB : g ≠ B := fun e => by
    subst e
    have hb := h.box
    unfold Blk at hb
    rw [hcg] at hb
    simp only [Option.some.injEq, Obj.cells.injEq] at hb
    exact absurd hb.2.1 (by decide)
  have hk := h.here
  have c0 := h.box.cell 0 rfl
  have c1 := h.box.cell 1 rfl
  have c4 := h.box.cell 4 rfl
  have f4 := h.box.free 4
  have z := h.box.lt
  have d3 := hc 3 (by decide)
  simp only [Tok.cs, List.getElem?_cons_zero, List.getElem?_cons_succ] at d3
  have gne : g ≠ w.heap.size := by omega
  have bne : B ≠ w.heap.size := by omega
  have i64 : I64 bad := h.b64
  clear h hc ht
  by_cases hb : bad < 0
  · go_enter Tryz.func71, Tryz.ntmps71
    go_wp2
    refine wp_region_stagesS [([0, 1, 2, 3, 4, 5, 6, 7, 8, 9, 10, 11, 12, 13], 14)] 99 (fun w' => ∃ d, w' = lowc (CFl B g) _ d) (by kernel_rfl) (by kernel_rfl) (SC.drew _ _) ?_
    refine wpStagesS_cons ?_
    simp only [List.filterMap_cons, List.filterMap_nil, List.getElem?_toArray, List.getElem?_cons_zero, List.getElem?_cons_succ]
    show wpQuiet _ _ _ _ [_, _, _, _, _, _, _, _, _, _, _, _, _, _] _
    repeat (go_big_quiet_step (fail))
    refine wpQuiet_nil ⟨_, rfl, fun K hK => ?_⟩
    go_wp2_with fail
    have hsc : SC (CFl B g) w (w.setCell ⟨B, 4, none⟩ (.int .i64 t.off)).drew := SC.of fun a ha => by
      have b4 := HP.out.box.set 4 (.int .i64 t.off)
      rcases ha with ha | rfl | rfl
      · have hh : (w.setCell ⟨B, 4, none⟩ (.int .i64 t.off)).drew.heap[a.block]? = w.heap[a.block]? := Below.heap_setCell _ _ _ _ (by rw [ha]; exact gB)
        exact ⟨World.cell?_of_block hh, World.frozen?_of_block hh⟩
      · exact ⟨(b4.cell 0 rfl).trans (HP.out.box.cell 0 rfl).symm, (b4.free 0).trans (HP.out.box.free 0).symm⟩
      · exact ⟨(b4.cell 1 rfl).trans (HP.out.box.cell 1 rfl).symm, (b4.free 1).trans (HP.out.box.free 1).symm⟩
    refine hK _ _ (.inr hsc) ?_
    clear hK K
    refine wpStagesS_nil ?_
    go_wp2
    go_ret
    have i2 : I64 t.off := ⟨by omega, by omega⟩
    exact ⟨t.off, rfl, o1, (HP.out.setBad i2).ext (by repeat (with_reducible (first | assumption | exact Ext.refl _ | apply Ext.alloc | apply Ext.drew | apply Ext.drewN))), ((KN.refl lo B _ w).set HP.out.low 4 _).ext (by repeat (with_reducible (first | assumption | exact Ext.refl _ | apply Ext.alloc | apply Ext.drew | apply Ext.drewN)))⟩
  · go_enter Tryz.func71, Tryz.ntmps71
    go_wp2
    go_ret
    exact ⟨rfl, bad, by omega, HP.out, KN.refl _ _ _ _⟩
set_option maxRecDepth 20000 in
set_option maxHeartbeats 3200000 in
theorem sExpect_any {lo B : Nat} {X : Nat → Prop} {tk : List Tok} {gs : List Asg} {w : World} {k : Nat} {ns : List Nd} {bad : Int} {tv nv gv : Value} (h : Pst lo X B tk gs w k ns bad tv nv gv) {t : Tok} (ht : tk[k]? = some t) (x : ByteArray) (hx : x ≠ ⟨#[]⟩) :
    Calls Tryz.prog 72 #[.pointer (some ⟨B, 0, none⟩), .string x] w fun e w' => ∃ (b : Bool) (q : Nat) (z : Int), e = .returned (.bool b) ∧ Pst lo X B tk gs w' q ns z tv nv gv ∧ KN lo B 79 w w' ∧ (b = true → q = k + 1 ∧ z = bad) ∧ (b = false → 0 ≤ z) ∧ (peekB t = x → b = true) := by
  have HP := hid h
  have HT := hid ht
  clear h ht
  go_enter Tryz.func72, Tryz.ntmps72
  go_wp2_with fail
  refine (sPeek_any HP.out HT.out).mono ?_
  rintro e w1 ⟨rfl, x1⟩
  have HP1 := hid (HP.out.ext x1)
  have K1 := x1.kn lo B 79
  by_cases he : (peekB t).toList = x.toList
  · have ee : ((peekB t).toList == x.toList) = true := beq_iff_eq.2 he
    have hpx : peekB t = x := by
      rw [Lib.toList_data, Lib.toList_data] at he
      exact ByteArray.ext (Array.ext' he)
    have hne : t.kind ≠ 0 := fun e => by
      have : peekB t = ⟨#[]⟩ := by unfold peekB; rw [if_neg (by omega)]
      exact hx (hpx.symm.trans this)
    obtain ⟨t', ht', _, _, _, _, _, hl⟩ := HP.out.ends.at HP.out.here
    have hte : t' = t := by rw [HT.out] at ht'; simpa using ht'.symm
    have hk1 := hl (hte ▸ hne)
    have HK1 := hid hk1
    have c1 := HP1.out.box.cell 1 rfl
    have f1 := HP1.out.box.free 1
    have z1 := HP1.out.box.lt
    have kb : k ≤ 3000 := by
      obtain ⟨ts, n, e1, _, _, _, e2⟩ := HP.out.ends
      have := HP.out.here
      rw [e1, List.length_append] at this
      simp at this
      omega
    clear he hpx hne ht' hl hte hk1
    go_wp2
    go_ret
    have P2 := HP1.out.setAt HK1.out
    exact ⟨true, k + 1, bad, rfl, by simpa using P2, K1.set HP.out.low 1 _, fun _ => ⟨rfl, rfl⟩, (fun h => nomatch h), fun _ => rfl⟩
  · have ee : ((peekB t).toList == x.toList) = false := beq_eq_false_iff_ne.2 he
    have hpx : peekB t ≠ x := fun e => he (by rw [e])
    have HX := hid hpx
    clear he hpx
    go_wp2_with fail
    refine (sFail_any HP1.out).mono ?_
    rintro e w2 ⟨z, rfl, hz, P2, K2⟩
    have KK := hid (K1.trans K2)
    have HP2 := hid P2
    clear P2 K2 K1
    go_wp2
    go_ret
    exact ⟨false, k, z, rfl, HP2.out, KK.out, (fun h => nomatch h), (fun _ => hz), fun h => absurd h HX.out⟩
end Go.Proofs.YtaegmenjgjdimaaGreat
end

section
/- This text proves a law on regions that draw their order in two phases: a first part that one later operation waits for as a whole, and the rest; it speaks of no program. -/
namespace Go.Proofs.YtaegmenjgjdimaaGreat

section
variable {P : Program} {ops : Array Oper} {Q : Exit → Act → World → Prop} {md : Region.Mode} {S : World → Prop} {y : Nat} {R : Array Bool → Act → World → Prop}

/-- operation y waits for operation i -/
def waitsOne (md : Region.Mode) (ops : Array Oper) (y i : Nat) : Bool :=
  match ops[y]? with
  | none => false
  | some o => o.after.any fun e => Region.binds md e && e.on == i

theorem waitsOne_spec {i : Nat} (h : waitsOne md ops y i = true) {listed : Array Bool} (hun : listed.getD i false = false) : y ∉ Region.ready md ops listed := by
  intro hz
  obtain ⟨_, oz, hoz, hall⟩ := mem_ready.1 hz
  unfold waitsOne at h
  simp only [hoz] at h
  obtain ⟨e, he, hb⟩ := Array.any_eq_true'.1 h
  simp only [Bool.and_eq_true, beq_iff_eq] at hb
  have h2 := hall e he hb.1
  rw [hb.2, hun] at h2
  cases h2

/-- whatever order is picked for so many operations; then R -/
def wpAnyE (P : Program) (md : Region.Mode) (ops : Array Oper) (Q : Exit → Act → World → Prop) (S : World → Prop) (R : Array Bool → Act → World → Prop) : Nat → Array Bool → Act → World → Prop
  | 0, listed, a, w => R listed a w
  | fuel + 1, listed, a, w =>
    (Region.ready md ops listed = [] → Q .normal a w) ∧
    ∀ i ∈ Region.ready md ops listed, wpOp P ops Q i (fun a' w' => S w' ∧ wpAnyE P md ops Q S R fuel (listed.setIfInBounds i true) a' w') a w

theorem wpAny_of_E {g : Nat} (hR : ∀ l a w, R l a w → wpAny P md ops Q g l a w) : ∀ (fuel : Nat) (listed : Array Bool) (a : Act) (w : World), wpAnyE P md ops Q S R fuel listed a w → wpAny P md ops Q (fuel + g) listed a w
  | 0, l, a, w, h => by rw [Nat.zero_add]; exact hR l a w h
  | fuel + 1, l, a, w, h => by
    rw [Nat.succ_add]
    exact ⟨h.1, fun i hi => wpOp_mono (fun a' w' h' => wpAny_of_E hR fuel _ a' w' h'.2) (h.2 i hi)⟩

theorem wpAnyE_first {i : Nat} {oi : Oper} {v : Value} (hi : ops[i]? = some oi) (hy1 : waitsOne md ops y i = true) (hR : ∀ l a w, R l a w → Region.ready md ops l = [y]) (hsel : ∀ (j : Nat) (o : Oper) cs b, ops[j]? = some o → o.op ≠ .select cs b)
    (hQ : ∀ c a w, Q (.panic c) (a.put oi.dst v) w → Q (.panic c) a w) :
    ∀ (fuel : Nat) (listed : Array Bool) (a : Act) (w : World),
      (∀ j oj, ops[j]? = some oj → j ≠ i → listed.getD j true = false → (∀ e ∈ oj.after, Region.binds md e = true → e.on ≠ i) → oi.apart ops oj = true) →
      i ∈ Region.ready md ops listed → YieldsIf P ops S oi v a → S w →
      wpAnyE P md ops Q S R fuel (listed.setIfInBounds i true) (a.put oi.dst v) w → wpAnyE P md ops Q S R (fuel + 1) listed a w := by
  intro fuel
  induction fuel with
  | zero =>
    intro listed a w _ hr hy hS H
    refine ⟨fun h => (by rw [h] at hr; cases hr), fun j hj => ?_⟩
    by_cases hji : j = i
    · subst hji; exact hy.wpOp hi hS ⟨hS, H⟩
    · have hun : listed.getD i false = false := getD_both (mem_ready.1 hr).1
      have := ready_mono hj hji
      rw [hR _ _ _ H] at this
      simp only [List.mem_cons, List.not_mem_nil, or_false] at this
      exact absurd (this ▸ hj) (waitsOne_spec hy1 hun)
  | succ fuel ih =>
    intro listed a w hfree hr hy hS H
    refine ⟨fun h => (by rw [h] at hr; cases hr), fun j hj => ?_⟩
    by_cases hji : j = i
    · subst hji; exact hy.wpOp hi hS ⟨hS, H⟩
    · have hun : listed.getD i false = false := getD_both (mem_ready.1 hr).1
      have h1 := H.2 j (ready_mono hj hji)
      obtain ⟨hjun, oj, hoj, hall⟩ := mem_ready.1 hj
      have hnot : ∀ e ∈ oj.after, Region.binds md e = true → e.on ≠ i := fun e he hb heq => by
        have h1 := hall e he hb
        rw [heq, hun] at h1
        cases h1
      have h2 := wpOp_putIf hoj (hfree j oj hoj hji hjun hnot) (fun cs b => hsel i oi cs b hi) (fun cs b => hsel j oj cs b hoj) hQ hy h1
      have hfree' : ∀ k ok, ops[k]? = some ok → k ≠ i → (listed.setIfInBounds j true).getD k true = false →
          (∀ e ∈ ok.after, Region.binds md e = true → e.on ≠ i) → oi.apart ops ok = true := fun k ok hk hki hun hno => by
        refine hfree k ok hk hki ?_ hno
        by_cases hjk : j = k
        · subst hjk; exact hjun
        · rw [getD_set_ne true hjk] at hun; exact hun
      refine wpOp_mono (fun a' w' h3 => ?_) h2
      have hS' : S w' := h3.2.1
      refine ⟨hS', ih (listed.setIfInBounds j true) a' w' hfree' (ready_mono hr (Ne.symm hji)) h3.1 hS' ?_⟩
      rw [Array.setIfInBounds_comm _ _ hji]
      exact h3.2.2

def planFromE (md : Region.Mode) (ops : Array Oper) (z y : Nat) : List (Bool × Nat) → Array Bool → Bool
  | [], listed => Region.ready md ops listed == [y]
  | (true, i) :: r, listed => i != z && waitsOne md ops y i && Region.free md ops listed i && (Region.ready md ops listed).contains i && planFromE md ops z y r (listed.setIfInBounds i true)
  | (false, i) :: r, listed => i != z && (Region.ready md ops listed == [i]) && planFromE md ops z y r (listed.setIfInBounds i true)
def listPlan : List (Bool × Nat) → Array Bool → Array Bool
  | [], l => l
  | (_, i) :: r, l => listPlan r (l.setIfInBounds i true)
theorem planFromE_end {z : Nat} : ∀ (plan : List (Bool × Nat)) (l : Array Bool), planFromE md ops z y plan l = true → Region.ready md ops (listPlan plan l) = [y]
  | [], l, h => by simpa [planFromE, listPlan] using h
  | (true, i) :: r, l, h => by
    simp only [planFromE, Bool.and_eq_true] at h
    exact planFromE_end r _ h.2
  | (false, i) :: r, l, h => by
    simp only [planFromE, Bool.and_eq_true] at h
    exact planFromE_end r _ h.2

theorem wpAnyE_of_plan {z : Nat} {C : Act → World → Prop} (hsel : Region.noSelect ops = true) (hQ : ∀ c a a' w, Q (.panic c) a w → Q (.panic c) a' w) :
    ∀ (plan : List (Bool × Nat)) (listed : Array Bool) (a : Act) (w : World), planFromE md ops z y plan listed = true → S w → wpPlan P ops (Exit.then C Q) S z plan a w → wpAnyE P md ops Q S (fun l a w => l = listPlan plan listed ∧ C a w) plan.length listed a w
  | [], listed, a, w, hB, _, h => ⟨rfl, h⟩
  | (true, i) :: r, listed, a, w, hB, hS, h => by
    have hend := planFromE_end _ _ hB
    simp only [planFromE, Bool.and_eq_true, bne_iff_ne] at hB
    obtain ⟨⟨⟨⟨hiz, hw1⟩, hf⟩, hr⟩, hB'⟩ := hB
    obtain ⟨o, ho, ht⟩ := h
    have hR : ∀ l a w, (l = listPlan ((true, i) :: r) listed ∧ C a w) → Region.ready md ops l = [y] := fun l a w k => by rw [k.1]; exact hend
    unfold takeOp at ht
    split at ht
    · rename_i hw
      obtain ⟨v, hv, hK⟩ := ht
      exact wpAnyE_first ho hw1 hR (Region.noSelect_spec hsel) (fun c a w => hQ c _ _ w) r.length listed a w (Region.free_spec ho hf) (by simpa using hr) (.inl ⟨hw, hv⟩) hS
        (wpAnyE_of_plan hsel hQ r _ _ _ hB' hS hK)
    · rename_i hw
      exact wpAnyE_first ho hw1 hR (Region.noSelect_spec hsel) (fun c a w => hQ c _ _ w) r.length listed a w (Region.free_spec ho hf) (by simpa using hr) (.inr ⟨by simpa using hw, rfl⟩) hS
        (wpAnyE_of_plan hsel hQ r _ _ _ hB' hS ht)
  | (false, i) :: r, listed, a, w, hB, hS, h => by
    simp only [planFromE, Bool.and_eq_true, beq_iff_eq, bne_iff_ne] at hB
    obtain ⟨⟨hiz, hr⟩, hB'⟩ := hB
    obtain ⟨o, ho, ht⟩ := h
    refine ⟨fun h0 => (by rw [hr] at h0; cases h0), fun j hj => ?_⟩
    rw [hr] at hj
    obtain rfl : j = i := by simpa using hj
    have hstep : ∀ a' w', ((j = z ∨ S w') ∧ wpPlan P ops (Exit.then C Q) S z r a' w') → (S w' ∧ wpAnyE P md ops Q S (fun l a w => l = listPlan r (listed.setIfInBounds j true) ∧ C a w) r.length (listed.setIfInBounds j true) a' w') := fun a' w' ⟨k1, k2⟩ =>
      ⟨k1.resolve_left hiz, wpAnyE_of_plan hsel hQ r _ _ _ hB' (k1.resolve_left hiz) k2⟩
    unfold wpOp
    simp only [ho]
    unfold wpList at ht
    split
    · rename_i hw
      rw [if_pos hw] at ht
      rcases ht with ht | ⟨h1, h2⟩
      · refine .inl ?_
        unfold Oper.wp at ht
        have h3 : o.upon P a (wpList P ops (Exit.then (fun a' w' => (j = z ∨ S w') ∧ wpPlan P ops (Exit.then C Q) S z r a' w') (Exit.then C Q)) []) Q ((execOp a.eval o).run P w) := by
          cases hres : (execOp a.eval o).run P w with
          | ok n w' => rw [hres] at ht; cases n <;> exact ht
          | halt x w' => rw [hres] at ht; cases x <;> exact ht
        have h4 : o.wp P a w (wpList P ops (Exit.then (fun a' w' => (j = z ∨ S w') ∧ wpPlan P ops (Exit.then C Q) S z r a' w') (Exit.then C Q)) []) Q := h3
        exact Oper.wp_mono (fun a' w' hk => hstep a' w' hk) h4
      · exact .inr ⟨h1, h2⟩
    · rename_i hw
      rw [if_neg hw] at ht
      exact hstep _ _ ht
end

/-- the check of the two phases -/
def phasesOk (ops : Array Oper) (y : Nat) (st1 st2 : List (List Nat × Nat)) : Bool :=
  Region.noSelect ops && waitsAll .any ops 99 && planFromE .any ops 99 y (stagesPlan st1) (Array.replicate ops.size false) && planFrom .any ops 99 (stagesPlan st2) (listPlan (stagesPlan st1) (Array.replicate ops.size false)) && readsOkC ops st1 && readsOkC ops st2 && ((stagesPlan st1).length + (stagesPlan st2).length == ops.size)

/-- the law that the walks use: st1 with S1, up to where only operation y can come; then st2 -/
theorem wp_region_phases {P : Program} {Q : Exit → Act → World → Prop} {id : Nat} {a : Act} {w : World} {l : List Oper} (st1 st2 : List (List Nat × Nat)) (y : Nat) (S1 : World → Prop) (hm : P.follows .mixedOrders = true)
    (hB : phasesOk l.toArray y st1 st2 = true) (hS : S1 w.drew)
    (h : wpStagesS P l.toArray (Exit.then (fun a w => ∃ S2 : World → Prop, S2 w ∧ wpStagesS P l.toArray (NoPanic Q) S2 99 st2 a w) (NoPanic Q)) S1 99 st1 a w.drew) : (Code.region id l.toArray true).wp P Q a w := by
  unfold phasesOk at hB
  simp only [Bool.and_eq_true, beq_iff_eq] at hB
  obtain ⟨⟨⟨⟨⟨⟨h1, h2⟩, h3⟩, h4⟩, h5⟩, h6⟩, h7⟩ := hB
  refine wp_region_noPanic (wp_region_any hm ?_)
  have hp := plan_of_stagesS st1 a w.drew h5 h
  have hE := wpAnyE_of_plan h1 (fun c a a' w k => k) _ _ a w.drew h3 hS hp
  have hA := wpAny_of_E (g := (stagesPlan st2).length) (fun l' a w hk => by
    obtain ⟨rfl, S2, hs2, hst⟩ := hk
    exact wpAny_of_Z _ _ _ _ (wpAnyZ_of_plan h1 h2 (fun c a a' w k => k) _ _ a w h4 (fun _ _ => hs2) (plan_of_stagesS st2 a w h6 hst))) _ _ _ _ hE
  rw [h7] at hA
  simpa using hA
/-- the first phase is done -/
theorem wpPhase_end {P : Program} {ops : Array Oper} {Q : Exit → Act → World → Prop} {S : World → Prop} {C : Act → World → Prop} {a : Act} {w : World} (h : C a w) : wpStagesS P ops (Exit.then C Q) S 99 [] a w := h
/-- all operations of the second phase are forced -/
theorem wpPhase_free {P : Program} {ops : Array Oper} {Q : Exit → Act → World → Prop} {st : List (List Nat × Nat)} {a : Act} {w : World} (h : wpStagesS P ops Q (fun _ => True) 99 st a w) : ∃ S2 : World → Prop, S2 w ∧ wpStagesS P ops Q S2 99 st a w := ⟨_, trivial, h⟩
end Go.Proofs.YtaegmenjgjdimaaGreat
end

section
/- This text proves how the reference's parser lays a node. -/
namespace Go.Proofs.YtaegmenjgjdimaaGreat
open Go.RowKit

theorem Pst.setNds {lo B : Nat} {X : Nat → Prop} {tk : List Tok} {gs : List Asg} {w w' : World} {k : Nat} {ns ns' : List Nd} {bad : Int} {tv nv nv' gv : Value} (h : Pst lo X B tk gs w k ns bad tv nv gv) (hb : Blk w' B 143 [tv, .int .i64 (k : Nat), nv, gv, .int .i64 bad]) (kk : KN lo B 79 w w') (hn : OwnNds lo X w' nv' ns') (hl : ns'.length ≤ 60) (hg : ∀ x ∈ ns', NdG x) : Pst lo X B tk gs (w'.setCell ⟨B, 2, none⟩ nv') k ns' bad tv nv' gv := by
  have hB : ∀ (e : TypeId), e ≠ 143 → ∀ c, w.heap[B]? ≠ some (.cells c e (0, 0)) := fun e he c hc => by
    have := h.box
    unfold Blk at this
    rw [this] at hc
    simp only [Option.some.injEq, Obj.cells.injEq] at hc
    exact he hc.2.1.symm
  exact ⟨hb.set 2 _, h.low, OwnG.set (KN.row h.toks kk (hB _ (by decide)) (by decide)) hb (by decide) 2 _, OwnNds.set hn hb (by decide) (by decide) 2 _, OwnG.set (KN.row h.asgs kk (hB _ (by decide)) (by decide)) hb (by decide) 2 _, h.ends, h.here, hl, hg, h.b64, fun b hb => by rw [World.size_setCell]; exact Nat.lt_of_lt_of_le (h.xlt b hb) kk.size⟩
/-- the cells of two blocks -/
def C2b (b c : Nat) : Addr → Prop := fun a => a.block = b ∨ a.block = c
@[go_sem] theorem C2b_1 (b c o : Nat) : C2b b c ⟨b, o, none⟩ := .inl rfl
@[go_sem] theorem C2b_2 (b c o : Nat) : C2b b c ⟨c, o, none⟩ := .inr rfl
set_option maxRecDepth 20000 in
set_option maxHeartbeats 6400000 in
theorem sEmit_any {lo B : Nat} {X : Nat → Prop} {tk : List Tok} {gs : List Asg} {w : World} {k : Nat} {ns : List Nd} {bad : Int} {tv nv gv : Value} (h : Pst lo X B tk gs w k ns bad tv nv gv) (hk1 : 1 ≤ k) (x : Nd) (u : Value) (hu : OwnInts lo w u x.args) (hux : ∀ k, u.ownBlock = some k → ¬ X k) (hx : NdG x) :
    Calls Tryz.prog 136 #[.pointer (some ⟨B, 0, none⟩), .agg #[.int .i64 x.op, .string x.name, .int .i64 x.num, u]] w fun e w' => ∃ (r : Nat) (q : Nat) (ns' : List Nd) (z : Int) (nv' : Value), e = .returned (.int .i64 (r : Nat)) ∧ r ≤ 60 ∧ Pst lo X B tk gs w' q ns' z tv nv' gv ∧ KN lo B 79 w w' ∧ (0 ≤ z ∨ (q = k ∧ ns' = ns ++ [x] ∧ z = bad ∧ r = ns.length)) ∧ (ns.length < 60 → q = k ∧ ns' = ns ++ [x] ∧ z = bad ∧ r = ns.length) := by
  have x0 : Ext w (w.alloc (.cells #[.int .i64 x.op, .string x.name, .int .i64 x.num, u] 79)) := (by repeat (with_reducible (first | assumption | exact Ext.refl _ | apply Ext.alloc | apply Ext.drew | apply Ext.drewN)))
  have HP0 := hid h
  have HP := hid (h.ext x0)
  have HU := hid (hu.ext x0)
  have HX0 := hid x0
  obtain ⟨na, nc, rfl, _⟩ := h.nds.form
  have hlen := h.len
  have zB := h.box.lt
  have hlo := h.low
  have c1 := HP.out.box.cell 1 rfl
  have c2 := HP.out.box.cell 2 rfl
  have f1 := HP.out.box.free 1
  have f2 := HP.out.box.free 2
  have kb : k ≤ 3000 := by
    obtain ⟨ts, n, e1, _, _, _, e2⟩ := h.ends
    have := h.here
    rw [e1, List.length_append] at this
    simp at this
    omega
  have hB := Blk.new w 79 [.int .i64 x.op, .string x.name, .int .i64 x.num, u]
  have HB := hid hB
  have bne : B ≠ w.heap.size := by omega
  clear h hu x0 hB
  by_cases h60 : ns.length = 60
  · have e60 : ((ns.length : Nat) : Int) = 60 := by omega
    go_enter Tryz.func136, Tryz.ntmps136
    go_wp2_with fail
    have P2 := HP0.out.setAt (q := k - 1) (by have := HP0.out.here; omega)
    have ek : (((k - 1 : Nat) : Int)) = (k : Int) - 1 := by omega
    rw [ek] at P2
    refine (sFail_any (P2.ext (show Ext _ ((w.setCell ⟨B, 1, none⟩ (.int .i64 ((k : Int) - 1))).alloc (.cells #[.int .i64 x.op, .string x.name, .int .i64 x.num, u] 79)) from (by repeat (with_reducible (first | assumption | exact Ext.refl _ | apply Ext.alloc | apply Ext.drew | apply Ext.drewN)))))).mono ?_
    rintro e w2 ⟨z, rfl, hz, P3, K3⟩
    have KK := hid ((((KN.refl lo B 79 w).set hlo 1 (.int .i64 ((k : Int) - 1))).ext (show Ext _ ((w.setCell ⟨B, 1, none⟩ (.int .i64 ((k : Int) - 1))).alloc (.cells #[.int .i64 x.op, .string x.name, .int .i64 x.num, u] 79)) from (by repeat (with_reducible (first | assumption | exact Ext.refl _ | apply Ext.alloc | apply Ext.drew | apply Ext.drewN))))).trans K3)
    have HP3 := hid P3
    clear P2 P3 K3
    go_wp2
    go_ret
    exact ⟨0, k - 1, ns, z, _, rfl, by omega, HP3.out, KK.out, .inl hz, by omega⟩
  · have e60 : ¬ ((ns.length : Nat) : Int) = 60 := by omega
    go_enter Tryz.func136, Tryz.ntmps136
    go_wp2_with fail
    refine wp_region_phases [([0, 1, 2, 3, 4, 5, 6], 7), ([], 8)] [([], 9), ([], 10), ([], 11), ([], 12)] 9 (fun w' => ∃ d, w' = lowc (C2b B w.heap.size) _ d) (by kernel_rfl) (by kernel_rfl) (SC.drew _ _) ?_
    refine wpStagesS_cons ?_
    simp only [List.filterMap_cons, List.filterMap_nil, List.getElem?_toArray, List.getElem?_cons_zero, List.getElem?_cons_succ]
    show wpQuiet _ _ _ _ [_, _, _, _, _, _, _] _
    repeat (go_big_quiet_step (fail))
    refine wpQuiet_nil ⟨_, rfl, fun K hK => ?_⟩
    go_wp2_with fail
    have y1 : Ext w (((w.alloc (.cells #[.int .i64 x.op, .string x.name, .int .i64 x.num, u] 79)).alloc (.cells #[.int .i64 x.op, .string x.name, .int .i64 x.num, u] 79)).drew) := (by repeat (first | with_reducible assumption | with_reducible exact Ext.refl _ | with_reducible apply Ext.alloc | with_reducible apply Ext.drew | with_reducible apply Ext.drewN | (with_reducible refine Ext.setCell ?_ (by simp; omega) _) | (with_reducible refine Ext.setCell ?_ (by simp) _)))
    have y2 : Ext (w.alloc (.cells #[.int .i64 x.op, .string x.name, .int .i64 x.num, u] 79)) (((w.alloc (.cells #[.int .i64 x.op, .string x.name, .int .i64 x.num, u] 79)).alloc (.cells #[.int .i64 x.op, .string x.name, .int .i64 x.num, u] 79)).drew) := (by repeat (first | with_reducible assumption | with_reducible exact Ext.refl _ | with_reducible apply Ext.alloc | with_reducible apply Ext.drew | with_reducible apply Ext.drewN | (with_reducible refine Ext.setCell ?_ (by simp; omega) _) | (with_reducible refine Ext.setCell ?_ (by simp) _)))
    have B2 : Blk (((w.alloc (.cells #[.int .i64 x.op, .string x.name, .int .i64 x.num, u] 79)).alloc (.cells #[.int .i64 x.op, .string x.name, .int .i64 x.num, u] 79)).drew) (w.heap.size + 1) 79 [.int .i64 x.op, .string x.name, .int .i64 x.num, u] := by
      have := Blk.new (w.alloc (.cells #[.int .i64 x.op, .string x.name, .int .i64 x.num, u] 79)) 79 [.int .i64 x.op, .string x.name, .int .i64 x.num, u]
      rw [World.size_alloc] at this
      exact this
    refine hK _ _ (.inr (SC.blocks fun a ha => ?_)) ?_
    · rcases ha with ha | ha
      · exact y2.block (by rw [ha, World.size_alloc]; omega)
      · exact y2.block (by rw [ha, World.size_alloc]; omega)
    clear hK K
    have HY1 := hid y1
    have HY2 := hid y2
    have HB2 := hid B2
    have HN := hid (HP0.out.nds.ext y1)
    have HU2 := hid (HU.out.ext y2)
    clear y1 y2 B2
    have z1 := HY1.out.size
    refine wpStagesS_cons ?_
    simp only [List.filterMap_nil]
    show wpQuiet _ _ _ _ [] _
    try simp only [Act.put, List.setIfInBounds_toArray, List.set_cons_succ, List.set_cons_zero]
    repeat (go_big_quiet_step (fail))
    refine wpQuiet_nil ⟨_, rfl, fun K hK => ?_⟩
    refine wpList_append_nd _ rfl _ _ rfl lo X (.slice na ns.length nc) ns rfl HN.out x u HU2.out hux (w.heap.size + 1) rfl ⟨HB2.out.cell 0 rfl, HB2.out.cell 1 rfl, HB2.out.cell 2 rfl, HB2.out.cell 3 rfl⟩ (by omega) (by omega) ?_
    intro nv2 w2 hown hg
    have z2 := HY2.out.size
    rw [World.size_alloc] at z2
    have hr := HP0.out.nds.row
    have k2 : ∀ b, b < w.heap.size → (∀ c, w.heap[b]? ≠ some (.cells c 79 (0, 0))) → w2.heap[b]? = w.heap[b]? := fun b hb hn => (hg.block b (by omega) (fun e => (by obtain ⟨_, c, hc⟩ := hr b e.symm; exact hn c hc))).trans (HY1.out.block hb)
    have kB : w2.heap[B]? = w.heap[B]? := k2 B zB (fun c hc => by
      have := HP0.out.box
      unfold Blk at this
      rw [this] at hc
      simp only [Option.some.injEq, Obj.cells.injEq] at hc
      exact absurd hc.2.1 (by decide))
    have B3 := HP0.out.box.of kB
    have K3 : KN lo B 79 w w2 := KN.grown (HY1.out.kn lo B 79) hg (fun k hk => by
      obtain ⟨q1, c, hc⟩ := hr k hk
      exact ⟨q1, c, (HY1.out.block (Array.getElem?_eq_some_iff.1 hc).1).trans hc⟩)
    have kN : w2.heap[w.heap.size]? = (w.alloc (.cells #[.int .i64 x.op, .string x.name, .int .i64 x.num, u] 79)).heap[w.heap.size]? := (hg.block _ (by omega) (fun e => by
      obtain ⟨_, c, hc⟩ := hr _ e.symm
      exact absurd (Array.getElem?_eq_some_iff.1 hc).1 (by omega))).trans (HY2.out.block (by rw [World.size_alloc]; omega))
    have kB2 : w2.heap[B]? = (w.alloc (.cells #[.int .i64 x.op, .string x.name, .int .i64 x.num, u] 79)).heap[B]? := kB.trans (HX0.out.block zB).symm
    go_wp2_with fail
    refine hK _ _ (.inr (SC.blocks fun a ha => ?_)) ?_
    · rcases ha with ha | ha
      · rw [ha]; exact kB2
      · rw [ha]; exact kN
    clear hK K
    have d2 := B3.cell 2 rfl
    have e2 := B3.free 2
    have d0 := B3.cell 0 rfl
    have e0 := B3.free 0
    have HB3 := hid B3
    have HK3 := hid K3
    have HO := hid hown
    obtain ⟨na2, nc2, rfl, _⟩ := hown.form
    have hll : (ns ++ [x]).length = ns.length + 1 := by simp
    clear hown hg hr k2 kB kN kB2 B3 K3 c1 c2 f1 f2
    refine wpPhase_end (wpPhase_free ?_)
    refine wpStagesS_cons ?_
    simp only [List.filterMap_nil]
    show wpQuiet _ _ _ _ [] _
    try simp only [Act.put, List.setIfInBounds_toArray, List.set_cons_succ, List.set_cons_zero]
    repeat (go_big_quiet_step (fail))
    refine wpQuiet_nil ⟨_, rfl, fun K hK => ?_⟩
    go_wp2_with fail
    go_wp2_with fail
    refine hK _ _ (.inr (trivial)) ?_
    clear hK K
    refine wpStagesS_cons ?_
    simp only [List.filterMap_nil]
    show wpQuiet _ _ _ _ [] _
    try simp only [Act.put, List.setIfInBounds_toArray, List.set_cons_succ, List.set_cons_zero]
    repeat (go_big_quiet_step (fail))
    refine wpQuiet_nil ⟨_, rfl, fun K hK => ?_⟩
    go_wp2_with fail
    go_wp2_with fail
    refine hK _ _ (.inr (trivial)) ?_
    clear hK K
    refine wpStagesS_cons ?_
    simp only [List.filterMap_nil]
    show wpQuiet _ _ _ _ [] _
    try simp only [Act.put, List.setIfInBounds_toArray, List.set_cons_succ, List.set_cons_zero]
    repeat (go_big_quiet_step (fail))
    refine wpQuiet_nil ⟨_, rfl, fun K hK => ?_⟩
    go_wp2_with fail
    go_wp2_with fail
    refine hK _ _ (.inr (trivial)) ?_
    clear hK K
    refine wpStagesS_cons ?_
    simp only [List.filterMap_nil]
    show wpQuiet _ _ _ _ [] _
    try simp only [Act.put, List.setIfInBounds_toArray, List.set_cons_succ, List.set_cons_zero]
    repeat (go_big_quiet_step (fail))
    refine wpQuiet_nil ⟨_, rfl, fun K hK => ?_⟩
    go_wp2_with fail
    go_wp2_with fail
    refine hK _ _ (.inr (trivial)) ?_
    clear hK K
    refine wpStagesS_nil ?_
    have P4 := Pst.setNds HP0.out HB3.out HK3.out HO.out (by omega) (fun y hy => by
      rcases List.mem_append.1 hy with hy | hy
      · exact HP0.out.good y hy
      · simp only [List.mem_cons, List.not_mem_nil, or_false] at hy
        subst hy
        exact hx)
    rw [hll] at P4
    have HP4 := hid P4
    have c2 := P4.box.cell 2 rfl
    clear P4
    go_wp2
    go_ret
    exact ⟨ns.length, k, ns ++ [x], bad, _, by go_num, by omega, HP4.out, HK3.out.set hlo 2 _, .inr ⟨rfl, rfl, rfl, rfl⟩, fun _ => ⟨rfl, rfl, rfl, rfl⟩⟩
end Go.Proofs.YtaegmenjgjdimaaGreat
end

section
/- This text states what the parser's recursive functions are asked, and proves its choice of the operator and its factors. -/
namespace Go.Proofs.YtaegmenjgjdimaaGreat
open Go.RowKit

theorem OwnInts.lits {lo g : Nat} {w : World} {xs : List Int} (hl : lo ≤ g) (h : Blk w g 3 (xs.map (Value.int .i64))) (h64 : ∀ x ∈ xs, I64 x) (hn : xs.length ≤ 1000000) : OwnInts lo w (.slice (some ⟨g, 0, none⟩) xs.length xs.length) xs := by
  refine ⟨⟨by simp, .inr ⟨g, xs.length, (xs.map (Value.int .i64)).toArray, rfl, hl, h, Nat.le_refl _, by unfold maxLen; omega, by simp, ?_⟩⟩, h64⟩
  simp only [Nat.mul_one]
  rw [List.take_of_length_le (by simp)]
/-- the semicolon -/
def semiB : ByteArray := ⟨#[59]⟩
set_option maxRecDepth 20000 in
set_option maxHeartbeats 3200000 in
theorem sOp_any2 (x : ByteArray) (b : Bool) (w : World) : Calls Tryz.prog 135 #[.string x, .bool b] w fun e w' => ∃ o : Int, e = .returned (.int .i64 o) ∧ 0 ≤ o ∧ o ≤ 8 ∧ Ext w w' ∧ (x = semiB → o = 0) ∧ (o ≠ 0 → x ≠ ⟨#[]⟩) := by
  have sm : ∀ c : UInt8, c ≠ 59 → (x.toList == [c]) = true → x = semiB → False := fun c hc e h => by
    subst h
    simp [semiB] at e
    exact hc e.symm
  have nm : ∀ c : UInt8, (x.toList == [c]) = true → x ≠ ⟨#[]⟩ := fun c e h => by
    subst h
    simp at e
  cases b
  · by_cases h1 : (x.toList == [42]) = true
    · have n1 := nm _ h1
      have s1 := sm _ (by decide) h1
      clear sm nm
      go_enter Tryz.func135, Tryz.ntmps135
      go_wp2
      go_ret
      exact ⟨6, rfl, by omega, by omega, (by repeat (with_reducible (first | assumption | exact Ext.refl _ | apply Ext.alloc | apply Ext.drew | apply Ext.drewN))), (fun h => (s1 h).elim), fun _ => n1⟩
    · have h1' : (x.toList == [42]) = false := by simpa using h1
      clear h1
      by_cases h2 : (x.toList == [47]) = true
      · have n1 := nm _ h2
        have s1 := sm _ (by decide) h2
        clear sm nm
        go_enter Tryz.func135, Tryz.ntmps135
        go_wp2
        go_ret
        exact ⟨7, rfl, by omega, by omega, (by repeat (with_reducible (first | assumption | exact Ext.refl _ | apply Ext.alloc | apply Ext.drew | apply Ext.drewN))), (fun h => (s1 h).elim), fun _ => n1⟩
      · have h2' : (x.toList == [47]) = false := by simpa using h2
        clear h2 sm nm
        go_enter Tryz.func135, Tryz.ntmps135
        go_wp2
        go_ret
        exact ⟨0, rfl, by omega, by omega, (by repeat (with_reducible (first | assumption | exact Ext.refl _ | apply Ext.alloc | apply Ext.drew | apply Ext.drewN))), (fun _ => rfl), fun h => (h rfl).elim⟩
  · by_cases h1 : (x.toList == [43]) = true
    · have n1 := nm _ h1
      have s1 := sm _ (by decide) h1
      clear sm nm
      go_enter Tryz.func135, Tryz.ntmps135
      go_wp2
      go_ret
      exact ⟨4, rfl, by omega, by omega, (by repeat (with_reducible (first | assumption | exact Ext.refl _ | apply Ext.alloc | apply Ext.drew | apply Ext.drewN))), (fun h => (s1 h).elim), fun _ => n1⟩
    · have h1' : (x.toList == [43]) = false := by simpa using h1
      clear h1
      by_cases h2 : (x.toList == [45]) = true
      · have n1 := nm _ h2
        have s1 := sm _ (by decide) h2
        clear sm nm
        go_enter Tryz.func135, Tryz.ntmps135
        go_wp2
        go_ret
        exact ⟨5, rfl, by omega, by omega, (by repeat (with_reducible (first | assumption | exact Ext.refl _ | apply Ext.alloc | apply Ext.drew | apply Ext.drewN))), (fun h => (s1 h).elim), fun _ => n1⟩
      · have h2' : (x.toList == [45]) = false := by simpa using h2
        clear h2 sm nm
        go_enter Tryz.func135, Tryz.ntmps135
        go_wp2
        go_ret
        exact ⟨0, rfl, by omega, by omega, (by repeat (with_reducible (first | assumption | exact Ext.refl _ | apply Ext.alloc | apply Ext.drew | apply Ext.drewN))), (fun _ => rfl), fun h => (h rfl).elim⟩

/-- at token k there is the name x alone, with a semicolon behind it -/
def LoneT (tk : List Tok) (k : Nat) (ns : List Nd) (d : Int) (x : ByteArray) : Prop := ∃ t t1, tk[k]? = some t ∧ t.kind = 2 ∧ t.text = x ∧ tk[k + 1]? = some t1 ∧ peekB t1 = semiB ∧ ns.length < 60 ∧ d ≤ 64
/-- what a step of the parser hands back: a node's number; an error, or st tokens are done at least -/
def PRes (lo : Nat) (X : Nat → Prop) (B : Nat) (tk : List Tok) (gs : List Asg) (tv gv : Value) (st : Nat) (w : World) (k : Nat) (ns : List Nd) (bad d : Int) (e : Ending) (w' : World) : Prop :=
  ∃ (r q : Nat) (ns' : List Nd) (z : Int) (nv' : Value), e = .returned (.int .i64 (r : Nat)) ∧ r ≤ 60 ∧ Pst lo X B tk gs w' q ns' z tv nv' gv ∧ KN lo B 79 w w' ∧ (0 ≤ z ∨ (z = bad ∧ k + st ≤ q)) ∧ ∀ x, LoneT tk k ns d x → z = bad ∧ q = k + 1 ∧ ns' = ns ++ [⟨2, x, 0, []⟩] ∧ r = ns.length
def PCF (lo B : Nat) (tk : List Tok) (gs : List Asg) (tv gv : Value) (m : Nat) : Prop := ∀ (X : Nat → Prop) (w : World) (k : Nat) (ns : List Nd) (bad : Int) (nv : Value) (d : Int), Pst lo X B tk gs w k ns bad tv nv gv → bad < 0 → 1 ≤ k → tk.length - k ≤ m → 0 ≤ d → d ≤ 65 →
  Calls Tryz.prog 144 #[.pointer (some ⟨B, 0, none⟩), .int .i64 d] w (PRes lo X B tk gs tv gv 1 w k ns bad d)
def PCE (lo B : Nat) (tk : List Tok) (gs : List Asg) (tv gv : Value) (m : Nat) : Prop := ∀ (X : Nat → Prop) (w : World) (k : Nat) (ns : List Nd) (bad : Int) (nv : Value) (d : Int), Pst lo X B tk gs w k ns bad tv nv gv → bad < 0 → 1 ≤ k → tk.length - k ≤ m → 0 ≤ d → d ≤ 65 →
  Calls Tryz.prog 73 #[.pointer (some ⟨B, 0, none⟩), .int .i64 d] w (PRes lo X B tk gs tv gv 1 w k ns bad d)
def PCB (lo B : Nat) (tk : List Tok) (gs : List Asg) (tv gv : Value) (b : Bool) (m : Nat) : Prop := ∀ (X : Nat → Prop) (w : World) (k : Nat) (ns : List Nd) (bad : Int) (nv : Value) (d : Int), Pst lo X B tk gs w k ns bad tv nv gv → bad < 0 → 1 ≤ k → tk.length - k ≤ m → 0 ≤ d → d ≤ 65 →
  Calls Tryz.prog 106 #[.pointer (some ⟨B, 0, none⟩), .int .i64 d, .bool b] w (PRes lo X B tk gs tv gv 1 w k ns bad d)
def PCO (lo B : Nat) (tk : List Tok) (gs : List Asg) (tv gv : Value) (b : Bool) (m : Nat) : Prop := ∀ (X : Nat → Prop) (w : World) (k : Nat) (ns : List Nd) (bad : Int) (nv : Value) (d : Int), Pst lo X B tk gs w k ns bad tv nv gv → bad < 0 → 1 ≤ k → tk.length - k ≤ m → 0 ≤ d → d ≤ 65 →
  Calls Tryz.prog 134 #[.pointer (some ⟨B, 0, none⟩), .int .i64 d, .bool b] w (PRes lo X B tk gs tv gv 1 w k ns bad d)
def PCC (lo B : Nat) (tk : List Tok) (gs : List Asg) (tv gv : Value) (m : Nat) : Prop := ∀ (X : Nat → Prop) (w : World) (k : Nat) (ns : List Nd) (bad : Int) (nv : Value) (x : ByteArray) (d : Int), Pst lo X B tk gs w k ns bad tv nv gv → bad < 0 → 1 ≤ k → tk.length - k ≤ m → 0 ≤ d → d ≤ 65 → x.size ≤ 2000 →
  Calls Tryz.prog 149 #[.pointer (some ⟨B, 0, none⟩), .string x, .int .i64 d] w fun e w' => ∃ (r q : Nat) (ns' : List Nd) (z : Int) (nv' : Value), e = .returned (.int .i64 (r : Nat)) ∧ r ≤ 60 ∧ Pst lo X B tk gs w' q ns' z tv nv' gv ∧ KN lo B 79 w w' ∧ (0 ≤ z ∨ (z = bad ∧ k ≤ q))
theorem NdG.of {o n : Int} {x : ByteArray} {us : List Int} (h1 : I64 o) (h2 : I64 n) (h3 : x.size ≤ 2000) (h4 : us.length ≤ 3) : NdG ⟨o, x, n, us⟩ := ⟨h1, h2, h3, h4⟩
/-- one token on -/
theorem Pst.step {lo B : Nat} {X : Nat → Prop} {tk : List Tok} {gs : List Asg} {w : World} {k : Nat} {ns : List Nd} {bad : Int} {tv nv gv : Value} (h : Pst lo X B tk gs w k ns bad tv nv gv) (hq : k + 1 < tk.length) : Pst lo X B tk gs (w.setCell ⟨B, 1, none⟩ (.int .i64 ((k : Int) + 1))) (k + 1) ns bad tv nv gv := by
  simpa using h.setAt hq
theorem Pst.k3000 {lo B : Nat} {X : Nat → Prop} {tk : List Tok} {gs : List Asg} {w : World} {k : Nat} {ns : List Nd} {bad : Int} {tv nv gv : Value} (h : Pst lo X B tk gs w k ns bad tv nv gv) : k ≤ 3000 := by
  obtain ⟨ts, n, e1, _, _, _, e2⟩ := h.ends
  have := h.here
  rw [e1, List.length_append] at this
  simp at this
  omega
theorem peekB_ne {t : Tok} {x : ByteArray} (h : peekB t = x) (hx : x ≠ ⟨#[]⟩) : t.kind = 3 ∧ t.text = x := by
  unfold peekB at h
  by_cases e : t.kind = 3
  · rw [if_pos e] at h; exact ⟨e, h⟩
  · rw [if_neg e] at h; exact absurd h.symm hx
/-- another sign than the semicolon stands behind the token: it is not a lone name -/
theorem LoneT.not {tk : List Tok} {k : Nat} {ns : List Nd} {d : Int} {x : ByteArray} (h : LoneT tk k ns d x) {t : Tok} (ht : tk[k]? = some t) : t.kind = 2 ∧ t.text = x ∧ ∃ t1, tk[k + 1]? = some t1 ∧ peekB t1 = semiB := by
  obtain ⟨t', t1, h1, h2, h3, h4, h5, _⟩ := h
  rw [ht] at h1
  cases h1
  exact ⟨h2, h3, t1, h4, h5⟩
end Go.Proofs.YtaegmenjgjdimaaGreat
end

section
/- This text proves the parser's factors, if the steps with fewer tokens left are known. -/
namespace Go.Proofs.YtaegmenjgjdimaaGreat
open Go.RowKit

set_option maxRecDepth 20000 in
set_option maxHeartbeats 12800000 in
theorem sFactor_of {lo B : Nat} {tk : List Tok} {gs : List Asg} {tv gv : Value} (m : Nat) (hF : PCF lo B tk gs tv gv m) (hE : PCE lo B tk gs tv gv m) (hC : PCC lo B tk gs tv gv m) : PCF lo B tk gs tv gv (m + 1) := by
  intro X w k ns bad nv d h hbad hk1 hm hd0 hd
  have HP := hid h
  have HF := hid hF
  have HE := hid hE
  have HC := hid hC
  have kb := h.k3000
  have zlo := h.low
  have HE := hid hE
  clear hF hE hC
  by_cases hd64 : d > 64
  · go_enter Tryz.func144, Tryz.ntmps144
    go_wp2_with fail
    refine (sFail_any HP.out).mono ?_
    rintro e w2 ⟨z, rfl, hz, P2, K2⟩
    have HP2 := hid P2
    have HK2 := hid K2
    clear P2 K2 h
    go_wp2
    go_ret
    exact ⟨0, k, ns, z, nv, rfl, by omega, HP2.out, HK2.out, .inl hz, fun x hx => by
      obtain ⟨t, t1, _, _, _, _, _, _, h1⟩ := hx
      omega⟩
  · obtain ⟨t, ht, tk64, tts, tn64, o1, o2, hkl⟩ := h.ends.at h.here
    obtain ⟨g, cap, etv, g1, g2, g3, g4, ⟨cg, hcg⟩, hc⟩ := OwnG.at h.toks (fun _ => rfl) ht
    have hk := h.here
    have c0 := h.box.cell 0 rfl
    have c1 := h.box.cell 1 rfl
    have z := h.box.lt
    have d0 := hc 0 (by decide)
    have d1 := hc 1 (by decide)
    have d2 := hc 2 (by decide)
    have d3 := hc 3 (by decide)
    simp only [Tok.cs, Nat.add_zero, List.getElem?_cons_zero, List.getElem?_cons_succ] at d0 d1 d2 d3
    have HT := hid ht
    have HKL := hid hkl
    have HETV := hid etv
    rw [etv] at c0
    have gne : g ≠ w.heap.size := by omega
    have bne : B ≠ w.heap.size := by omega
    have hd65 : d + 1 ≤ 65 := by omega
    clear h hc ht hcg hkl etv
    go_enter Tryz.func144, Tryz.ntmps144
    go_wp2_with fail
    refine wp_region_stagesS [([0, 1, 2, 3, 4, 5, 6, 7, 8, 9], 10), ([], 11)] 99 (fun w' => ∃ d, w' = lowx (w.heap.size) (w.heap.size) _ d) (by kernel_rfl) (by kernel_rfl) ⟨_, lowx_of (fun _ _ _ => rfl)⟩ ?_
    refine wpStagesS_cons ?_
    simp only [List.filterMap_cons, List.filterMap_nil, List.getElem?_toArray, List.getElem?_cons_zero, List.getElem?_cons_succ]
    show wpQuiet _ _ _ _ [_, _, _, _, _, _, _, _, _, _] _
    repeat (go_big_quiet_step (fail))
    refine wpQuiet_nil ⟨_, rfl, fun K hK => ?_⟩
    go_wp2_with fail
    go_wp2_with fail
    refine hK _ _ (.inr ⟨_, lowx_of (fun b hb _ => Ext.block (show Ext w _ from (by repeat (with_reducible (first | assumption | exact Ext.refl _ | apply Ext.alloc | apply Ext.drew | apply Ext.drewN)))) hb)⟩) ?_
    clear hK K
    refine wpStagesS_cons ?_
    simp only [List.filterMap_nil]
    show wpQuiet _ _ _ _ [] _
    try simp only [Act.put, List.setIfInBounds_toArray, List.set_cons_succ, List.set_cons_zero]
    repeat (go_big_quiet_step (fail))
    refine wpQuiet_nil ⟨_, rfl, fun K hK => ?_⟩
    go_wp2_with fail
    go_wp2_with fail
    refine hK _ _ (.inr ⟨_, lowx_of (fun b hb _ => Ext.block (show Ext w _ from (by repeat (first | with_reducible assumption | with_reducible exact Ext.refl _ | with_reducible apply Ext.alloc | with_reducible apply Ext.drew | with_reducible apply Ext.drewN | (with_reducible refine Ext.setCell ?_ (by simp; omega) _) | (with_reducible refine Ext.setCell ?_ (by simp) _)))) hb)⟩) ?_
    clear hK K
    refine wpStagesS_nil ?_
    have x1 : Ext w ((w.alloc (.cells #[.int .i64 t.kind, .string t.text, .int .i64 t.num, .int .i64 t.off] 145)).drew) := (by repeat (first | with_reducible assumption | with_reducible exact Ext.refl _ | with_reducible apply Ext.alloc | with_reducible apply Ext.drew | with_reducible apply Ext.drewN | (with_reducible refine Ext.setCell ?_ (by simp; omega) _) | (with_reducible refine Ext.setCell ?_ (by simp) _)))
    have B1 : Blk ((w.alloc (.cells #[.int .i64 t.kind, .string t.text, .int .i64 t.num, .int .i64 t.off] 145)).drew) w.heap.size 145 [.int .i64 t.kind, .string t.text, .int .i64 t.num, .int .i64 t.off] := (Blk.new w 145 [.int .i64 t.kind, .string t.text, .int .i64 t.num, .int .i64 t.off]).ext (show Ext (w.alloc (.cells #[.int .i64 t.kind, .string t.text, .int .i64 t.num, .int .i64 t.off] 145)) _ from (by repeat (first | with_reducible assumption | with_reducible exact Ext.refl _ | with_reducible apply Ext.alloc | with_reducible apply Ext.drew | with_reducible apply Ext.drewN | (with_reducible refine Ext.setCell ?_ (by simp; omega) _) | (with_reducible refine Ext.setCell ?_ (by simp) _))))
    have HX1 := hid x1
    have HB1 := hid B1
    clear x1 B1
    go_wp2_with fail
    refine (sPeek_any (HP.out.ext HX1.out) HT.out).mono ?_
    rintro e w2 ⟨rfl, x2⟩
    have HX2 := hid (HX1.out.trans x2)
    have HB2 := hid (HB1.out.ext x2)
    have HP2 := hid (HP.out.ext HX2.out)
    have z2 := HX2.out.size
    have zB2 := HB2.out.lt
    have c1' := HP2.out.box.cell 1 rfl
    have f1' := HP2.out.box.free 1
    clear HX1 HB1 x2 c0 c1 d0 d1 d2 d3 g1 g2 g3 g4
    by_cases h45 : ((peekB t).toList == [45]) = true
    · have hp : peekB t = ⟨#[45]⟩ := ByteArray.ext (Array.ext' (by rw [← Lib.toList_data]; exact beq_iff_eq.1 h45))
      have hk3 := (peekB_ne hp (by decide)).1
      have hkk := HKL.out (by omega)
      have HP3 := hid (HP2.out.step hkk)
      have HK3 := hid ((HX2.out.kn lo B 79).set zlo 1 (.int .i64 ((k : Int) + 1)))
      clear hp
      go_wp2_with fail
      refine (HF.out _ _ (k + 1) ns bad nv (d + 1) HP3.out hbad (by omega) (by omega) (by omega) hd65).mono ?_
      rintro e w4 ⟨r, q, ns', z4, nv', rfl, hr, P4, K4, hz4, -⟩
      have HP4 := hid P4
      have HK4 := hid (HK3.out.trans K4)
      have c4 := P4.box.cell 4 rfl
      clear P4 K4 c1' f1'
      have hno : ∀ x, ¬ LoneT tk k ns d x := fun x hx => by
        have := (hx.not HT.out).1
        omega
      by_cases hz0 : 0 ≤ z4
      · go_wp2
        go_ret
        exact ⟨0, q, ns', z4, nv', rfl, by omega, HP4.out, HK4.out, .inl hz0, fun x hx => (hno x hx).elim⟩
      · have hzb := hz4.resolve_left hz0
        go_wp2_with fail
        have hu : OwnInts lo (w4.alloc (.cells #[.int .i64 (r : Nat)] 3)) (.slice (some ⟨w4.heap.size, 0, none⟩) 1 1) [(r : Int)] := OwnInts.lits (xs := [(r : Int)]) (by have := HP4.out.box.lt; omega) (Blk.new w4 3 [.int .i64 (r : Nat)]) (fun y hy => by
          simp only [List.mem_cons, List.not_mem_nil, or_false] at hy
          subst hy
          exact ⟨by omega, by omega⟩) (by simp)
        have y4 : Ext w4 (w4.alloc (.cells #[.int .i64 (r : Nat)] 3)) := (by repeat (with_reducible (first | assumption | exact Ext.refl _ | apply Ext.alloc | apply Ext.drew | apply Ext.drewN)))
        refine (sEmit_any (HP4.out.ext y4) (by omega) ⟨3, ⟨#[]⟩, 0, [(r : Int)]⟩ (.slice (some ⟨w4.heap.size, 0, none⟩) 1 1) hu (fun j hj hx => by
          have e : w4.heap.size = j := by simpa [Value.ownBlock] using hj
          have := HP4.out.xlt j hx
          omega) (NdG.of ⟨by omega, by omega⟩ ⟨by omega, by omega⟩ (by decide) (by simp))).mono ?_
        rintro e w5 ⟨r5, q5, ns5, z5, nv5, rfl, hr5, P5, K5, hz5, -⟩
        have HP5 := hid P5
        have HK5 := hid ((HK4.out.ext y4).trans K5)
        clear P5 K5 hu y4
        go_wp2
        go_ret
        exact ⟨r5, q5, ns5, z5, nv5, rfl, hr5, HP5.out, HK5.out, hz5.imp id (fun h => ⟨h.2.2.1.trans hzb.1, by omega⟩), fun x hx => (hno x hx).elim⟩
    · have e45 : ((peekB t).toList == [45]) = false := by simpa using h45
      clear h45
      go_wp2_with fail
      refine (sPeek_any HP2.out HT.out).mono ?_
      rintro e w3 ⟨rfl, x3⟩
      have HX3 := hid (HX2.out.trans x3)
      have HB3 := hid (HB2.out.ext x3)
      have HP3 := hid (HP.out.ext HX3.out)
      have z3 := x3.size
      have c1' := HP3.out.box.cell 1 rfl
      have f1' := HP3.out.box.free 1
      have d0 := HB3.out.cell 0 rfl
      have d1 := HB3.out.cell 1 rfl
      have d2 := HB3.out.cell 2 rfl
      have zB3 := HP3.out.box.lt
      clear HX2 HB2 HP2 x3 
      by_cases h40 : ((peekB t).toList == [40]) = true
      · have hp : peekB t = ⟨#[40]⟩ := ByteArray.ext (Array.ext' (by rw [← Lib.toList_data]; exact beq_iff_eq.1 h40))
        have hk3 := (peekB_ne hp (by decide)).1
        have hkk := HKL.out (by omega)
        have HP4 := hid (HP3.out.step hkk)
        have HK4 := hid ((HX3.out.kn lo B 79).set zlo 1 (.int .i64 ((k : Int) + 1)))
        have hno : ∀ x, ¬ LoneT tk k ns d x := fun x hx => by
          have := (hx.not HT.out).1
          omega
        clear hp d0 d1 d2
        go_wp2_with fail
        refine (HE.out _ _ (k + 1) ns bad nv (d + 1) HP4.out hbad (by omega) (by omega) (by omega) hd65).mono ?_
        rintro e w5 ⟨r, q, ns', z5, nv', rfl, hr, P5, K5, hz5, -⟩
        have HP5 := hid P5
        have HK5 := hid (HK4.out.trans K5)
        have c4 := P5.box.cell 4 rfl
        clear P5 K5 c1' f1'
        by_cases hz0 : 0 ≤ z5
        · go_wp2
          go_ret
          exact ⟨0, q, ns', z5, nv', rfl, by omega, HP5.out, HK5.out, .inl hz0, fun x hx => (hno x hx).elim⟩
        · have hzb := hz5.resolve_left hz0
          obtain ⟨t5, ht5, _⟩ := HP5.out.ends.at HP5.out.here
          go_wp2_with fail
          refine (sExpect_any HP5.out ht5 ⟨#[41]⟩ (by decide)).mono ?_
          rintro e w6 ⟨b, q6, z6, rfl, P6, K6, hb1, hb2, -⟩
          have HP6 := hid P6
          have HK6 := hid (HK5.out.trans K6)
          clear P6 K6
          cases b
          · have := hb2 rfl
            go_wp2
            go_ret
            exact ⟨0, q6, ns', z6, nv', rfl, by omega, HP6.out, HK6.out, .inl this, fun x hx => (hno x hx).elim⟩
          · obtain ⟨rfl, rfl⟩ := hb1 rfl
            go_wp2
            go_ret
            exact ⟨r, q + 1, ns', z6, nv', rfl, hr, HP6.out, HK6.out, .inr ⟨hzb.1, by omega⟩, fun x hx => (hno x hx).elim⟩
      · have e40 : ((peekB t).toList == [40]) = false := by simpa using h40
        clear h40
        by_cases k1 : t.kind = 1
        · have hkk := HKL.out (by omega)
          have HP4 := hid (HP3.out.step hkk)
          have HK4 := hid ((HX3.out.kn lo B 79).set zlo 1 (.int .i64 ((k : Int) + 1)))
          have hno : ∀ x, ¬ LoneT tk k ns d x := fun x hx => by
            have := (hx.not HT.out).1
            omega
          go_wp2_with fail
          refine (sEmit_any HP4.out (by omega) ⟨1, ⟨#[]⟩, t.num, []⟩ (.slice none 0 0) (OwnInts.nil _ _) (fun _ h => nomatch h) (NdG.of ⟨by omega, by omega⟩ tn64 (by decide) (by simp))).mono ?_
          rintro e w5 ⟨r5, q5, ns5, z5, nv5, rfl, hr5, P5, K5, hz5, -⟩
          have HP5 := hid P5
          have HK5 := hid (HK4.out.trans K5)
          clear P5 K5
          go_wp2
          go_ret
          exact ⟨r5, q5, ns5, z5, nv5, rfl, hr5, HP5.out, HK5.out, hz5.imp id (fun h => ⟨h.2.2.1, by omega⟩), fun x hx => (hno x hx).elim⟩
        · by_cases k2 : t.kind = 2
          · have hkk := HKL.out (by omega)
            have HP4 := hid (HP3.out.step hkk)
            have HK4 := hid ((HX3.out.kn lo B 79).set zlo 1 (.int .i64 ((k : Int) + 1)))
            obtain ⟨t4, ht4, _, _, _, _, _, hkl4⟩ := HP4.out.ends.at HP4.out.here
            have HT4 := hid ht4
            have HB4 := hid (HB3.out.other (a := ⟨B, 1, none⟩) (by simp only; omega) (.int .i64 ((k : Int) + 1)))
            clear ht4
            go_wp2_with fail
            refine (sPeek_any HP4.out HT4.out).mono ?_
            rintro e w5 ⟨rfl, x5⟩
            have HB5 := hid (HB4.out.ext x5)
            have HP5 := hid (HP4.out.ext x5)
            have HK5 := hid (HK4.out.ext x5)
            have c5 := HP5.out.box.cell 1 rfl
            have f5 := HP5.out.box.free 1
            have b1 := HB5.out.cell 1 rfl
            have z5 := HB5.out.lt
            have z6 := HP5.out.box.lt
            clear x5 d0 d1 d2 HB3 HB4 HK4 HP4 c1' f1'
            by_cases h40 : ((peekB t4).toList == [40]) = true
            · have hp : peekB t4 = ⟨#[40]⟩ := ByteArray.ext (Array.ext' (by rw [← Lib.toList_data]; exact beq_iff_eq.1 h40))
              have hk3 := (peekB_ne hp (by decide)).1
              have hkk4 := hkl4 (by omega)
              have HP6 := hid (HP5.out.step hkk4)
              have HK6 := hid (HK5.out.set zlo 1 (.int .i64 (((k + 1 : Nat) : Int) + 1)))
              have hno : ∀ x, ¬ LoneT tk k ns d x := fun x hx => by
                obtain ⟨_, _, t1, h1, h2⟩ := hx.not HT.out
                rw [HT4.out] at h1
                cases h1
                rw [hp] at h2
                exact absurd h2 (by decide)
              clear hp hkl4
              go_wp2_with fail
              refine (HC.out _ _ (k + 1 + 1) ns bad nv t.text (d + 1) HP6.out hbad (by omega) (by omega) (by omega) hd65 tts).mono ?_
              rintro e w7 ⟨r, q, ns', z7, nv', rfl, hr, P7, K7, hz7⟩
              have HP7 := hid P7
              have HK7 := hid (HK6.out.trans K7)
              clear P7 K7
              go_wp2
              go_ret
              exact ⟨r, q, ns', z7, nv', rfl, hr, HP7.out, HK7.out, hz7.imp id (fun h => ⟨h.1, by omega⟩), fun x hx => (hno x hx).elim⟩
            · have e40b : ((peekB t4).toList == [40]) = false := by simpa using h40
              clear h40 hkl4
              go_wp2_with fail
              refine (sEmit_any HP5.out (by omega) ⟨2, t.text, 0, []⟩ (.slice none 0 0) (OwnInts.nil _ _) (fun _ h => nomatch h) (NdG.of ⟨by omega, by omega⟩ ⟨by omega, by omega⟩ tts (by simp))).mono ?_
              rintro e w7 ⟨r7, q7, ns7, z7, nv7, rfl, hr7, P7, K7, hz7, hx7⟩
              have HP7 := hid P7
              have HK7 := hid (HK5.out.trans K7)
              clear P7 K7
              go_wp2
              go_ret
              exact ⟨r7, q7, ns7, z7, nv7, rfl, hr7, HP7.out, HK7.out, hz7.imp id (fun h => ⟨h.2.2.1, by omega⟩), fun x hx => by
                obtain ⟨t', t1, g1, g2, g3, g4, g5, g6, g7⟩ := hx
                rw [HT.out] at g1
                cases g1
                obtain ⟨i1, i2, i3, i4⟩ := hx7 g6
                exact ⟨i3, i1, by rw [i2, g3], i4⟩⟩
          · go_wp2_with fail
            refine (sFail_any HP3.out).mono ?_
            rintro e w4 ⟨z4, rfl, hz, P4, K4⟩
            have HP4 := hid P4
            have HK4 := hid ((HX3.out.kn lo B 79).trans K4)
            clear P4 K4
            go_wp2
            go_ret
            exact ⟨0, k, ns, z4, nv, rfl, by omega, HP4.out, HK4.out, .inl hz, fun x hx => by
              have := (hx.not HT.out).1
              omega⟩
end Go.Proofs.YtaegmenjgjdimaaGreat
end

section
/- This text proves the parser's chains of operators, if the operands are known. -/
namespace Go.Proofs.YtaegmenjgjdimaaGreat
open Go.RowKit

set_option maxRecDepth 20000 in
set_option maxHeartbeats 3200000 in
theorem sOperandT_of {lo B : Nat} {tk : List Tok} {gs : List Asg} {tv gv : Value} (m : Nat) (hB : PCB lo B tk gs tv gv false m) : PCO lo B tk gs tv gv true m := by
  intro X w k ns bad nv d h hbad hk1 hm hd0 hd
  have H := hid (hB X w k ns bad nv d h hbad hk1 hm hd0 hd)
  clear hB h
  go_enter Tryz.func134, Tryz.ntmps134
  go_wp2_with fail
  refine H.out.mono ?_
  rintro e w2 ⟨r, q, ns', z, nv', rfl, h2⟩
  have H2 := hid h2
  clear h2
  go_wp2
  go_ret
  exact ⟨r, q, ns', z, nv', rfl, H2.out⟩
set_option maxRecDepth 20000 in
set_option maxHeartbeats 3200000 in
theorem sOperandF_of {lo B : Nat} {tk : List Tok} {gs : List Asg} {tv gv : Value} (m : Nat) (hB : PCF lo B tk gs tv gv m) : PCO lo B tk gs tv gv false m := by
  intro X w k ns bad nv d h hbad hk1 hm hd0 hd
  have H := hid (hB X w k ns bad nv d h hbad hk1 hm hd0 hd)
  clear hB h
  go_enter Tryz.func134, Tryz.ntmps134
  go_wp2_with fail
  refine H.out.mono ?_
  rintro e w2 ⟨r, q, ns', z, nv', rfl, h2⟩
  have H2 := hid h2
  clear h2
  go_wp2
  go_ret
  exact ⟨r, q, ns', z, nv', rfl, H2.out⟩
set_option maxRecDepth 20000 in
set_option maxHeartbeats 3200000 in
theorem sExpression_of {lo B : Nat} {tk : List Tok} {gs : List Asg} {tv gv : Value} (m : Nat) (hB : PCB lo B tk gs tv gv true m) : PCE lo B tk gs tv gv m := by
  intro X w k ns bad nv d h hbad hk1 hm hd0 hd
  have H := hid (hB X w k ns bad nv d h hbad hk1 hm hd0 hd)
  clear hB h
  go_enter Tryz.func73, Tryz.ntmps73
  go_wp2_with fail
  refine H.out.mono ?_
  rintro e w2 ⟨r, q, ns', z, nv', rfl, h2⟩
  have H2 := hid h2
  clear h2
  go_wp2
  go_ret
  exact ⟨r, q, ns', z, nv', rfl, H2.out⟩
/-- how far a chain has still to go -/
def msr (B n : Nat) (w : World) : Nat :=
  match w.cell? ⟨B, 4, none⟩, w.cell? ⟨B, 1, none⟩ with
  | some (.int _ z), some (.int _ k) => if 0 ≤ z then 0 else 1 + (n - k.toNat)
  | _, _ => 0
theorem Pst.msr {lo B n : Nat} {X : Nat → Prop} {tk : List Tok} {gs : List Asg} {w : World} {k : Nat} {ns : List Nd} {bad : Int} {tv nv gv : Value} (h : Pst lo X B tk gs w k ns bad tv nv gv) : Go.Proofs.YtaegmenjgjdimaaGreat.msr B n w = if 0 ≤ bad then 0 else 1 + (n - k) := by
  unfold Go.Proofs.YtaegmenjgjdimaaGreat.msr
  rw [h.box.cell 4 rfl, h.box.cell 1 rfl]
  rfl
set_option maxRecDepth 20000 in
set_option maxHeartbeats 12800000 in
theorem sBinary_of {lo B : Nat} {tk : List Tok} {gs : List Asg} {tv gv : Value} (m : Nat) (b : Bool) (hO : PCO lo B tk gs tv gv b m) : PCB lo B tk gs tv gv b m := by
  intro X w k ns bad nv d h hbad hk1 hm hd0 hd
  have HP := hid h
  have HO := hid hO
  have zlo := h.low
  have hk := h.here
  clear hO h
  go_enter Tryz.func106, Tryz.ntmps106
  go_wp2_with fail
  refine (HO.out X w k ns bad nv d HP.out hbad hk1 hm hd0 hd).mono ?_
  rintro e w1 ⟨r1, q1, ns1, z1, nv1, rfl, hr1, P1, K1, hz1, hx1⟩
  have HP1 := hid P1
  have HK1 := hid K1
  have HX1 := hid hx1
  clear P1 K1 hx1
  go_wp2_with fail
  go_loopw [7] (fun v wr => ∃ (r q : Nat) (ns' : List Nd) (z : Int) (nv' : Value), v = .int .i64 (r : Nat) ∧ r ≤ 60 ∧ Pst lo X B tk gs wr q ns' z tv nv' gv ∧ KN lo B 79 w wr ∧ (0 ≤ z ∨ (z = bad ∧ k + 1 ≤ q)) ∧ (∀ x, LoneT tk k ns d x → z = bad ∧ q = k + 1 ∧ ns' = ns ++ [⟨2, x, 0, []⟩] ∧ r = ns.length)) (fun _ wr => msr B tk.length wr)
  case atStart => exact ⟨r1, q1, ns1, z1, nv1, rfl, hr1, HP1.out, HK1.out, hz1, HX1.out⟩
  case round =>
    obtain ⟨r, q, ns', z, nv', rfl, hr, P, K, hz, hx⟩ := hrel
    have HP2 := hid P
    have HK2 := hid K
    have HX2 := hid hx
    have hq := P.here
    have kb := P.k3000
    have c4 := P.box.cell 4 rfl
    clear P K hx HP1 HK1 HX1
    by_cases hz0 : z < 0
    · obtain ⟨zb, hkq⟩ := hz.resolve_left (by omega)
      obtain ⟨t, ht, _, _, _, _, _, hkl⟩ := HP2.out.ends.at hq
      have HT := hid ht
      have HKL := hid hkl
      clear ht hkl
      go_wp2_with fail
      refine (sPeek_any HP2.out HT.out).mono ?_
      rintro e w2 ⟨rfl, x2⟩
      have HX3 := hid x2
      clear x2
      go_wp2_with fail
      refine (sOp_any2 (peekB t) b w2).mono ?_
      rintro e w3 ⟨o, rfl, ho0, ho8, x3, hs, hne⟩
      have HX4 := hid (HX3.out.trans x3)
      have HP4 := hid (HP2.out.ext HX4.out)
      have HK4 := hid (HK2.out.ext HX4.out)
      have hs' := hid hs
      clear x3 hs c4 HX3
      by_cases ho : o = 0
      · go_wp2
        go_ret
        exact ⟨r, q, ns', z, nv', rfl, hr, HP4.out, HK4.out, .inr ⟨zb, hkq⟩, HX2.out⟩
      · have hno : ∀ x, ¬ LoneT tk k ns d x := fun x hx => by
          obtain ⟨_, g2, _⟩ := HX2.out x hx
          obtain ⟨_, t1, _, _, _, g4, g5, _⟩ := hx
          rw [g2] at HT
          have := HT.out
          rw [g4] at this
          cases this
          exact ho (hs'.out g5)
        have hk3 : t.kind ≠ 0 := fun e => hne ho (by unfold peekB; rw [if_neg (by omega)])
        have hkk := HKL.out hk3
        have HP5 := hid (HP4.out.step hkk)
        have HK5 := hid (HK4.out.set zlo 1 (.int .i64 ((q : Int) + 1)))
        have c1 := HP4.out.box.cell 1 rfl
        have f1 := HP4.out.box.free 1
        clear hne hk3 hs'
        go_wp2_with fail
        refine (HO.out _ _ (q + 1) ns' z nv' d HP5.out hz0 (by omega) (by omega) hd0 hd).mono ?_
        rintro e w5 ⟨r5, q5, ns5, z5, nv5, rfl, hr5, P5, K5, hz5, -⟩
        have HP6 := hid P5
        have HK6 := hid (HK5.out.trans K5)
        have c4 := P5.box.cell 4 rfl
        clear P5 K5 c1 f1
        by_cases hz50 : 0 ≤ z5
        · go_wp2
          go_ret
          exact ⟨0, q5, ns5, z5, nv5, rfl, by omega, HP6.out, HK6.out, .inl hz50, fun x hx => (hno x hx).elim⟩
        · obtain ⟨zb5, hq5⟩ := hz5.resolve_left hz50
          have hl : OwnInts lo (w5.alloc (.cells #[.int .i64 (r : Nat), .int .i64 (r5 : Nat)] 3)) (.slice (some ⟨w5.heap.size, 0, none⟩) 2 2) [(r : Int), (r5 : Int)] := OwnInts.lits (xs := [(r : Int), (r5 : Int)]) (by have := HP6.out.box.lt; omega) (Blk.new w5 3 [.int .i64 (r : Nat), .int .i64 (r5 : Nat)]) (fun y hy => by
            simp only [List.mem_cons, List.not_mem_nil, or_false] at hy
            rcases hy with rfl | rfl
            · exact ⟨by omega, by omega⟩
            · exact ⟨by omega, by omega⟩) (by simp)
          have y5 : Ext w5 (w5.alloc (.cells #[.int .i64 (r : Nat), .int .i64 (r5 : Nat)] 3)) := (by repeat (with_reducible (first | assumption | exact Ext.refl _ | apply Ext.alloc | apply Ext.drew | apply Ext.drewN)))
          have HU := hid hl
          have HY := hid y5
          clear hl y5
          go_wp2_with fail
          refine (sEmit_any (HP6.out.ext HY.out) (by omega) ⟨o, ⟨#[]⟩, 0, [(r : Int), (r5 : Int)]⟩ (.slice (some ⟨w5.heap.size, 0, none⟩) 2 2) HU.out (fun j hj hx => by
            have e : w5.heap.size = j := by simpa [Value.ownBlock] using hj
            have := HP6.out.xlt j hx
            omega) (NdG.of ⟨by omega, by omega⟩ ⟨by omega, by omega⟩ (by decide) (by simp))).mono ?_
          rintro e w7 ⟨r7, q7, ns7, z7, nv7, rfl, hr7, P7, K7, hz7, -⟩
          have HP7 := hid P7
          have HK7 := hid ((HK6.out.ext HY.out).trans K7)
          have hz8 : 0 ≤ z7 ∨ (z7 = bad ∧ q + 2 ≤ q7) := hz7.imp id (fun h => ⟨h.2.2.1.trans (zb5.trans zb), by omega⟩)
          clear P7 K7 hz7
          go_wp2
          go_roundw
          case rel => exact ⟨r7, q7, ns7, z7, nv7, rfl, hr7, HP7.out, HK7.out, hz8.imp id (fun h => ⟨h.1, by omega⟩), fun x hx => (hno x hx).elim⟩
          case measure =>
            rw [HP7.out.msr, HP2.out.msr, if_neg (show ¬ (0 ≤ z) by omega)]
            split
            · omega
            · have := HP7.out.here
              omega
    · go_wp2
      go_ret
      exact ⟨r, q, ns', z, nv', rfl, hr, HP2.out, HK2.out, hz, HX2.out⟩
end Go.Proofs.YtaegmenjgjdimaaGreat
end

section
/- This text proves the parser's calls, and all its recursive functions together. -/
namespace Go.Proofs.YtaegmenjgjdimaaGreat
open Go.RowKit

/-- append of one integer to an owned row: where the row lies then -/
theorem wpList_append1_at (w : World) {ops : Array Oper} {rest : List Oper} {o : Oper} {a : Act} {Q : Exit → Act → World → Prop} (hg : o.guard = none) (s x : Operand)
    (hop : o.op = Op.call { callee := Callee.builtin Builtin.append, args := #[s, x], argTypes := #[29, 29] }) (lo : Nat) (v : Value) (xs : List Int) (hs : a.eval s = v) (hown : OwnInts lo w v xs)
    (y : Int) (hy : I64 y) (b : Nat) (hx : a.eval x = .slice (some ⟨b, 0, none⟩) 1 1) (hcell : w.cell? ⟨b, 0, none⟩ = some (.int .i64 y)) (hlen : xs.length < 1000000000) (hlo : lo ≤ w.heap.size)
    (hK : ∀ v' w', OwnInts lo w' v' (xs ++ [y]) → w.grownBy w' v.ownBlock → (v'.ownBlock = v.ownBlock ∨ v'.ownBlock = some w.heap.size) → wpList Tryz.prog ops Q rest (a.put o.dst v') w') : wpList Tryz.prog ops Q (o :: rest) a w := by
  obtain ⟨i0, hi0, hz0, hz1, hz2⟩ := info_parts info_int
  refine wpList_append_own_at w hg s x 29 hop lo 3 i0 (.int .i64 0) 1 8 Tryz.underlying29 hi0 hz0 hz1 hz2 rfl (by decide) v xs.length _ hs hown.1 ⟨b, 0, none⟩ 1 1 [.int .i64 y] hx rfl ?_ ?_ ?_ ?_ hlo ?_
  · intro j u hj
    match j, hj with
    | 0, hj => simp at hj; subst hj; exact hcell
  · intro u hu; simp at hu; subst hu; rfl
  · unfold maxLen; omega
  · omega
  · intro v' w1 hown' hgrow _ hat
    refine hK v' w1 ⟨by simpa using hown', fun z hz => ?_⟩ hgrow hat
    rcases List.mem_append.1 hz with h | h
    · exact hown.2 z h
    · simp at h; rw [h]; exact hy
theorem KN.grownNew {lo B : Nat} {e : TypeId} {w w1 w2 : World} {row : Option Nat} (h : KN lo B e w w1) (hg : w1.grownBy w2 row) (hr : ∀ k, row = some k → w.heap.size ≤ k) : KN lo B e w w2 :=
  ⟨hg.os.trans h.os, hg.tape.trans h.tape, hg.output.trans h.output, Nat.le_trans h.size hg.size, fun b hb hn => (hg.block b (Nat.lt_of_lt_of_le hb h.size) (fun e1 => by have := hr b e1.symm; omega)).trans (h.block b hb hn)⟩
/-- X and the block of v -/
def XV (X : Nat → Prop) (v : Value) : Nat → Prop := fun b => X b ∨ v.ownBlock = some b
theorem Pst.reX {lo B : Nat} {X Y : Nat → Prop} {tk : List Tok} {gs : List Asg} {w : World} {k : Nat} {ns : List Nd} {bad : Int} {tv nv gv : Value} (h : Pst lo X B tk gs w k ns bad tv nv gv) (hx : ∀ k, k < w.heap.size → ¬ X k → ¬ Y k) (hl : ∀ b, Y b → b < w.heap.size) : Pst lo Y B tk gs w k ns bad tv nv gv :=
  ⟨h.box, h.low, h.toks, h.nds.other hx, h.asgs, h.ends, h.here, h.len, h.good, h.b64, hl⟩
theorem Pst.unV {lo B : Nat} {X : Nat → Prop} {tk : List Tok} {gs : List Asg} {w : World} {k : Nat} {ns : List Nd} {bad : Int} {tv nv gv v : Value} (h : Pst lo (XV X v) B tk gs w k ns bad tv nv gv) : Pst lo X B tk gs w k ns bad tv nv gv :=
  h.reX (fun _ _ hn hx => hn (.inl hx)) (fun b hb => h.xlt b (.inl hb))
theorem Pst.addV {lo B : Nat} {X : Nat → Prop} {tk : List Tok} {gs : List Asg} {w w' : World} {k : Nat} {ns : List Nd} {bad : Int} {tv nv gv v : Value} (h : Pst lo X B tk gs w k ns bad tv nv gv) (x : Ext w w') (hv : ∀ b, v.ownBlock = some b → w.heap.size ≤ b ∧ b < w'.heap.size) : Pst lo (XV X v) B tk gs w' k ns bad tv nv gv :=
  ⟨h.box.ext x, h.low, OwnG.ext h.toks x, (h.nds.other (Y := XV X v) (fun k hk hn hx => hx.elim hn fun e => by have := (hv k e).1; omega)).ext x, OwnG.ext h.asgs x, h.ends, h.here, h.len, h.good, h.b64, fun b hb => hb.elim (fun hb => Nat.lt_of_lt_of_le (h.xlt b hb) x.size) (fun e => (hv b e).2)⟩
theorem Pst.notBox {lo B : Nat} {X : Nat → Prop} {tk : List Tok} {gs : List Asg} {w : World} {k : Nat} {ns : List Nd} {bad : Int} {tv nv gv : Value} (h : Pst lo X B tk gs w k ns bad tv nv gv) {e : TypeId} (he : e ≠ 143) : ∀ c, w.heap[B]? ≠ some (.cells c e (0, 0)) := fun c hc => by
  have := h.box
  unfold Blk at this
  rw [this] at hc
  simp only [Option.some.injEq, Obj.cells.injEq] at hc
  exact he hc.2.1.symm
theorem OwnG.grownI {α : Type} {cs : α → List Value} {lo sz : Nat} {e e' : TypeId} {w w' : World} {v : Value} {xs : List α} {row : Option Nat} (h : OwnG cs lo e sz w v xs) (hg : w.grownBy w' row) (he : e ≠ e') (hr : ∀ k, row = some k → ∃ c, w.heap[k]? = some (.cells c e' (0, 0))) : OwnG cs lo e sz w' v xs :=
  h.of fun b c _ hb => (hg.block b (Array.getElem?_eq_some_iff.1 hb).1 fun e1 => by
    obtain ⟨c', hc'⟩ := hr b e1.symm
    rw [hb] at hc'
    simp only [Option.some.injEq, Obj.cells.injEq] at hc'
    exact he hc'.2.1).trans hb
/-- the row of integers v grew into v' -/
theorem Pst.grownV {lo l2 B : Nat} {X : Nat → Prop} {tk : List Tok} {gs : List Asg} {w w' : World} {k : Nat} {ns : List Nd} {bad : Int} {tv nv gv v v' : Value} {xs ys : List Int} (h : Pst lo (XV X v) B tk gs w k ns bad tv nv gv) (hu : OwnInts l2 w v xs) (hu' : OwnInts l2 w' v' ys) (hg : w.grownBy w' v.ownBlock) (hat : v'.ownBlock = v.ownBlock ∨ v'.ownBlock = some w.heap.size) : Pst lo (XV X v') B tk gs w' k ns bad tv nv gv := by
  have hr : ∀ k, v.ownBlock = some k → ∃ c, w.heap[k]? = some (.cells c 3 (0, 0)) := fun k hk => hu.block hk
  refine ⟨h.box.grown hg (fun e => ?_), h.low, OwnG.grownI h.toks hg (by decide) hr, ?_, OwnG.grownI h.asgs hg (by decide) hr, h.ends, h.here, h.len, h.good, h.b64, fun b hb => hb.elim (fun hb => Nat.lt_of_lt_of_le (h.xlt b (.inl hb)) hg.size) (fun e => (hu'.lt b e).2)⟩
  · obtain ⟨c, hc⟩ := hr B e.symm
    exact h.notBox (by decide) c hc
  · have h1 := h.nds.other (Y := fun b => XV X v b ∨ v'.ownBlock = some b) (fun k hk hn hx => hx.elim hn fun e => by
      rcases hat with ha | ha
      · exact hn (.inr (ha.symm.trans e))
      · rw [ha] at e
        cases e
        omega)
    exact (h1.grownI hg (fun k hk => ⟨.inl (.inr hk), hr k hk⟩)).other (fun k _ hn hx => hn (hx.elim (fun h => .inl (.inl h)) .inr))
/-- the length of a slice -/
def lenOf : Value → Nat
  | .slice _ n _ => n
  | _ => 0
set_option maxRecDepth 20000 in
set_option maxHeartbeats 3200000 in
theorem sCall_of {lo B : Nat} {tk : List Tok} {gs : List Asg} {tv gv : Value} (m : Nat) (hE : PCE lo B tk gs tv gv m) : PCC lo B tk gs tv gv m := by
  intro X w k ns bad nv name d h hbad hk1 hm hd0 hd hname
  have HP := hid h
  have HE := hid hE
  have zlo := h.low
  have hk := h.here
  have zB := h.box.lt
  obtain ⟨t, ht, _⟩ := h.ends.at h.here
  have HT := hid ht
  clear hE ht
  have x1 : Ext w (w.alloc (.cells #[] 3)) := (by repeat (with_reducible (first | assumption | exact Ext.refl _ | apply Ext.alloc | apply Ext.drew | apply Ext.drewN)))
  have hu1 : OwnInts w.heap.size (w.alloc (.cells #[] 3)) (.slice (some ⟨w.heap.size, 0, none⟩) 0 0) [] := OwnInts.fresh0 (Nat.le_refl _) (Blk.new w 3 [])
  have hv1 : ∀ b, (Value.slice (some ⟨w.heap.size, 0, none⟩) 0 0).ownBlock = some b → w.heap.size ≤ b ∧ b < (w.alloc (.cells #[] 3)).heap.size := fun b hb => hu1.lt b hb
  have HP1 := hid (h.addV x1 hv1)
  have HX1 := hid x1
  have HU1 := hid hu1
  clear x1 hu1 hv1 h
  go_enter Tryz.func149, Tryz.ntmps149
  go_wp2_with fail
  refine (sPeek_any HP1.out HT.out).mono ?_
  rintro e w2 ⟨rfl, x2⟩
  have HX2 := hid (HX1.out.trans x2)
  have HU2 := hid (HU1.out.ext x2)
  have HP2 := hid (HP1.out.ext x2)
  have HK2 := hid (HX2.out.kn lo B 79)
  clear x2 HX1 HU1 HP1
  by_cases h41 : ((peekB t).toList == [41]) = true
  · go_wp2_with fail
    refine (sExpect_any HP2.out HT.out ⟨#[41]⟩ (by decide)).mono ?_
    rintro e w4 ⟨b, q4, z4, rfl, P4, K4, hb1, hb2, -⟩
    have HU4 := hid (KN.ints HU2.out K4 (HP2.out.notBox (by decide)) (by decide))
    have HK4 := hid (HK2.out.trans K4)
    have HP4 := hid P4
    clear P4 K4
    cases b
    · have := hb2 rfl
      go_wp2
      go_ret
      exact ⟨0, q4, ns, z4, nv, rfl, by omega, HP4.out.unV, HK4.out, .inl this⟩
    · obtain ⟨rfl, rfl⟩ := hb1 rfl
      go_wp2_with fail
      refine (sEmit_any HP4.out.unV (by omega) ⟨8, name, 0, []⟩ (.slice (some ⟨w.heap.size, 0, none⟩) 0 0) (HU4.out.low (by omega)) (fun j hj hx => by
        have := (HU4.out.lt j hj).1
        have := HP.out.xlt j hx
        omega) (NdG.of ⟨by omega, by omega⟩ ⟨by omega, by omega⟩ hname (by simp))).mono ?_
      rintro e w5 ⟨r5, q5, ns5, z5, nv5, rfl, hr5, P5, K5, hz5, -⟩
      have HP5 := hid P5
      have HK5 := hid (HK4.out.trans K5)
      clear P5 K5
      go_wp2
      go_ret
      exact ⟨r5, q5, ns5, z5, nv5, rfl, hr5, HP5.out, HK5.out, hz5.imp id (fun h => ⟨h.2.2.1, by omega⟩)⟩
  · have e41 : ((peekB t).toList == [41]) = false := by simpa using h41
    clear h41
    go_wp2_with fail
    go_loopw [7] (fun v wr => ∃ (q : Nat) (xs : List Int) (ns' : List Nd) (nv' : Value), OwnInts w.heap.size wr v xs ∧ xs.length ≤ 3 ∧ Pst lo (XV X v) B tk gs wr q ns' bad tv nv' gv ∧ KN lo B 79 w wr ∧ k ≤ q) (fun v _ => 3 - lenOf v)
    case atStart => exact ⟨k, [], ns, nv, HU2.out, by simp, HP2.out, HK2.out, Nat.le_refl _⟩
    case round =>
      obtain ⟨q, xs, ns', nv', U, hxl, P, K, hkq⟩ := hrel
      obtain ⟨va, vc, rfl, -⟩ := U.form
      have HU3 := hid U
      have HP3 := hid P
      have HK3 := hid K
      clear U P K HP2 HU2 HK2 HX2 e41 HT
      by_cases h3 : xs.length = 3
      · go_wp2_with fail
        refine (sFail_any HP3.out).mono ?_
        rintro e w4 ⟨z4, rfl, hz, P4, K4⟩
        have HP4 := hid P4.unV
        have HK4 := hid (HK3.out.trans K4)
        clear P4 K4
        go_wp2
        go_ret
        exact ⟨0, q, ns', z4, nv', rfl, by omega, HP4.out, HK4.out, .inl hz⟩
      · have h3' : ¬ ((xs.length : Nat) : Int) = 3 := by omega
        have hq := HP3.out.here
        go_wp2_with fail
        refine (HE.out _ wr q ns' bad nv' d HP3.out hbad (by omega) (by omega) hd0 hd).mono ?_
        rintro e w4 ⟨r, q4, ns4, z4, nv4, rfl, hr, P4, K4, hz4, -⟩
        have HU4 := hid (KN.ints HU3.out K4 (HP3.out.notBox (by decide)) (by decide))
        have HK4 := hid (HK3.out.trans K4)
        have HP4 := hid P4
        have c4 := P4.box.cell 4 rfl
        clear P4 K4
        by_cases hz40 : 0 ≤ z4
        · go_wp2
          go_ret
          exact ⟨0, q4, ns4, z4, nv4, rfl, by omega, HP4.out.unV, HK4.out, .inl hz40⟩
        · obtain ⟨rfl, hq4⟩ := hz4.resolve_left hz40
          have y4 : Ext w4 (w4.alloc (.cells #[.int .i64 (r : Nat)] 3)) := (by repeat (with_reducible (first | assumption | exact Ext.refl _ | apply Ext.alloc | apply Ext.drew | apply Ext.drewN)))
          have b4 := Blk.new w4 3 [.int .i64 (r : Nat)]
          have zw := HK4.out.size
          have HY := hid y4
          have HB := hid b4
          have HU5 := hid (HU4.out.ext y4)
          have HP5 := hid (HP4.out.ext y4)
          have HK5 := hid (HK4.out.ext y4)
          have zy := y4.size
          clear y4 b4
          go_wp2_with (at_builtin; refine wpList_append1_at _ rfl _ _ rfl w.heap.size (.slice va xs.length vc) xs rfl HU5.out (r : Nat) ⟨by omega, by omega⟩ w4.heap.size rfl (HB.out.cell 0 rfl) (by omega) (by omega) ?_; intro v' w6 hown hg hat)
          have HU6 := hid hown
          have HP6 := hid (HP5.out.grownV HU5.out hown hg hat)
          have HK6 := hid (HK5.out.grownNew hg (fun k hk => (HU5.out.lt k hk).1))
          obtain ⟨va', vc', hv', -⟩ := hown.form
          have hll : (xs ++ [(r : Int)]).length = xs.length + 1 := by simp
          rw [hll] at hv'
          subst hv'
          clear hown hg hat
          obtain ⟨t6, ht6, _, _, _, _, _, hkl⟩ := HP6.out.ends.at HP6.out.here
          have HT6 := hid ht6
          clear ht6
          refine (sPeek_any HP6.out HT6.out).mono ?_
          rintro e w7 ⟨rfl, x7⟩
          have HU7 := hid (HU6.out.ext x7)
          have HP7 := hid (HP6.out.ext x7)
          have HK7 := hid (HK6.out.ext x7)
          clear x7 HU6 HP6 HK6
          have c1 := HP7.out.box.cell 1 rfl
          have f1 := HP7.out.box.free 1
          have k7 := HP7.out.k3000
          by_cases h44 : ((peekB t6).toList == [44]) = true
          · have hp : peekB t6 = ⟨#[44]⟩ := ByteArray.ext (Array.ext' (by rw [← Lib.toList_data]; exact beq_iff_eq.1 h44))
            have hk3 := (peekB_ne hp (by decide)).1
            have hkk := hkl (by omega)
            have HP8 := hid (HP7.out.step hkk)
            have HU8 := hid (HU7.out.setOther (a := ⟨B, 1, none⟩) (fun e => by
              obtain ⟨c, hc⟩ := HU7.out.block e
              exact HP7.out.notBox (by decide) c hc) (.int .i64 ((q4 : Int) + 1)))
            have HK8 := hid (HK7.out.set zlo 1 (.int .i64 ((q4 : Int) + 1)))
            clear hp hkl
            go_wp2
            go_roundw
            case rel => exact ⟨q4 + 1, xs ++ [(r : Int)], ns4, nv4, HU8.out, by omega, HP8.out, HK8.out, by omega⟩
            case measure => simp only [lenOf]; omega
          · have e44 : ((peekB t6).toList == [44]) = false := by simpa using h44
            clear h44 hkl
            go_wp2_with fail
            refine (sExpect_any HP7.out HT6.out ⟨#[41]⟩ (by decide)).mono ?_
            rintro e w8 ⟨b, q8, z8, rfl, P8, K8, hb1, hb2, -⟩
            have HU8 := hid (KN.ints HU7.out K8 (HP7.out.notBox (by decide)) (by decide))
            have HK8 := hid (HK7.out.trans K8)
            have HP8 := hid P8
            clear P8 K8 c1 f1
            cases b
            · have := hb2 rfl
              go_wp2
              go_ret
              exact ⟨0, q8, ns4, z8, nv4, rfl, by omega, HP8.out.unV, HK8.out, .inl this⟩
            · obtain ⟨rfl, rfl⟩ := hb1 rfl
              go_wp2_with fail
              refine (sEmit_any HP8.out.unV (by omega) ⟨8, name, 0, xs ++ [(r : Int)]⟩ (.slice va' (xs.length + 1) vc') (HU8.out.low (by omega)) (fun j hj hx => by
                have := (HU8.out.lt j hj).1
                have := HP.out.xlt j hx
                omega) (NdG.of ⟨by omega, by omega⟩ ⟨by omega, by omega⟩ hname (by omega))).mono ?_
              rintro e w9 ⟨r9, q9, ns9, z9, nv9, rfl, hr9, P9, K9, hz9, -⟩
              have HP9 := hid P9
              have HK9 := hid (HK8.out.trans K9)
              clear P9 K9
              go_wp2
              go_ret
              exact ⟨r9, q9, ns9, z9, nv9, rfl, hr9, HP9.out, HK9.out, hz9.imp id (fun h => ⟨h.2.2.1, by omega⟩)⟩
/-- a contract for so many tokens serves fewer -/
theorem PCF.le {lo B : Nat} {tk : List Tok} {gs : List Asg} {tv gv : Value} {m n : Nat} (h : PCF lo B tk gs tv gv m) (hn : n ≤ m) : PCF lo B tk gs tv gv n := fun X w k ns bad nv d hp hb hk hm => h X w k ns bad nv d hp hb hk (by omega)
theorem sParts_all {lo B : Nat} {tk : List Tok} {gs : List Asg} {tv gv : Value} : ∀ m, PCF lo B tk gs tv gv m ∧ PCE lo B tk gs tv gv m
  | 0 => by
    have hF : PCF lo B tk gs tv gv 0 := fun X w k ns bad nv d hp hb hk hm => by
      have := hp.here
      omega
    exact ⟨hF, sExpression_of 0 (sBinary_of 0 true (sOperandT_of 0 (sBinary_of 0 false (sOperandF_of 0 hF))))⟩
  | m + 1 => by
    obtain ⟨hF, hE⟩ := sParts_all (lo := lo) (B := B) (tk := tk) (gs := gs) (tv := tv) (gv := gv) m
    have hF1 := sFactor_of m hF hE (sCall_of m hE)
    exact ⟨hF1, sExpression_of _ (sBinary_of _ true (sOperandT_of _ (sBinary_of _ false (sOperandF_of _ hF1))))⟩
/-- the expression at a token -/
theorem sExpression_any {lo B : Nat} {X : Nat → Prop} {tk : List Tok} {gs : List Asg} {w : World} {k : Nat} {ns : List Nd} {bad : Int} {tv nv gv : Value} (h : Pst lo X B tk gs w k ns bad tv nv gv) (hb : bad < 0) (hk : 1 ≤ k) (d : Int) (hd0 : 0 ≤ d) (hd : d ≤ 65) :
    Calls Tryz.prog 73 #[.pointer (some ⟨B, 0, none⟩), .int .i64 d] w (PRes lo X B tk gs tv gv 1 w k ns bad d) :=
  (sParts_all (tk.length - k)).2 X w k ns bad nv d h hb hk (Nat.le_refl _) hd0 hd
end Go.Proofs.YtaegmenjgjdimaaGreat
end

section
/- This text says how the parser's rows read as a program, and what the parser does with the text "color = u;". -/
namespace Go.Proofs.YtaegmenjgjdimaaGreat
open Go.RowKit

theorem OwnNds.nds {lo l2 : Nat} {X : Nat → Prop} {w : World} {v : Value} {xs : List Nd} (h : OwnNds lo X w v xs) (hl : l2 ≤ lo) (hg : ∀ x ∈ xs, NdG x) : Nds l2 w.heap.size w v xs := by
  obtain ⟨a, c, rfl, _⟩ := h.form
  obtain ⟨ps, rfl, h1, h2⟩ := h
  have hc : (List.map (·.1) ps).length ≤ c ∧ c ≤ maxLen := by
    rcases h1.2 with ⟨e, h4⟩ | ⟨g, cap, cur, e, hb, hh, hc, hm, _⟩
    · simp only [Value.slice.injEq] at e
      obtain ⟨rfl, e2, rfl⟩ := e
      exact ⟨by omega, by unfold maxLen; omega⟩
    · simp only [Value.slice.injEq] at e
      obtain ⟨rfl, e2, rfl⟩ := e
      exact ⟨by omega, hm⟩
  refine ⟨a, c, rfl, hc.1, hc.2, fun i x hx => ?_⟩
  obtain ⟨p, hp, rfl⟩ := List.getElem?_map .. ▸ hx |> fun h => by
    rw [Option.map_eq_some_iff] at h
    exact h
  obtain ⟨g, cap, e, g1, g2, _, _, _, hcell⟩ := h1.at (fun _ => rfl) hp
  simp only [Value.slice.injEq] at e
  obtain ⟨rfl, _, rfl⟩ := e
  have hm := List.mem_of_getElem? hp
  have G := hg p.1 (List.mem_map.2 ⟨p, hm, rfl⟩)
  have c0 := hcell 0 (by decide)
  have c1 := hcell 1 (by decide)
  have c2 := hcell 2 (by decide)
  have c3 := hcell 3 (by decide)
  simp only [ndCs, Nat.add_zero, List.getElem?_cons_zero, List.getElem?_cons_succ] at c0 c1 c2 c3
  exact ⟨⟨G.1, G.2.1⟩, g, 0, p.2, rfl, by omega, g2, by rw [Nat.zero_add]; exact c0, by rw [Nat.zero_add]; exact c1, by rw [Nat.zero_add]; exact c2, by rw [Nat.zero_add]; exact c3, ((h2 p hm).1.low hl).ints⟩
theorem OwnAsgs.asgs {lo l2 : Nat} {w : World} {v : Value} {xs : List Asg} (h : OwnAsgs lo w v xs) (hl : l2 ≤ lo) (hg : ∀ x ∈ xs, I64 x.root) : Asgs l2 w.heap.size w v xs := by
  obtain ⟨a, c, rfl, _⟩ := OwnG.form h
  have hc : xs.length ≤ c ∧ c ≤ maxLen := by
    rcases h.2 with ⟨e, h4⟩ | ⟨g, cap, cur, e, hb, hh, hc, hm, _⟩
    · simp only [Value.slice.injEq] at e
      obtain ⟨rfl, e2, rfl⟩ := e
      exact ⟨by omega, by unfold maxLen; omega⟩
    · simp only [Value.slice.injEq] at e
      obtain ⟨rfl, e2, rfl⟩ := e
      exact ⟨hc, hm⟩
  refine ⟨a, c, rfl, hc.1, hc.2, fun i x hx => ?_⟩
  obtain ⟨g, cap, e, g1, g2, _, _, _, hcell⟩ := OwnG.at h (fun _ => rfl) hx
  simp only [Value.slice.injEq] at e
  obtain ⟨rfl, _, rfl⟩ := e
  have c0 := hcell 0 (by decide)
  have c1 := hcell 1 (by decide)
  simp only [Asg.cs, Nat.add_zero, List.getElem?_cons_zero, List.getElem?_cons_succ] at c0 c1
  exact ⟨hg x (List.mem_of_getElem? hx), g, 0, rfl, by omega, g2, by rw [Nat.zero_add]; exact c0, by rw [Nat.zero_add]; exact c1⟩
/-- what is asked of an assignment under way -/
def AsgG (x : Asg) : Prop := I64 x.root ∧ x.name.size ≤ 2000
theorem Pst.prog {lo l2 B : Nat} {X : Nat → Prop} {tk : List Tok} {gs : List Asg} {w : World} {k : Nat} {ns : List Nd} {bad : Int} {tv nv gv : Value} (h : Pst lo X B tk gs w k ns bad tv nv gv) (hl : l2 ≤ lo) (hg : ∀ x ∈ gs, AsgG x) : (⟨ns, gs⟩ : Prg).R l2 w.heap.size w (.agg #[nv, gv]) :=
  ⟨nv, gv, rfl, h.nds.nds hl h.good, OwnAsgs.asgs h.asgs hl fun x hx => (hg x hx).1⟩
theorem Pst.bd {lo B : Nat} {X : Nat → Prop} {tk : List Tok} {gs : List Asg} {w : World} {k : Nat} {ns : List Nd} {bad : Int} {tv nv gv : Value} (h : Pst lo X B tk gs w k ns bad tv nv gv) (hg : ∀ x ∈ gs, AsgG x) : (⟨ns, gs⟩ : Prg).bd :=
  ⟨fun x hx => by have := (h.good x hx).2.2.1; unfold maxLen; omega, fun x hx => by have := (hg x hx).2; unfold maxLen; omega⟩
theorem Pst.small {lo B : Nat} {X : Nat → Prop} {tk : List Tok} {gs : List Asg} {w : World} {k : Nat} {ns : List Nd} {bad : Int} {tv nv gv : Value} (h : Pst lo X B tk gs w k ns bad tv nv gv) (hg : gs.length ≤ 4000) : (⟨ns, gs⟩ : Prg).small :=
  ⟨⟨by have := h.len; show ns.length ≤ _; omega, fun x hx => by have := (h.good x hx).2.2.2; omega⟩, by show gs.length ≤ _; omega⟩
theorem Prg.rNone (lo hi : Nat) (w : World) : (⟨[], []⟩ : Prg).R lo hi w (.agg #[.slice Option.none 0 0, .slice Option.none 0 0]) :=
  ⟨.slice Option.none 0 0, .slice Option.none 0 0, rfl, ⟨Option.none, 0, rfl, Nat.le_refl _, Nat.zero_le _, (fun i x h => by simp at h)⟩, ⟨Option.none, 0, rfl, Nat.le_refl _, Nat.zero_le _, (fun i x h => by simp at h)⟩⟩
theorem Prg.bd_none : (⟨[], []⟩ : Prg).bd := ⟨(fun _ h => nomatch h), (fun _ h => nomatch h)⟩
theorem Prg.small_none : (⟨[], []⟩ : Prg).small := ⟨⟨Nat.zero_le _, (fun _ h => nomatch h)⟩, Nat.zero_le _⟩
/-- the program "color = u;" -/
def cuN : Nd := ⟨2, ⟨#[117]⟩, 0, []⟩
def cuA : Asg := ⟨⟨#[99, 111, 108, 111, 114]⟩, 0⟩
def cuP : Prg := ⟨[cuN], [cuA]⟩
def cuK : List Tok := cuT ++ [⟨0, ⟨#[]⟩, 0, 10⟩]
/-- how far the parser is with "color = u;" ahead of an assignment -/
def CuP (q : Nat) (ns : List Nd) (gs : List Asg) : Prop := (q = 0 ∧ ns = [] ∧ gs = []) ∨ (q = 4 ∧ ns = [cuN] ∧ gs = [cuA])
theorem CuP.name {q : Nat} {ns : List Nd} {gs : List Asg} (h : CuP q ns gs) {t : Tok} (ht : cuK[q]? = some t) (hk : t.kind ≠ 0) : q = 0 ∧ ns = [] ∧ gs = [] ∧ t.kind = 2 ∧ t.text = cuA.name := by
  rcases h with ⟨rfl, h1, h2⟩ | ⟨rfl, h1, h2⟩
  · have e : t = ⟨2, ⟨#[99, 111, 108, 111, 114]⟩, 0, 0⟩ := by
      have : cuK[0]? = some ⟨2, ⟨#[99, 111, 108, 111, 114]⟩, 0, 0⟩ := rfl
      rw [this] at ht
      exact (Option.some.inj ht).symm
    subst e
    exact ⟨rfl, h1, h2, rfl, rfl⟩
  · have e : t = ⟨0, ⟨#[]⟩, 0, 10⟩ := by
      have : cuK[4]? = some ⟨0, ⟨#[]⟩, 0, 10⟩ := rfl
      rw [this] at ht
      exact (Option.some.inj ht).symm
    subst e
    exact absurd rfl hk
theorem CuP.done {q : Nat} {ns : List Nd} {gs : List Asg} (h : CuP q ns gs) {t : Tok} (ht : cuK[q]? = some t) (hk : t.kind = 0) : (⟨ns, gs⟩ : Prg) = cuP := by
  rcases h with ⟨rfl, h1, h2⟩ | ⟨rfl, h1, h2⟩
  · have e : t = ⟨2, ⟨#[99, 111, 108, 111, 114]⟩, 0, 0⟩ := by
      have : cuK[0]? = some ⟨2, ⟨#[99, 111, 108, 111, 114]⟩, 0, 0⟩ := rfl
      rw [this] at ht
      exact (Option.some.inj ht).symm
    subst e
    exact absurd hk (by decide)
  · subst h1 h2
    rfl
theorem cu_eq {t : Tok} (ht : cuK[1]? = some t) : peekB t = ⟨#[61]⟩ := by
  have : cuK[1]? = some ⟨3, ⟨#[61]⟩, 0, 6⟩ := rfl
  rw [this] at ht
  cases ht
  rfl
theorem cu_semi {t : Tok} (ht : cuK[3]? = some t) : peekB t = ⟨#[59]⟩ := by
  have : cuK[3]? = some ⟨3, ⟨#[59]⟩, 0, 9⟩ := rfl
  rw [this] at ht
  cases ht
  rfl
theorem cu_lone : LoneT cuK 2 [] 1 ⟨#[117]⟩ := ⟨⟨2, ⟨#[117]⟩, 0, 8⟩, ⟨3, ⟨#[59]⟩, 0, 9⟩, rfl, rfl, rfl, rfl, rfl, by decide, by decide⟩
/-- what is asked of the parser's answer -/
def ParseR (s : ByteArray) (w : World) (e : Ending) (w' : World) : Prop := ∃ (p : Prg) (v : Value) (n : Int), e = .returned (.tuple #[v, .int .i64 n]) ∧ p.R w.heap.size w'.heap.size w' v ∧ p.bd ∧ p.small ∧ Ext w w' ∧ (s = cuS → p = cuP)
end Go.Proofs.YtaegmenjgjdimaaGreat
end

section
/- This text proves the reference's Parse: the answer is a program of small size, and it is known at the text "color = u;". -/
namespace Go.Proofs.YtaegmenjgjdimaaGreat
open Go.RowKit

/-- the cells of block b -/
def CBk (b : Nat) : Addr → Prop := fun a => a.block = b
@[go_sem] theorem CBk_1 (b o : Nat) : CBk b ⟨b, o, none⟩ := rfl
theorem Ints.low {lo l2 hi : Nat} {w : World} {v : Value} {xs : List Int} (h : Ints lo hi w v xs) (hl : l2 ≤ lo) : Ints l2 hi w v xs := by
  obtain ⟨a, cap, h1, h2, h3, h4⟩ := h
  refine ⟨a, cap, h1, h2, h3, fun i x hx => ?_⟩
  obtain ⟨g1, b, off, g2, g3, g4⟩ := h4 i x hx
  exact ⟨g1, b, off, g2, by omega, g4⟩
theorem Prg.R.low {p : Prg} {lo l2 hi h2 : Nat} {w : World} {v : Value} (h : p.R lo hi w v) (hl : l2 ≤ lo) (hh : hi ≤ h2) : p.R l2 h2 w v := by
  obtain ⟨nu, au, rfl, ⟨a, c, e1, e2, e3, e4⟩, ⟨a', c', f1, f2, f3, f4⟩⟩ := h
  refine ⟨nu, au, rfl, ⟨a, c, e1, e2, e3, fun i x hx => ?_⟩, ⟨a', c', f1, f2, f3, fun i x hx => ?_⟩⟩
  · obtain ⟨g1, b, off, u, g2, g3, g4, g5, g6, g7, g8, g9⟩ := e4 i x hx
    obtain ⟨ia, ic, i1, i2, i3, i4⟩ := g9
    exact ⟨g1, b, off, u, g2, by omega, by omega, g5, g6, g7, g8, ia, ic, i1, i2, i3, fun j y hy => by
      obtain ⟨j1, jb, jo, j2, j3, j4, j5⟩ := i4 j y hy
      exact ⟨j1, jb, jo, j2, by omega, by omega, j5⟩⟩
  · obtain ⟨g1, b, off, g2, g3, g4, g5, g6⟩ := f4 i x hx
    exact ⟨g1, b, off, g2, by omega, by omega, g5, g6⟩
theorem Same.trans {lo hi : Nat} {a b c : World} (h : Same lo hi a b) (k : Same lo hi b c) : Same lo hi a c := fun i h1 h2 => (k i h1 h2).trans (h i h1 h2)
theorem OwnG.row {α : Type} {cs : α → List Value} {lo : Nat} {e : TypeId} {sz : Nat} {w : World} {v : Value} {xs : List α} (h : OwnG cs lo e sz w v xs) : ∀ k, v.ownBlock = some k → lo ≤ k ∧ ∃ c, w.heap[k]? = some (.cells c e (0, 0)) := by
  intro k hk
  rcases h.2 with ⟨rfl, h4⟩ | ⟨g, cap, cur, rfl, hb, hg, _⟩
  · cases hk
  · simp only [Value.ownBlock, Option.some.injEq] at hk
    subst hk
    exact ⟨hb, cur, hg⟩
theorem OwnNds.grownO {lo : Nat} {X : Nat → Prop} {w w' : World} {v : Value} {xs : List Nd} {row : Option Nat} {e : TypeId} (h : OwnNds lo X w v xs) (hg : w.grownBy w' row) (h1 : 79 ≠ e) (h2 : 3 ≠ e) (hr : ∀ k, row = some k → ∃ c, w.heap[k]? = some (.cells c e (0, 0))) : OwnNds lo X w' v xs := by
  obtain ⟨ps, h0, h3, h4⟩ := h
  refine ⟨ps, h0, OwnG.grownI h3 hg h1 hr, fun p hp => ⟨(h4 p hp).1.grown hg fun k hk e => ?_, (h4 p hp).2⟩⟩
  obtain ⟨c, hc⟩ := (h4 p hp).1.block hk
  obtain ⟨c', hc'⟩ := hr k e.symm
  rw [hc] at hc'
  simp only [Option.some.injEq, Obj.cells.injEq] at hc'
  exact h2 hc'.2.1
/-- the assignments grew -/
theorem Pst.setGs {lo B : Nat} {X : Nat → Prop} {tk : List Tok} {gs gs' : List Asg} {w w' : World} {k : Nat} {ns : List Nd} {bad : Int} {tv nv gv gv' : Value} (h : Pst lo X B tk gs w k ns bad tv nv gv) (hg : w.grownBy w' gv.ownBlock) (hn : OwnAsgs lo w' gv' gs') : Pst lo X B tk gs' (w'.setCell ⟨B, 3, none⟩ gv') k ns bad tv nv gv' := by
  have hr := fun k hk => (OwnG.row h.asgs k hk).2
  have hb := h.box.grown hg (fun e => by
    obtain ⟨c, hc⟩ := hr B e.symm
    exact h.notBox (by decide) c hc)
  exact ⟨hb.set 3 _, h.low, OwnG.set (OwnG.grownI h.toks hg (by decide) hr) hb (by decide) 3 _, OwnNds.set (h.nds.grownO hg (by decide) (by decide) hr) hb (by decide) (by decide) 3 _, OwnG.set hn hb (by decide) 3 _, h.ends, h.here, h.len, h.good, h.b64, fun b hb => by rw [World.size_setCell]; exact Nat.lt_of_lt_of_le (h.xlt b hb) hg.size⟩
set_option maxRecDepth 20000 in
set_option maxHeartbeats 6400000 in
theorem sParse_any (s : ByteArray) (w : World) (hs : s.size ≤ maxLen) : Calls Tryz.prog 45 #[.string s] w (ParseR s w) := by
  have hB := Blk.new w 26 [.slice none 0 0, .slice none 0 0]
  have x1 : Ext w (w.alloc (.cells #[.slice none 0 0, .slice none 0 0] 26)) := (by repeat (with_reducible (first | assumption | exact Ext.refl _ | apply Ext.alloc | apply Ext.drew | apply Ext.drewN)))
  have hA : w.heap.size < (w.alloc (.cells #[.slice none 0 0, .slice none 0 0] 26)).heap.size := by rw [World.size_alloc]; omega
  have rA := hid hB
  have HX1 := hid x1
  have z1 : (w.alloc (.cells #[.slice none 0 0, .slice none 0 0] 26)).heap.size = w.heap.size + 1 := World.size_alloc _ _
  clear hB x1
  go_enter Tryz.func45, Tryz.ntmps45
  go_wp2_with fail
  refine (sTokenize_any s _ hs).mono ?_
  rintro e w2 ⟨tv, n, rfl, x2, hcu, hn⟩
  have HX2 := hid x2
  have HCU := hid hcu
  have HN := hid hn
  have b2 := (x2.block hA).trans rA.out
  have q0 := Blk.cell (show Blk w2 w.heap.size 26 [.slice none 0 0, .slice none 0 0] from b2) 0 rfl
  have q1 := Blk.cell (show Blk w2 w.heap.size 26 [.slice none 0 0, .slice none 0 0] from b2) 1 rfl
  have q0f := Blk.free (show Blk w2 w.heap.size 26 [.slice none 0 0, .slice none 0 0] from b2) 0
  have q1f := Blk.free (show Blk w2 w.heap.size 26 [.slice none 0 0, .slice none 0 0] from b2) 1
  have zw2 := x2.size
  clear x2 hcu hn b2
  by_cases hn0 : 0 ≤ n
  · have EW : Ext w w2 := HX1.out.trans HX2.out
    go_wp2
    refine bodyPost_ret (v := .tuple #[.agg #[.slice none 0 0, .slice none 0 0], .int .i64 n]) (by simp [results, Tryz.results45, go_sem, *]) rfl ?_
    exact ⟨⟨[], []⟩, _, n, rfl, Prg.rNone _ _ _, Prg.bd_none, Prg.small_none, (by repeat (first | with_reducible assumption | with_reducible exact Ext.refl _ | with_reducible apply Ext.alloc | with_reducible apply Ext.drew | with_reducible apply Ext.drewN | (with_reducible refine Ext.setCell ?_ (by simp; omega) _) | (with_reducible refine Ext.setCell ?_ (by simp) _))), fun e => by have := HCU.out e; omega⟩
  · obtain ⟨hn1, tk, OT, HTK, hcut⟩ := HN.out.resolve_left hn0
    subst hn1
    have hlen0 : 0 < tk.length := by
      obtain ⟨ts, n, rfl, _⟩ := HTK
      simp
    obtain ⟨g, cap, rfl, g1, g2, g3, g4, _, _⟩ := OwnG.at OT (fun _ => rfl) (List.getElem?_eq_getElem hlen0)
    have y2 : Ext w2 (w2.alloc (.cells #[.slice (some ⟨g, 0, none⟩) tk.length cap, .int .i64 0, .slice none 0 0, .slice none 0 0, .int .i64 (-1)] 143)) := (by repeat (with_reducible (first | assumption | exact Ext.refl _ | apply Ext.alloc | apply Ext.drew | apply Ext.drewN)))
    have P0 : Pst (w.alloc (.cells #[.slice none 0 0, .slice none 0 0] 26)).heap.size (fun _ => False) w2.heap.size tk [] (w2.alloc (.cells #[.slice (some ⟨g, 0, none⟩) tk.length cap, .int .i64 0, .slice none 0 0, .slice none 0 0, .int .i64 (-1)] 143)) 0 [] (-1) (.slice (some ⟨g, 0, none⟩) tk.length cap) (.slice none 0 0) (.slice none 0 0) :=
      ⟨Blk.new w2 143 [.slice (some ⟨g, 0, none⟩) tk.length cap, .int .i64 0, .slice none 0 0, .slice none 0 0, .int .i64 (-1)], zw2, OwnG.ext OT y2, OwnNds.nil _ _ _, OwnG.nil _ _ _ _ _, HTK, hlen0, by simp, (fun _ h => nomatch h), ⟨by decide, by decide⟩, (fun _ h => h.elim)⟩
    have HP0 := hid P0
    have HX3 := hid (HX2.out.trans y2)
    have HCUT := hid hcut
    clear P0 y2 hcut HCU HN OT q0 q1 q0f q1f
    go_wp2_with fail
    go_loopw [8] (fun _ wr => ∃ (q : Nat) (ns : List Nd) (gs : List Asg) (nv gv : Value), Pst (w.alloc (.cells #[.slice none 0 0, .slice none 0 0] 26)).heap.size (fun _ => False) w2.heap.size tk gs wr q ns (-1) (.slice (some ⟨g, 0, none⟩) tk.length cap) nv gv ∧ Ext (w.alloc (.cells #[.slice none 0 0, .slice none 0 0] 26)) wr ∧ (∀ x ∈ gs, AsgG x) ∧ gs.length ≤ q ∧ (s = cuS → CuP q ns gs)) (fun _ wr => msr w2.heap.size tk.length wr)
    case atStart => exact ⟨0, [], [], _, _, HP0.out, HX3.out, (fun _ h => nomatch h), Nat.le_refl _, fun _ => .inl ⟨rfl, rfl, rfl⟩⟩
    case round =>
      obtain ⟨q, ns, gs, nv, gv, P, EX, hgs', hgl, hcp⟩ := hrel
      have kb := P.k3000
      obtain ⟨t, ht, tk64, tts, tn64, o1, o2, hkl⟩ := P.ends.at P.here
      obtain ⟨g', cap', etv, g1', g2', _, _, _, hc⟩ := OwnG.at P.toks (fun _ => rfl) ht
      simp only [Value.slice.injEq, Option.some.injEq, Addr.mk.injEq] at etv
      obtain ⟨⟨rfl, _⟩, _, rfl⟩ := etv
      have hk := P.here
      have c0 := P.box.cell 0 rfl
      have c1 := P.box.cell 1 rfl
      have c4 := P.box.cell 4 rfl
      have zb := P.box.lt
      have d0 := hc 0 (by decide)
      have d1 := hc 1 (by decide)
      have d2 := hc 2 (by decide)
      have d3 := hc 3 (by decide)
      simp only [Tok.cs, Nat.add_zero, List.getElem?_cons_zero, List.getElem?_cons_succ] at d0 d1 d2 d3
      have HP := hid P
      have HE := hid EX
      have hgs := hid hgs'
      have HT := hid ht
      have HKL := hid hkl
      have HC := hid hcp
      have hcuT : s = cuS → cuK[q]? = some t := fun e => by rw [← ht, HCUT.out e]; rfl
      have HCT := hid hcuT
      have gne : g ≠ wr.heap.size := by omega
      have bne : w2.heap.size ≠ wr.heap.size := by omega
      clear P EX hgs' ht hkl hcp hc hcuT HP0 HX3
      by_cases hk0 : t.kind = 0
      · have hdone : s = cuS → (⟨ns, gs⟩ : Prg) = cuP := fun e => (HC.out e).done (HCT.out e) hk0
        go_wp2_with fail
        refine wp_region_stagesS [([0, 1, 2, 3, 4, 5, 6, 7, 8, 9, 10, 11, 12, 13, 14, 15, 16, 17], 18)] 99 (fun w' => ∃ d, w' = lowx (wr.heap.size) (wr.heap.size) _ d) (by kernel_rfl) (by kernel_rfl) ⟨_, lowx_of (fun _ _ _ => rfl)⟩ ?_
        refine wpStagesS_cons ?_
        simp only [List.filterMap_cons, List.filterMap_nil, List.getElem?_toArray, List.getElem?_cons_zero, List.getElem?_cons_succ]
        show wpQuiet _ _ _ _ [_, _, _, _, _, _, _, _, _, _, _, _, _, _, _, _, _, _] _
        repeat (go_big_quiet_step (fail))
        refine wpQuiet_nil ⟨_, rfl, fun K hK => ?_⟩
        go_wp2_with fail
        go_wp2_with fail
        refine hK _ _ (.inr ⟨_, lowx_of (fun b hb _ => Ext.block (show Ext wr _ from (by repeat (with_reducible (first | assumption | exact Ext.refl _ | apply Ext.alloc | apply Ext.drew | apply Ext.drewN)))) hb)⟩) ?_
        clear hK K
        refine wpStagesS_nil ?_
        clear c0 c1 c4 d0 d1 d2 d3
        have c0 := HP.out.box.cell 0 rfl
        have c2 := HP.out.box.cell 2 rfl
        have c3 := HP.out.box.cell 3 rfl
        have c4 := HP.out.box.cell 4 rfl
        have zB := HP.out.box.lt
        have hlo := HP.out.low
        have r0 := (HE.out.block hA).trans rA.out
        have q0 := Blk.cell (show Blk wr w.heap.size 26 [.slice none 0 0, .slice none 0 0] from r0) 0 rfl
        have q0f := Blk.free (show Blk wr w.heap.size 26 [.slice none 0 0, .slice none 0 0] from r0) 0
        have q1 := Blk.cell (show Blk wr w.heap.size 26 [.slice none 0 0, .slice none 0 0] from r0) 1 rfl
        have q1f := Blk.free (show Blk wr w.heap.size 26 [.slice none 0 0, .slice none 0 0] from r0) 1
        have EW : Ext w wr := HX1.out.trans HE.out
        have R0 := hid (HP.out.prog (Nat.le_refl _) hgs.out)
        have G1 := hid (HP.out.bd hgs.out)
        have G2 := hid (HP.out.small (by omega))
        obtain ⟨na, nc, rfl, -⟩ := HP.out.nds.form
        obtain ⟨ga, gc, rfl, -⟩ := OwnG.form HP.out.asgs
        clear r0
        go_wp2
        refine bodyPost_ret (v := .tuple #[.agg #[.slice na ns.length nc, .slice ga gs.length gc], .int .i64 (-1)]) (by simp [results, Tryz.results45, go_sem, *]) rfl ?_
        refine ⟨⟨ns, gs⟩, _, -1, rfl, ?_, G1.out, G2.out, (by repeat (first | with_reducible assumption | with_reducible exact Ext.refl _ | with_reducible apply Ext.alloc | with_reducible apply Ext.drew | with_reducible apply Ext.drewN | (with_reducible refine Ext.setCell ?_ (by simp; omega) _) | (with_reducible refine Ext.setCell ?_ (by simp) _))), hdone⟩
        have R1 := R0.out.same ((Same.setLow _ (p := ⟨w.heap.size, 0, none⟩) (by simp only; omega) (.slice na ns.length nc)).trans (Same.setLow _ (p := ⟨w.heap.size, 1, none⟩) (by simp only; omega) (.slice ga gs.length gc)))
        exact R1.low (by omega) (by simp)
      · have hkk := HKL.out hk0
        go_wp2_with fail
        refine wp_region_stagesS [([0, 1, 2, 3, 4, 5, 6, 7, 8, 9, 10, 11, 12, 13, 14, 15, 16, 17], 18)] 99 (fun w' => ∃ d, w' = lowx (wr.heap.size) (wr.heap.size) _ d) (by kernel_rfl) (by kernel_rfl) ⟨_, lowx_of (fun _ _ _ => rfl)⟩ ?_
        refine wpStagesS_cons ?_
        simp only [List.filterMap_cons, List.filterMap_nil, List.getElem?_toArray, List.getElem?_cons_zero, List.getElem?_cons_succ]
        show wpQuiet _ _ _ _ [_, _, _, _, _, _, _, _, _, _, _, _, _, _, _, _, _, _] _
        repeat (go_big_quiet_step (fail))
        refine wpQuiet_nil ⟨_, rfl, fun K hK => ?_⟩
        go_wp2_with fail
        go_wp2_with fail
        refine hK _ _ (.inr ⟨_, lowx_of (fun b hb _ => Ext.block (show Ext wr _ from (by repeat (with_reducible (first | assumption | exact Ext.refl _ | apply Ext.alloc | apply Ext.drew | apply Ext.drewN)))) hb)⟩) ?_
        clear hK K
        refine wpStagesS_nil ?_
        go_wp2_with fail
        have zB6 := HP.out.box.lt
        refine wp_region_stagesS [([0, 1, 2, 3, 4, 5, 6, 7, 8, 9], 10), ([], 11)] 99 (fun w' => ∃ d, w' = lowx (wr.heap.size) (wr.heap.size) _ d) (by kernel_rfl) (by kernel_rfl) ⟨_, lowx_of (fun _ _ _ => rfl)⟩ ?_
        refine wpStagesS_cons ?_
        simp only [List.filterMap_cons, List.filterMap_nil, List.getElem?_toArray, List.getElem?_cons_zero, List.getElem?_cons_succ]
        show wpQuiet _ _ _ _ [_, _, _, _, _, _, _, _, _, _] _
        repeat (go_big_quiet_step (fail))
        refine wpQuiet_nil ⟨_, rfl, fun K hK => ?_⟩
        go_wp2_with fail
        go_wp2_with fail
        refine hK _ _ (.inr ⟨_, lowx_of (fun b hb _ => Ext.block (show Ext wr _ from (by repeat (with_reducible (first | assumption | exact Ext.refl _ | apply Ext.alloc | apply Ext.drew | apply Ext.drewN)))) hb)⟩) ?_
        clear hK K
        refine wpStagesS_cons ?_
        simp only [List.filterMap_nil]
        show wpQuiet _ _ _ _ [] _
        try simp only [Act.put, List.setIfInBounds_toArray, List.set_cons_succ, List.set_cons_zero]
        repeat (go_big_quiet_step (fail))
        refine wpQuiet_nil ⟨_, rfl, fun K hK => ?_⟩
        go_wp2_with fail
        go_wp2_with fail
        refine hK _ _ (.inr ⟨_, lowx_of (fun b hb _ => Ext.block (show Ext wr _ from (by repeat (first | with_reducible assumption | with_reducible exact Ext.refl _ | with_reducible apply Ext.alloc | with_reducible apply Ext.drew | with_reducible apply Ext.drewN | (with_reducible refine Ext.setCell ?_ (by simp; omega) _) | (with_reducible refine Ext.setCell ?_ (by simp) _)))) hb)⟩) ?_
        clear hK K
        refine wpStagesS_nil ?_
        have y1 : Ext wr ((wr.drew.alloc (.cells #[.int .i64 t.kind, .string t.text, .int .i64 t.num, .int .i64 t.off] 145)).drew) := (by repeat (first | with_reducible assumption | with_reducible exact Ext.refl _ | with_reducible apply Ext.alloc | with_reducible apply Ext.drew | with_reducible apply Ext.drewN | (with_reducible refine Ext.setCell ?_ (by simp; omega) _) | (with_reducible refine Ext.setCell ?_ (by simp) _)))
        have T1 : Blk ((wr.drew.alloc (.cells #[.int .i64 t.kind, .string t.text, .int .i64 t.num, .int .i64 t.off] 145)).drew) wr.heap.size 145 [.int .i64 t.kind, .string t.text, .int .i64 t.num, .int .i64 t.off] := (Blk.new wr.drew 145 [.int .i64 t.kind, .string t.text, .int .i64 t.num, .int .i64 t.off]).ext (show Ext (wr.drew.alloc (.cells #[.int .i64 t.kind, .string t.text, .int .i64 t.num, .int .i64 t.off] 145)) _ from (by repeat (first | with_reducible assumption | with_reducible exact Ext.refl _ | with_reducible apply Ext.alloc | with_reducible apply Ext.drew | with_reducible apply Ext.drewN | (with_reducible refine Ext.setCell ?_ (by simp; omega) _) | (with_reducible refine Ext.setCell ?_ (by simp) _))))
        have HY1 := hid y1
        have HP1 := hid (HP.out.ext y1)
        have HE1 := hid (Ext.trans HE.out y1)
        have HT1 := hid T1
        clear y1 T1 c0 c1 c4 d0 d1 d2 d3
        by_cases hk2 : t.kind = 2
        · have c1 := HP.out.box.cell 1 rfl
          have f1 := HP.out.box.free 1
          have e3 : Ext (wr.setCell ⟨w2.heap.size, 1, none⟩ (.int .i64 ((q : Int) + 1))) (((wr.setCell ⟨w2.heap.size, 1, none⟩ (.int .i64 ((q : Int) + 1))).alloc (.cells #[.int .i64 2, .string t.text, .int .i64 t.num, .int .i64 t.off] 145)).drew.drew) := (by repeat (with_reducible (first | assumption | exact Ext.refl _ | apply Ext.alloc | apply Ext.drew | apply Ext.drewN)))
          have b3 := (Blk.new (wr.setCell ⟨w2.heap.size, 1, none⟩ (.int .i64 ((q : Int) + 1))) 145 [.int .i64 2, .string t.text, .int .i64 t.num, .int .i64 t.off]).ext (show Ext ((wr.setCell ⟨w2.heap.size, 1, none⟩ (.int .i64 ((q : Int) + 1))).alloc (.cells #[.int .i64 2, .string t.text, .int .i64 t.num, .int .i64 t.off] 145)) (((wr.setCell ⟨w2.heap.size, 1, none⟩ (.int .i64 ((q : Int) + 1))).alloc (.cells #[.int .i64 2, .string t.text, .int .i64 t.num, .int .i64 t.off] 145)).drew.drew) from (by repeat (with_reducible (first | assumption | exact Ext.refl _ | apply Ext.alloc | apply Ext.drew | apply Ext.drewN))))
          rw [World.size_setCell] at b3
          have HP3 := hid ((HP.out.step hkk).ext e3)
          have HE3 := hid ((Ext.setCell HE.out (p := ⟨w2.heap.size, 1, none⟩) HP.out.low (.int .i64 ((q : Int) + 1))).trans e3)
          have HT3 := hid b3
          have zB0 := HP.out.box.lt
          obtain ⟨t3, ht3, _, _, _, _, _, hkl3⟩ := HP3.out.ends.at HP3.out.here
          have HTk3 := hid ht3
          clear e3 b3 ht3 HT1 HP1 HE1 HY1
          go_wp2_with fail
          refine (sExpect_any HP3.out HTk3.out ⟨#[61]⟩ (by decide)).mono ?_
          rintro e w5 ⟨b5, q5, z5, rfl, P5, K5, hb1, hb2, hb3⟩
          have HP5 := hid P5
          have HE5 := hid (K5.up HE3.out (Nat.le_refl _))
          have HT5 := hid (K5.blk HT3.out (by omega) (by decide))
          have hB3 := hid hb3
          clear P5 K5 hb3 c1 f1 HP3 HE3 HT3
          cases b5
          · have hz5 := hb2 rfl
            have hno : s = cuS → False := fun e => by
              obtain ⟨e1, _⟩ := (HC.out e).name (HCT.out e) hk0
              have := HTk3.out
              rw [e1, HCUT.out e] at this
              exact absurd (hB3.out (cu_eq this)) (by decide)
            clear hb1 hb2
            have c0 := HP5.out.box.cell 0 rfl
            have c4 := HP5.out.box.cell 4 rfl
            have zB := HP5.out.box.lt
            have hlo := HP5.out.low
            have r0 := (HE5.out.block hA).trans rA.out
            have q0 := Blk.cell (show Blk w5 w.heap.size 26 [.slice none 0 0, .slice none 0 0] from r0) 0 rfl
            have q0f := Blk.free (show Blk w5 w.heap.size 26 [.slice none 0 0, .slice none 0 0] from r0) 0
            have q1 := Blk.cell (show Blk w5 w.heap.size 26 [.slice none 0 0, .slice none 0 0] from r0) 1 rfl
            have q1f := Blk.free (show Blk w5 w.heap.size 26 [.slice none 0 0, .slice none 0 0] from r0) 1
            have EW : Ext w w5 := HX1.out.trans HE5.out
            clear r0
            go_wp2_with fail
            refine wp_region_stagesS [([0, 1, 2, 3, 4], 5), ([], 6)] 6 (fun w' => ∃ d, w' = lowc (CBk w2.heap.size) _ d) (by kernel_rfl) (by kernel_rfl) (SC.drew _ _) ?_
            refine wpStagesS_cons ?_
            simp only [List.filterMap_cons, List.filterMap_nil, List.getElem?_toArray, List.getElem?_cons_zero, List.getElem?_cons_succ]
            show wpQuiet _ _ _ _ [_, _, _, _, _] _
            repeat (go_big_quiet_step (fail))
            refine wpQuiet_nil ⟨_, rfl, fun K hK => ?_⟩
            go_wp2_with fail
            refine hK _ _ (.inr (SC.blocks fun a ha => ?_)) ?_
            · unfold CBk at ha
              exact (Below.heap_setCell _ _ _ _ (by rw [ha]; simp only; omega)).trans (Below.heap_setCell _ _ _ _ (by rw [ha]; simp only; omega))
            clear hK K
            refine wpStagesS_cons ?_
            simp only [List.filterMap_nil]
            show wpQuiet _ _ _ _ [] _
            try simp only [Act.put, List.setIfInBounds_toArray, List.set_cons_succ, List.set_cons_zero]
            repeat (go_big_quiet_step (fail))
            refine wpQuiet_nil ⟨_, rfl, fun K hK => ?_⟩
            go_wp2_with fail
            refine hK _ _ (.inl trivial) ?_
            clear hK K
            refine wpStagesS_nil ?_
            go_wp2
            refine bodyPost_ret (v := .tuple #[.agg #[.slice none 0 0, .slice none 0 0], .int .i64 z5]) (by simp [results, Tryz.results45, go_sem, *]) rfl ?_
            exact ⟨⟨[], []⟩, _, z5, rfl, Prg.rNone _ _ _, Prg.bd_none, Prg.small_none, (by repeat (first | with_reducible assumption | with_reducible exact Ext.refl _ | with_reducible apply Ext.alloc | with_reducible apply Ext.drew | with_reducible apply Ext.drewN | (with_reducible refine Ext.setCell ?_ (by simp; omega) _) | (with_reducible refine Ext.setCell ?_ (by simp) _))), fun e => (hno e).elim⟩
          · obtain ⟨rfl, rfl⟩ := hb1 rfl
            clear hb1 hb2 hB3
            go_wp2_with fail
            refine (sExpression_any HP5.out (by decide) (by omega) 1 (by omega) (by omega)).mono ?_
            rintro e w6 ⟨r, q6, ns6, z6, nv6, rfl, hr, P6, K6, hz6, hx6⟩
            have HP6 := hid P6
            have HE6 := hid (K6.up HE5.out (Nat.le_refl _))
            have HT6 := hid (K6.blk HT5.out (by omega) (by decide))
            have HX6 := hid hx6
            have c4 := P6.box.cell 4 rfl
            have k6 := P6.k3000
            have hcu6 : s = cuS → z6 = -1 ∧ q6 = 3 ∧ ns6 = [cuN] ∧ r = 0 ∧ gs = [] := fun e => by
              obtain ⟨e1, e2, e3, _⟩ := (HC.out e).name (HCT.out e) hk0
              obtain ⟨i1, i2, i3, i4⟩ := HX6.out ⟨#[117]⟩ (by rw [HCUT.out e, e1, e2]; exact cu_lone)
              exact ⟨i1, by omega, by rw [i3, e2]; rfl, by rw [i4, e2]; rfl, e3⟩
            have HCU6 := hid hcu6
            clear P6 K6 hx6 hcu6 HP5 HE5 HT5
            by_cases hz60 : 0 ≤ z6
            · have hno : s = cuS → False := fun e => by
                have := (HCU6.out e).1
                omega
              have c0 := HP6.out.box.cell 0 rfl
              have c4 := HP6.out.box.cell 4 rfl
              have zB := HP6.out.box.lt
              have hlo := HP6.out.low
              have r0 := (HE6.out.block hA).trans rA.out
              have q0 := Blk.cell (show Blk w6 w.heap.size 26 [.slice none 0 0, .slice none 0 0] from r0) 0 rfl
              have q0f := Blk.free (show Blk w6 w.heap.size 26 [.slice none 0 0, .slice none 0 0] from r0) 0
              have q1 := Blk.cell (show Blk w6 w.heap.size 26 [.slice none 0 0, .slice none 0 0] from r0) 1 rfl
              have q1f := Blk.free (show Blk w6 w.heap.size 26 [.slice none 0 0, .slice none 0 0] from r0) 1
              have EW : Ext w w6 := HX1.out.trans HE6.out
              clear r0
              go_wp2_with fail
              refine wp_region_stagesS [([0, 1, 2, 3, 4], 5), ([], 6)] 6 (fun w' => ∃ d, w' = lowc (CBk w2.heap.size) _ d) (by kernel_rfl) (by kernel_rfl) (SC.drew _ _) ?_
              refine wpStagesS_cons ?_
              simp only [List.filterMap_cons, List.filterMap_nil, List.getElem?_toArray, List.getElem?_cons_zero, List.getElem?_cons_succ]
              show wpQuiet _ _ _ _ [_, _, _, _, _] _
              repeat (go_big_quiet_step (fail))
              refine wpQuiet_nil ⟨_, rfl, fun K hK => ?_⟩
              go_wp2_with fail
              refine hK _ _ (.inr (SC.blocks fun a ha => ?_)) ?_
              · unfold CBk at ha
                exact (Below.heap_setCell _ _ _ _ (by rw [ha]; simp only; omega)).trans (Below.heap_setCell _ _ _ _ (by rw [ha]; simp only; omega))
              clear hK K
              refine wpStagesS_cons ?_
              simp only [List.filterMap_nil]
              show wpQuiet _ _ _ _ [] _
              try simp only [Act.put, List.setIfInBounds_toArray, List.set_cons_succ, List.set_cons_zero]
              repeat (go_big_quiet_step (fail))
              refine wpQuiet_nil ⟨_, rfl, fun K hK => ?_⟩
              go_wp2_with fail
              refine hK _ _ (.inl trivial) ?_
              clear hK K
              refine wpStagesS_nil ?_
              go_wp2
              refine bodyPost_ret (v := .tuple #[.agg #[.slice none 0 0, .slice none 0 0], .int .i64 z6]) (by simp [results, Tryz.results45, go_sem, *]) rfl ?_
              exact ⟨⟨[], []⟩, _, z6, rfl, Prg.rNone _ _ _, Prg.bd_none, Prg.small_none, (by repeat (first | with_reducible assumption | with_reducible exact Ext.refl _ | with_reducible apply Ext.alloc | with_reducible apply Ext.drew | with_reducible apply Ext.drewN | (with_reducible refine Ext.setCell ?_ (by simp; omega) _) | (with_reducible refine Ext.setCell ?_ (by simp) _))), fun e => (hno e).elim⟩
            · obtain ⟨rfl, hq6⟩ := hz6.resolve_left hz60
              obtain ⟨t6, ht6, _, _, _, _, _, _⟩ := HP6.out.ends.at HP6.out.here
              have HTk6 := hid ht6
              clear ht6
              go_wp2_with fail
              refine (sExpect_any HP6.out HTk6.out ⟨#[59]⟩ (by decide)).mono ?_
              rintro e w7 ⟨b7, q7, z7, rfl, P7, K7, hb1, hb2, hb3⟩
              have HP7 := hid P7
              have HE7 := hid (K7.up HE6.out (Nat.le_refl _))
              have HT7 := hid (K7.blk HT6.out (by omega) (by decide))
              have hB3 := hid hb3
              clear P7 K7 hb3 c4 HP6 HE6 HT6
              cases b7
              · have hz7 := hb2 rfl
                have hno : s = cuS → False := fun e => by
                  obtain ⟨_, e1, _⟩ := HCU6.out e
                  have := HTk6.out
                  rw [e1, HCUT.out e] at this
                  exact absurd (hB3.out (cu_semi this)) (by decide)
                clear hb1 hb2
                have c0 := HP7.out.box.cell 0 rfl
                have c4 := HP7.out.box.cell 4 rfl
                have zB := HP7.out.box.lt
                have hlo := HP7.out.low
                have r0 := (HE7.out.block hA).trans rA.out
                have q0 := Blk.cell (show Blk w7 w.heap.size 26 [.slice none 0 0, .slice none 0 0] from r0) 0 rfl
                have q0f := Blk.free (show Blk w7 w.heap.size 26 [.slice none 0 0, .slice none 0 0] from r0) 0
                have q1 := Blk.cell (show Blk w7 w.heap.size 26 [.slice none 0 0, .slice none 0 0] from r0) 1 rfl
                have q1f := Blk.free (show Blk w7 w.heap.size 26 [.slice none 0 0, .slice none 0 0] from r0) 1
                have EW : Ext w w7 := HX1.out.trans HE7.out
                clear r0
                go_wp2_with fail
                refine wp_region_stagesS [([0, 1, 2, 3, 4], 5), ([], 6)] 6 (fun w' => ∃ d, w' = lowc (CBk w2.heap.size) _ d) (by kernel_rfl) (by kernel_rfl) (SC.drew _ _) ?_
                refine wpStagesS_cons ?_
                simp only [List.filterMap_cons, List.filterMap_nil, List.getElem?_toArray, List.getElem?_cons_zero, List.getElem?_cons_succ]
                show wpQuiet _ _ _ _ [_, _, _, _, _] _
                repeat (go_big_quiet_step (fail))
                refine wpQuiet_nil ⟨_, rfl, fun K hK => ?_⟩
                go_wp2_with fail
                refine hK _ _ (.inr (SC.blocks fun a ha => ?_)) ?_
                · unfold CBk at ha
                  exact (Below.heap_setCell _ _ _ _ (by rw [ha]; simp only; omega)).trans (Below.heap_setCell _ _ _ _ (by rw [ha]; simp only; omega))
                clear hK K
                refine wpStagesS_cons ?_
                simp only [List.filterMap_nil]
                show wpQuiet _ _ _ _ [] _
                try simp only [Act.put, List.setIfInBounds_toArray, List.set_cons_succ, List.set_cons_zero]
                repeat (go_big_quiet_step (fail))
                refine wpQuiet_nil ⟨_, rfl, fun K hK => ?_⟩
                go_wp2_with fail
                refine hK _ _ (.inl trivial) ?_
                clear hK K
                refine wpStagesS_nil ?_
                go_wp2
                refine bodyPost_ret (v := .tuple #[.agg #[.slice none 0 0, .slice none 0 0], .int .i64 z7]) (by simp [results, Tryz.results45, go_sem, *]) rfl ?_
                exact ⟨⟨[], []⟩, _, z7, rfl, Prg.rNone _ _ _, Prg.bd_none, Prg.small_none, (by repeat (first | with_reducible assumption | with_reducible exact Ext.refl _ | with_reducible apply Ext.alloc | with_reducible apply Ext.drew | with_reducible apply Ext.drewN | (with_reducible refine Ext.setCell ?_ (by simp; omega) _) | (with_reducible refine Ext.setCell ?_ (by simp) _))), fun e => (hno e).elim⟩
              · obtain ⟨rfl, rfl⟩ := hb1 rfl
                clear hb1 hb2 hB3
                have c3 := HP7.out.box.cell 3 rfl
                have c0 := HP7.out.box.cell 0 rfl
                have f3 := HP7.out.box.free 3
                have t1 := HT7.out.cell 1 rfl
                have zT := HT7.out.lt
                have zB7 := HP7.out.box.lt
                have hlo := HP7.out.low
                obtain ⟨ga, gc, rfl, -⟩ := OwnG.form HP7.out.asgs
                go_wp2_with fail
                refine wp_region_phases [([0, 1, 2, 3, 4, 5, 6, 7, 8, 9], 10), ([], 11)] [([], 12), ([], 13), ([], 14), ([], 15)] 12 (fun w' => ∃ d, w' = lowc (C2b w2.heap.size wr.heap.size) _ d) (by kernel_rfl) (by kernel_rfl) (SC.drew _ _) ?_
                refine wpStagesS_cons ?_
                simp only [List.filterMap_cons, List.filterMap_nil, List.getElem?_toArray, List.getElem?_cons_zero, List.getElem?_cons_succ]
                show wpQuiet _ _ _ _ [_, _, _, _, _, _, _, _, _, _] _
                repeat (go_big_quiet_step (fail))
                refine wpQuiet_nil ⟨_, rfl, fun K hK => ?_⟩
                go_wp2_with fail
                have y8 : Ext w7 ((w7.alloc (.cells #[.string t.text, .int .i64 (r : Nat)] 74)).drew) := (by repeat (first | with_reducible assumption | with_reducible exact Ext.refl _ | with_reducible apply Ext.alloc | with_reducible apply Ext.drew | with_reducible apply Ext.drewN | (with_reducible refine Ext.setCell ?_ (by simp; omega) _) | (with_reducible refine Ext.setCell ?_ (by simp) _)))
                have B8 := (Blk.new w7 74 [.string t.text, .int .i64 (r : Nat)]).ext (show Ext (w7.alloc (.cells #[.string t.text, .int .i64 (r : Nat)] 74)) ((w7.alloc (.cells #[.string t.text, .int .i64 (r : Nat)] 74)).drew) from (by repeat (first | with_reducible assumption | with_reducible exact Ext.refl _ | with_reducible apply Ext.alloc | with_reducible apply Ext.drew | with_reducible apply Ext.drewN | (with_reducible refine Ext.setCell ?_ (by simp; omega) _) | (with_reducible refine Ext.setCell ?_ (by simp) _))))
                refine hK _ _ (.inr (SC.blocks fun a ha => ?_)) ?_
                · rcases ha with ha | ha
                  · exact y8.block (by rw [ha]; omega)
                  · exact y8.block (by rw [ha]; omega)
                clear hK K
                have HB8 := hid B8
                have HP8 := hid (HP7.out.ext y8)
                have HE8 := hid (HE7.out.trans y8)
                have HY8 := hid y8
                have z8 := y8.size
                clear y8 B8
                refine wpStagesS_cons ?_
                simp only [List.filterMap_nil]
                show wpQuiet _ _ _ _ [] _
                try simp only [Act.put, List.setIfInBounds_toArray, List.set_cons_succ, List.set_cons_zero]
                repeat (go_big_quiet_step (fail))
                refine wpQuiet_nil ⟨_, rfl, fun K hK => ?_⟩
                refine wpList_append_asg _ rfl _ _ rfl (w.alloc (.cells #[.slice none 0 0, .slice none 0 0] 26)).heap.size (.slice ga gs.length gc) gs rfl HP8.out.asgs ⟨t.text, (r : Nat)⟩ w7.heap.size rfl ⟨HB8.out.cell 0 rfl, HB8.out.cell 1 rfl⟩ (by omega) (by omega) ?_
                intro gv2 w9 hown hg
                have hrow := OwnG.row HP8.out.asgs
                have kB : w9.heap[w2.heap.size]? = w7.heap[w2.heap.size]? := (hg.block _ (by omega) (fun e => by
                  obtain ⟨_, c, hc⟩ := hrow _ e.symm
                  exact HP8.out.notBox (by decide) c hc)).trans (HY8.out.block zB7)
                have kT : w9.heap[wr.heap.size]? = w7.heap[wr.heap.size]? := (hg.block _ (by omega) (fun e => by
                  obtain ⟨_, c, hc⟩ := hrow _ e.symm
                  have h1 := HT7.out.ext HY8.out
                  unfold Blk at h1
                  rw [h1] at hc
                  simp only [Option.some.injEq, Obj.cells.injEq] at hc
                  exact absurd hc.2.1 (by decide))).trans (HY8.out.block zT)
                have HP9 := hid (HP8.out.setGs hg hown)
                have HE9 := hid (Ext.setCell (Ext.grown HE8.out hg (fun k hk => (hrow k hk).1)) (p := ⟨w2.heap.size, 3, none⟩) HP8.out.low gv2)
                have B9 := HP7.out.box.of kB
                have e3 := B9.cell 3 rfl
                have e0 := B9.cell 0 rfl
                have g3 := B9.free 3
                go_wp2_with fail
                refine hK _ _ (.inr (SC.blocks fun a ha => ?_)) ?_
                · rcases ha with ha | ha
                  · rw [ha]; exact kB
                  · rw [ha]; exact kT
                clear hK K
                obtain ⟨ga2, gc2, hv, _⟩ := OwnG.form hown
                have hll : (gs ++ [(⟨t.text, (r : Nat)⟩ : Asg)]).length = gs.length + 1 := by simp
                rw [hll] at hv
                subst hv
                clear hown hg hrow kB kT c3 c0 f3 t1 B9
                refine wpPhase_end (wpPhase_free ?_)
                refine wpStagesS_cons ?_
                simp only [List.filterMap_nil]
                show wpQuiet _ _ _ _ [] _
                try simp only [Act.put, List.setIfInBounds_toArray, List.set_cons_succ, List.set_cons_zero]
                repeat (go_big_quiet_step (fail))
                refine wpQuiet_nil ⟨_, rfl, fun K hK => ?_⟩
                go_wp2_with fail
                go_wp2_with fail
                refine hK _ _ (.inr (trivial)) ?_
                clear hK K
                refine wpStagesS_cons ?_
                simp only [List.filterMap_nil]
                show wpQuiet _ _ _ _ [] _
                try simp only [Act.put, List.setIfInBounds_toArray, List.set_cons_succ, List.set_cons_zero]
                repeat (go_big_quiet_step (fail))
                refine wpQuiet_nil ⟨_, rfl, fun K hK => ?_⟩
                go_wp2_with fail
                go_wp2_with fail
                refine hK _ _ (.inr (trivial)) ?_
                clear hK K
                refine wpStagesS_cons ?_
                simp only [List.filterMap_nil]
                show wpQuiet _ _ _ _ [] _
                try simp only [Act.put, List.setIfInBounds_toArray, List.set_cons_succ, List.set_cons_zero]
                repeat (go_big_quiet_step (fail))
                refine wpQuiet_nil ⟨_, rfl, fun K hK => ?_⟩
                go_wp2_with fail
                go_wp2_with fail
                refine hK _ _ (.inr (trivial)) ?_
                clear hK K
                refine wpStagesS_cons ?_
                simp only [List.filterMap_nil]
                show wpQuiet _ _ _ _ [] _
                try simp only [Act.put, List.setIfInBounds_toArray, List.set_cons_succ, List.set_cons_zero]
                repeat (go_big_quiet_step (fail))
                refine wpQuiet_nil ⟨_, rfl, fun K hK => ?_⟩
                go_wp2_with fail
                go_wp2_with fail
                refine hK _ _ (.inr (trivial)) ?_
                clear hK K
                refine wpStagesS_nil ?_
                go_wp2
                go_roundw
                case rel => exact ⟨q6 + 1, ns6, gs ++ [(⟨t.text, (r : Nat)⟩ : Asg)], _, _, HP9.out, HE9.out, (fun y hy => by
                  rcases List.mem_append.1 hy with hy | hy
                  · exact hgs.out y hy
                  · simp only [List.mem_cons, List.not_mem_nil, or_false] at hy
                    subst hy
                    exact ⟨⟨by show (-9223372036854775808 : Int) ≤ ((r : Nat) : Int); omega, by show ((r : Nat) : Int) ≤ 9223372036854775807; omega⟩, tts⟩), by omega, fun e => by
                  obtain ⟨_, i1, i2, i3, i4⟩ := HCU6.out e
                  obtain ⟨_, _, _, _, i5⟩ := (HC.out e).name (HCT.out e) hk0
                  exact .inr ⟨by omega, i2, by rw [i3, i4, i5]; rfl⟩⟩
                case measure =>
                  rw [HP9.out.msr, HP.out.msr, if_neg (by omega), if_neg (by omega)]
                  have := HP9.out.here
                  omega
        · go_wp2_with fail
          refine (sFail_any HP1.out).mono ?_
          rintro e w3 ⟨z3, rfl, hz, P3, K3⟩
          have HP3 := hid P3
          have HE3 := hid (K3.up HE1.out (Nat.le_refl _))
          have hno : s = cuS → False := fun e => hk2 ((HC.out e).name (HCT.out e) hk0).2.2.2.1
          clear P3 K3
          have c0 := HP3.out.box.cell 0 rfl
          have c4 := HP3.out.box.cell 4 rfl
          have zB := HP3.out.box.lt
          have hlo := HP3.out.low
          have r0 := (HE3.out.block hA).trans rA.out
          have q0 := Blk.cell (show Blk w3 w.heap.size 26 [.slice none 0 0, .slice none 0 0] from r0) 0 rfl
          have q0f := Blk.free (show Blk w3 w.heap.size 26 [.slice none 0 0, .slice none 0 0] from r0) 0
          have q1 := Blk.cell (show Blk w3 w.heap.size 26 [.slice none 0 0, .slice none 0 0] from r0) 1 rfl
          have q1f := Blk.free (show Blk w3 w.heap.size 26 [.slice none 0 0, .slice none 0 0] from r0) 1
          have EW : Ext w w3 := HX1.out.trans HE3.out
          clear r0
          go_wp2_with fail
          refine wp_region_stagesS [([0, 1, 2, 3, 4], 5), ([], 6)] 6 (fun w' => ∃ d, w' = lowc (CBk w2.heap.size) _ d) (by kernel_rfl) (by kernel_rfl) (SC.drew _ _) ?_
          refine wpStagesS_cons ?_
          simp only [List.filterMap_cons, List.filterMap_nil, List.getElem?_toArray, List.getElem?_cons_zero, List.getElem?_cons_succ]
          show wpQuiet _ _ _ _ [_, _, _, _, _] _
          repeat (go_big_quiet_step (fail))
          refine wpQuiet_nil ⟨_, rfl, fun K hK => ?_⟩
          go_wp2_with fail
          refine hK _ _ (.inr (SC.blocks fun a ha => ?_)) ?_
          · unfold CBk at ha
            exact (Below.heap_setCell _ _ _ _ (by rw [ha]; simp only; omega)).trans (Below.heap_setCell _ _ _ _ (by rw [ha]; simp only; omega))
          clear hK K
          refine wpStagesS_cons ?_
          simp only [List.filterMap_nil]
          show wpQuiet _ _ _ _ [] _
          try simp only [Act.put, List.setIfInBounds_toArray, List.set_cons_succ, List.set_cons_zero]
          repeat (go_big_quiet_step (fail))
          refine wpQuiet_nil ⟨_, rfl, fun K hK => ?_⟩
          go_wp2_with fail
          refine hK _ _ (.inl trivial) ?_
          clear hK K
          refine wpStagesS_nil ?_
          go_wp2
          refine bodyPost_ret (v := .tuple #[.agg #[.slice none 0 0, .slice none 0 0], .int .i64 z3]) (by simp [results, Tryz.results45, go_sem, *]) rfl ?_
          exact ⟨⟨[], []⟩, _, z3, rfl, Prg.rNone _ _ _, Prg.bd_none, Prg.small_none, (by repeat (first | with_reducible assumption | with_reducible exact Ext.refl _ | with_reducible apply Ext.alloc | with_reducible apply Ext.drew | with_reducible apply Ext.drewN | (with_reducible refine Ext.setCell ?_ (by simp; omega) _) | (with_reducible refine Ext.setCell ?_ (by simp) _))), fun e => (hno e).elim⟩
end Go.Proofs.YtaegmenjgjdimaaGreat
end

section
/- This text proves the program's Compile: a program that passes the checks is compiled to its code. -/
namespace Go.Proofs.YtaegmenjgjdimaaGreat
open Go.RowKit Go.Maps Go.WideMaps

theorem i64L {z : Int} (h : 0 ≤ z ∧ z ≤ 9) : I64 z := ⟨by omega, by omega⟩
theorem insOf_64 {p : Prg} (h : p.K) (hgl : p.gs.length ≤ 1048576) {j : Nat} {x : Nd} (hx : p.ns[j]? = some x) (hn : I64 x.num) : I64 (insOf p x).op ∧ I64 (insOf p x).num := by
  have hix : ((ixOf p x.name : Nat) : Int) ≤ 1048576 := by
    unfold ixOf
    cases e : frst p.gs p.gs.length x.name.toList with
    | none => decide
    | some i =>
      have := (frst_some e).1
      show ((i : Nat) : Int) ≤ 1048576
      omega
  rcases nodeF_op (h.v.nd j x hx).1 with ⟨o, h2, h3⟩ | ⟨o, h3⟩ | ⟨o, h3⟩ | ⟨o, o', h3⟩ | ⟨o, h3⟩
  · unfold insOf; rw [if_pos o]; exact ⟨i64L (z := 1) ⟨by decide, by decide⟩, hn⟩
  · unfold insOf
    rw [if_neg (by omega), if_neg (by omega), if_pos o]
    split
    · exact ⟨i64L (z := 2) ⟨by decide, by decide⟩, i64L (z := 0) ⟨by decide, by decide⟩⟩
    · exact ⟨i64L (z := 3) ⟨by decide, by decide⟩, ⟨by show (-9223372036854775808 : Int) ≤ ((ixOf p x.name : Nat) : Int); omega, by show ((ixOf p x.name : Nat) : Int) ≤ 9223372036854775807; omega⟩⟩
  · unfold insOf; rw [if_neg (by omega), if_pos o]; exact ⟨i64L (z := 5) ⟨by decide, by decide⟩, i64L (z := 3) ⟨by decide, by decide⟩⟩
  · unfold insOf; rw [if_neg (by omega), if_neg (by omega), if_neg (by omega), if_neg (by omega)]
    exact ⟨i64L (z := 6) ⟨by decide, by decide⟩, ⟨by show (-9223372036854775808 : Int) ≤ x.op; omega, by show x.op ≤ 9223372036854775807; omega⟩⟩
  · unfold insOf; rw [if_neg (by omega), if_neg (by omega), if_neg (by omega), if_pos o]; exact ⟨i64L (z := 7) ⟨by decide, by decide⟩, i64L (z := 0) ⟨by decide, by decide⟩⟩
theorem tr_64 {p : Prg} (h : p.K) (hgl : p.gs.length ≤ 1048576) (hn : ∀ x ∈ p.ns, I64 x.num) : ∀ (F j : Nat), j < F → ∀ y ∈ p.tr j, I64 y.op ∧ I64 y.num := by
  intro F
  induction F with
  | zero => intro j hj; omega
  | succ F ih =>
    intro j hj y hy
    cases hx : p.ns[j]? with
    | none =>
      have : p.tr j = [] := by show trF p (j + 1) j = []; rw [trF, hx]
      rw [this] at hy
      cases hy
    | some x =>
      rw [h.v.tr_step hx] at hy
      rcases List.mem_append.1 hy with hy | hy
      · obtain ⟨a, ha, hy⟩ := List.mem_flatMap.1 hy
        have := (h.v.nd j x hx).2 a ha
        exact ih a.toNat (by omega) y hy
      · simp only [List.mem_cons, List.not_mem_nil, or_false] at hy
        subst hy
        exact insOf_64 h hgl hx (hn x (List.mem_of_getElem? hx))
theorem trs_64 {p : Prg} (h : p.K) (hgl : p.gs.length ≤ 1048576) (hn : ∀ x ∈ p.ns, I64 x.num) : ∀ (k : Nat), k ≤ p.gs.length → ∀ y ∈ p.trs k, I64 y.op ∧ I64 y.num := by
  intro k
  induction k with
  | zero => intro _ y hy; cases hy
  | succ k ih =>
    intro hk y hy
    obtain ⟨a, ha⟩ : ∃ a, p.gs[k]? = some a := ⟨p.gs[k], List.getElem?_eq_getElem (by omega)⟩
    rw [Prg.trs_step ha] at hy
    rcases List.mem_append.1 hy with hy | hy
    · exact ih (by omega) y hy
    · rcases List.mem_append.1 hy with hy | hy
      · exact tr_64 h hgl hn _ _ (Nat.lt_succ_self _) y hy
      · simp only [List.mem_cons, List.not_mem_nil, or_false] at hy
        subst hy
        exact ⟨i64L (z := 4) ⟨by decide, by decide⟩, ⟨by show (-9223372036854775808 : Int) ≤ ((k : Nat) : Int); omega, by show ((k : Nat) : Int) ≤ 9223372036854775807; omega⟩⟩
theorem OwnInss.inss {lo l2 : Nat} {w : World} {v : Value} {xs : List Ins} (h : OwnInss lo w v xs) (hl : l2 ≤ lo) (hg : ∀ x ∈ xs, I64 x.op ∧ I64 x.num) : Inss l2 w.heap.size w v xs := by
  obtain ⟨a, c, rfl, _⟩ := OwnG.form h
  have hc : xs.length ≤ c ∧ c ≤ maxLen := by
    rcases h.2 with ⟨e, h4⟩ | ⟨g, cap, cur, e, hb, hh, hc, hm, _⟩
    · simp only [Value.slice.injEq] at e
      obtain ⟨rfl, e2, rfl⟩ := e
      exact ⟨by omega, by unfold maxLen; omega⟩
    · simp only [Value.slice.injEq] at e
      obtain ⟨rfl, e2, rfl⟩ := e
      exact ⟨hc, hm⟩
  refine ⟨a, c, rfl, hc.1, hc.2, fun i x hx => ?_⟩
  obtain ⟨g, cap, e, g1, g2, _, _, _, hcell⟩ := OwnG.at h (fun _ => rfl) hx
  simp only [Value.slice.injEq] at e
  obtain ⟨rfl, _, rfl⟩ := e
  have c0 := hcell 0 (by decide)
  have c1 := hcell 1 (by decide)
  have c2 := hcell 2 (by decide)
  simp only [Ins.cs, Nat.add_zero, List.getElem?_cons_zero, List.getElem?_cons_succ] at c0 c1 c2
  exact ⟨hg x (List.mem_of_getElem? hx), g, 0, rfl, by omega, g2, by rw [Nat.zero_add]; exact c0, by rw [Nat.zero_add]; exact c1, by rw [Nat.zero_add]; exact c2⟩
theorem Strs.low {lo l2 hi : Nat} {w : World} {v : Value} {xs : List ByteArray} (h : Strs lo hi w v xs) (hl : l2 ≤ lo) : Strs l2 hi w v xs := by
  obtain ⟨a, cap, h1, h2, h3, h4⟩ := h
  refine ⟨a, cap, h1, h2, h3, fun i x hx => ?_⟩
  obtain ⟨b, off, g2, g3, g4⟩ := h4 i x hx
  exact ⟨b, off, g2, by omega, g4⟩
theorem OwnStrs.row {lo : Nat} {w : World} {v : Value} {xs : List ByteArray} (h : OwnStrs lo w v xs) : ∀ k, v.ownBlock = some k → lo ≤ k ∧ ∃ c, w.heap[k]? = some (.cells c 9 (0, 0)) := by
  intro k hk
  rcases h.2 with ⟨rfl, h4⟩ | ⟨g, cap, cur, rfl, hb, hg, _⟩
  · cases hk
  · simp only [Value.ownBlock, Option.some.injEq] at hk
    subst hk
    exact ⟨hb, cur, hg⟩
/-- the code's locals changed -/
theorem TB.knS {p : Prg} {P T C M mb lo : Nat} {a1 a2 : Option Addr} {c1 c2 : Nat} {w w' : World} {xs : List Ins} {iv lv lv' : Value} {ls ls' : List ByteArray} (h : TB p P T C M mb lo a1 a2 c1 c2 w xs iv ls lv) (k : KN lo C 9 w w') (hc : Blk w' C 44 [iv, lv']) (hl : OwnStrs lo w' lv' ls') : TB p P T C M mb lo a1 a2 c1 c2 w' xs iv ls' lv' :=
  ⟨KN.blk h.prog k (h.prog.neq h.code (by decide)) (by decide), KN.blk h.fn k (h.fn.neq h.code (by decide)) (by decide), hc, KN.blk h.mp k (h.mp.neq h.code (by decide)) (by decide), KN.fm h.map k h.code, KN.row h.ins k (h.code.noCells (by decide)) (by decide), hl, h.low⟩
end Go.Proofs.YtaegmenjgjdimaaGreat
end

section
/- This text proves the program's Compile: a program that passes the checks is compiled to its code. -/
namespace Go.Proofs.YtaegmenjgjdimaaGreat
open Go.RowKit Go.Maps Go.WideMaps

theorem Cod.R.wideC {c : Cod} {lo hi l2 h2 : Nat} {w : World} {v : Value} (h : c.R lo hi w v) (hl : l2 ≤ lo) (hh : hi ≤ h2) : c.R l2 h2 w v := by
  obtain ⟨iu, lu, rfl, ⟨a, cap, e1, e2, e3, e4⟩, ⟨a', cap', f1, f2, f3, f4⟩⟩ := h
  refine ⟨iu, lu, rfl, ⟨a, cap, e1, e2, e3, fun i x hx => ?_⟩, ⟨a', cap', f1, f2, f3, fun i x hx => ?_⟩⟩
  · obtain ⟨g0, b, off, g1, g2, g3, g4⟩ := e4 i x hx
    exact ⟨g0, b, off, g1, by omega, by omega, g4⟩
  · obtain ⟨b, off, g1, g2, g3, g4⟩ := f4 i x hx
    exact ⟨b, off, g1, by omega, by omega, g4⟩
theorem trs_mono {p : Prg} {k : Nat} : ∀ m, k ≤ m → m ≤ p.gs.length → (p.trs k).length ≤ (p.trs m).length := by
  intro m
  induction m with
  | zero =>
    intro h _
    have : k = 0 := by omega
    rw [this]
    exact Nat.le_refl _
  | succ m ih =>
    intro h hm
    by_cases e : k = m + 1
    · subst e; exact Nat.le_refl _
    · have := ih (by omega) (by omega)
      obtain ⟨a, ha⟩ : ∃ a, p.gs[m]? = some a := ⟨p.gs[m], List.getElem?_eq_getElem (by omega)⟩
      rw [Prg.trs_step ha, List.length_append]
      omega
set_option maxRecDepth 20000 in
set_option maxHeartbeats 6400000 in
theorem iCompile_any (lo hi : Nat) (v : Value) (p : Prg) (w : World) (hv : p.R lo hi w v) (hh : hi ≤ w.heap.size) (hchk : p.chkB = true) (hbd : p.bd) (hgl : p.gs.length ≤ 1048576) :
    Calls Tryz.prog 12 #[v] w fun e w' => ∃ u, e = .returned (.tuple #[u, .bool true]) ∧ p.code.R w.heap.size w'.heap.size w' u ∧ Ext w w' := by
  have HV := hid hv
  have hp := Prg.chkB_K hchk
  have HP := hid hp
  have HCH := hid hchk
  obtain ⟨a1, c1, a2, c2, rfl, HN, HG⟩ := hv.form
  have l1 := HN.le
  have l2 := HN.cap
  have l3 := HG.le
  have l4 := HG.cap
  have l5 := hp.v.len
  have l6 := hp.v.gs_len
  have hn64 : ∀ x ∈ p.ns, I64 x.num := fun x hx => by
    obtain ⟨i, hi, hix⟩ := List.getElem_of_mem hx
    exact (HN.cell i x (by rw [← hix]; simp [hi])).1.2
  have H64 := hid (trs_64 hp hgl hn64)
  have hcl := code_len hp
  have HCL := hid hcl
  have b0 := Blk.new w 26 [.slice a1 p.ns.length c1, .slice a2 p.gs.length c2]
  have r0 := Blk.new (w.alloc (.cells #[.slice a1 p.ns.length c1, .slice a2 p.gs.length c2] 26)) 44 [.slice none 0 0, .slice none 0 0]
  rw [World.size_alloc] at r0
  have x0 : Ext w ((w.alloc (.cells #[.slice a1 p.ns.length c1, .slice a2 p.gs.length c2] 26)).alloc (.cells #[.slice none 0 0, .slice none 0 0] 44)) := (by repeat (with_reducible (first | assumption | exact Ext.refl _ | apply Ext.alloc | apply Ext.drew | apply Ext.drewN)))
  have HB0 := hid (b0.ext (show Ext _ ((w.alloc (.cells #[.slice a1 p.ns.length c1, .slice a2 p.gs.length c2] 26)).alloc (.cells #[.slice none 0 0, .slice none 0 0] 44)) from (by repeat (with_reducible (first | assumption | exact Ext.refl _ | apply Ext.alloc | apply Ext.drew | apply Ext.drewN)))))
  have HR0 := hid r0
  have HX0 := hid x0
  clear hv hp hchk b0 r0 x0 hn64 hcl
  go_enter Tryz.func12, Tryz.ntmps12
  go_wp2_with fail
  refine (iIsOk_val HCH.out lo hi _ _ (HV.out.ext hh HX0.out) (Nat.le_trans hh HX0.out.size) hbd hgl).mono ?_
  rintro e w1 ⟨rfl, x1⟩
  have HX1 := hid (HX0.out.trans x1)
  have HB1 := hid (HB0.out.ext x1)
  have HR1 := hid (HR0.out.ext x1)
  have q0 := HB1.out.cell 0 rfl
  have q1 := HB1.out.cell 1 rfl
  have ql := HB1.out.lt
  clear x1 HX0 HB0 HR0
  go_wp2_with fail
  refine (iAssigned_any lo hi _ p _ (HV.out.ext hh HX1.out) (Nat.le_trans hh HX1.out.size) hbd hgl).mono ?_
  rintro e w2 ⟨⟨mb, rfl, hmb, hM⟩, x2⟩
  have HX2 := hid (HX1.out.trans x2)
  have HB2 := hid (HB1.out.ext x2)
  have HR2 := hid (HR1.out.ext x2)
  have HM2 := hid hM
  have q1 := HB2.out.cell 1 rfl
  have ql2 := HB2.out.lt
  have rl2 := HR2.out.lt
  have zw2 := HX2.out.size
  clear x2 hM HX1 HB1 HR1
  have xb : Ext w2 (((w2.alloc (.cells #[.slice none 0 0, .slice none 0 0] 44)).alloc (.cells #[.map (some mb)] 69)).alloc (.cells #[.func (.func 31) #[] #[.pointer (some ⟨w.heap.size, 0, none⟩), .pointer (some ⟨w2.heap.size + 1 + 1, 0, none⟩), .pointer (some ⟨w2.heap.size, 0, none⟩), .pointer (some ⟨w2.heap.size + 1, 0, none⟩)]] 77)) := (by repeat (with_reducible (first | assumption | exact Ext.refl _ | apply Ext.alloc | apply Ext.drew | apply Ext.drewN)))
  have cb := (Blk.new w2 44 [.slice none 0 0, .slice none 0 0]).ext (show Ext (w2.alloc (.cells #[.slice none 0 0, .slice none 0 0] 44)) (((w2.alloc (.cells #[.slice none 0 0, .slice none 0 0] 44)).alloc (.cells #[.map (some mb)] 69)).alloc (.cells #[.func (.func 31) #[] #[.pointer (some ⟨w.heap.size, 0, none⟩), .pointer (some ⟨w2.heap.size + 1 + 1, 0, none⟩), .pointer (some ⟨w2.heap.size, 0, none⟩), .pointer (some ⟨w2.heap.size + 1, 0, none⟩)]] 77)) from (by repeat (with_reducible (first | assumption | exact Ext.refl _ | apply Ext.alloc | apply Ext.drew | apply Ext.drewN))))
  have mbx := (Blk.new (w2.alloc (.cells #[.slice none 0 0, .slice none 0 0] 44)) 69 [.map (some mb)]).ext (show Ext ((w2.alloc (.cells #[.slice none 0 0, .slice none 0 0] 44)).alloc (.cells #[.map (some mb)] 69)) (((w2.alloc (.cells #[.slice none 0 0, .slice none 0 0] 44)).alloc (.cells #[.map (some mb)] 69)).alloc (.cells #[.func (.func 31) #[] #[.pointer (some ⟨w.heap.size, 0, none⟩), .pointer (some ⟨w2.heap.size + 1 + 1, 0, none⟩), .pointer (some ⟨w2.heap.size, 0, none⟩), .pointer (some ⟨w2.heap.size + 1, 0, none⟩)]] 77)) from (by repeat (with_reducible (first | assumption | exact Ext.refl _ | apply Ext.alloc | apply Ext.drew | apply Ext.drewN))))
  have fb := Blk.new ((w2.alloc (.cells #[.slice none 0 0, .slice none 0 0] 44)).alloc (.cells #[.map (some mb)] 69)) 77 [.func (.func 31) #[] #[.pointer (some ⟨w.heap.size, 0, none⟩), .pointer (some ⟨w2.heap.size + 1 + 1, 0, none⟩), .pointer (some ⟨w2.heap.size, 0, none⟩), .pointer (some ⟨w2.heap.size + 1, 0, none⟩)]]
  simp only [World.size_alloc] at mbx fb
  have hT : TB p w.heap.size (w2.heap.size + 1 + 1) w2.heap.size (w2.heap.size + 1) mb w2.heap.size a1 a2 c1 c2 (((w2.alloc (.cells #[.slice none 0 0, .slice none 0 0] 44)).alloc (.cells #[.map (some mb)] 69)).alloc (.cells #[.func (.func 31) #[] #[.pointer (some ⟨w.heap.size, 0, none⟩), .pointer (some ⟨w2.heap.size + 1 + 1, 0, none⟩), .pointer (some ⟨w2.heap.size, 0, none⟩), .pointer (some ⟨w2.heap.size + 1, 0, none⟩)]] 77)) [] (.slice none 0 0) [] (.slice none 0 0) := ⟨HB2.out.ext xb, fb, cb, mbx, HM2.out.ext xb, OwnG.nil _ _ _ _ _, OwnStrs.nil _ _, Nat.le_refl _⟩
  have HT := hid hT
  have HRb := hid (HR2.out.ext xb)
  have HXb := hid (HX2.out.trans xb)
  have q1b := hT.prog.cell 1 rfl
  clear cb mbx fb hT xb HB2 HM2 HR2 HX2
  go_wp2_with fail
  go_loopw [20] (fun i wr => ∃ (k : Nat) (iv lv : Value), k ≤ p.gs.length ∧ i = .int .i64 (k : Nat) ∧ TB p w.heap.size (w2.heap.size + 1 + 1) w2.heap.size (w2.heap.size + 1) mb w2.heap.size a1 a2 c1 c2 wr (p.trs k) iv ((p.gs.take k).map (·.name)) lv ∧ Blk wr (w.heap.size + 1) 44 [.slice none 0 0, .slice none 0 0] ∧ Ext w wr) (fun i _ => p.gs.length - (intOf i).toNat)
  case atStart => exact ⟨0, _, _, by omega, rfl, HT.out, HRb.out, HXb.out⟩
  case round =>
    clear HT HRb HXb q1b
    obtain ⟨k, iv, lv, hk, rfl, hT, hR, hx⟩ := hrel
    have HT := hid hT
    have HR := hid hR
    have HX := hid hx
    by_cases hlt : k < p.gs.length
    · obtain ⟨b, off, s, rt, rfl, hb1, hbw, hdrop, hget, ir, y0, y1⟩ := HG.at hlt hx hh
      have hrb := (HP.out.v.ag k _ hget).2
      simp only at hrb
      obtain ⟨r, rfl⟩ : ∃ r : Nat, rt = r := ⟨rt.toNat, by omega⟩
      have HG1 := hid hget
      have hst := Prg.trs_step hget
      have hmo := trs_mono (p := p) (k := k + 1) p.gs.length (by omega) (Nat.le_refl _)
      have hcl := HCL.out
      have hcl2 : (p.trs p.gs.length).length ≤ 120 := hcl
      simp only [Int.toNat_natCast] at hst
      have hle : (p.trs (k + 1)).length = (p.trs k).length + (p.tr r).length + 1 := by rw [hst]; simp; omega
      have HST := hid hst
      have y0 : Ext wr (wr.alloc (.cells #[.string s, .int .i64 (r : Nat)] 74)) := (by repeat (with_reducible (first | assumption | exact Ext.refl _ | apply Ext.alloc | apply Ext.drew | apply Ext.drewN)))
      have HA := hid (Blk.new wr 74 [.string s, .int .i64 (r : Nat)])
      have HT1 := hid (hT.ext y0)
      have HR1 := hid (hR.ext y0)
      have HX1 := hid (hx.trans y0)
      have hfn := hT.fn
      have f0 := hfn.cell 0 rfl
      have fl := hfn.lt
      have zr := hx.size
      have hlo := hT.low
      have hCl := hT.code.lt
      clear hT hR hx hdrop hget hst hcl HT HR HX hfn
      go_wp2_with fail
      refine (iTr_any lo hi p HP.out hbd hgl w a1 (some ⟨b, off, none⟩) c1 c2 HN hh w.heap.size (w2.heap.size + 1 + 1) w2.heap.size (w2.heap.size + 1) mb w2.heap.size zw2 _ _ (r + 1) r _ iv _ (by omega) (by omega) (by omega) HT1.out HX1.out).mono ?_
      rintro e w5 ⟨rfl, ⟨iv2, hT5⟩, hk5⟩
      have HA5 := hid (KN.blk HA.out hk5 (HA.out.neq HT1.out.code (by decide)) (by decide))
      have HR5 := hid (HR1.out.of (hk5.block _ HR1.out.lt (.inl (by omega))))
      have HX5 := hid (hk5.up HX1.out zw2)
      obtain ⟨L, hL⟩ : ∃ L, p.trs k ++ p.tr r = L := ⟨_, rfl⟩
      have hLl : L.length ≤ 200 := by rw [← hL, List.length_append]; omega
      rw [hL] at hT5
      have HL := hid hL
      obtain ⟨NL, hNL⟩ : ∃ N, (p.gs.take k).map (·.name) = N := ⟨_, rfl⟩
      have hNl : NL.length ≤ 200 := by rw [← hNL, List.length_map, List.length_take]; omega
      rw [hNL] at hT5
      have HNL := hid hNL
      have HT5 := hid hT5
      obtain ⟨ia, ic, rfl, -⟩ := OwnG.form hT5.ins
      obtain ⟨la, lc, rfl, -⟩ := hT5.loc.form
      have cc0 := hT5.code.cell 0 rfl
      have cc1 := hT5.code.cell 1 rfl
      have cf0 := hT5.code.free 0
      have cf1 := hT5.code.free 1
      have cl := hT5.code.lt
      have k0 := HA5.out.cell 0 rfl
      have k1 := HA5.out.cell 1 rfl
      have kl := HA5.out.lt
      have y5 : Ext w5 (w5.alloc (.cells #[.int .i64 4, .string ⟨#[]⟩, .int .i64 (k : Nat)] 81)) := (by repeat (with_reducible (first | assumption | exact Ext.refl _ | apply Ext.alloc | apply Ext.drew | apply Ext.drewN)))
      have b5 := Blk.new w5 81 [.int .i64 4, .string ⟨#[]⟩, .int .i64 (k : Nat)]
      have HY5 := hid y5
      have HB5 := hid b5
      have HI5 := hid (OwnG.ext hT5.ins y5)
      have zX5 := HX5.out.size
      have zy5 := y5.size
      clear hL hNL hT5 hk5 y5 b5 HT1 HR1 HX1 HA f0
      go_wp2_with (at_builtin; refine wpList_append_insn _ rfl _ _ rfl w2.heap.size (.slice ia L.length ic) L rfl ?_ ⟨4, ⟨#[]⟩, (k : Nat)⟩ w5.heap.size rfl ?_ ?_ ?_ ?_)
      · exact HI5.out
      · omega
      · exact Nat.le_trans (Nat.le_of_lt cl) zy5
      intro iv3 w6 hown hg
      have hrow := OwnG.rowC HI5.out
      have hother : ∀ {B : Nat} {t : TypeId} {cs : List Value}, Blk w5 B t cs → t ≠ 81 → w6.heap[B]? = w5.heap[B]? := fun hb ht => (hg.block _ (by have := hb.lt; omega) (fun e => by
        obtain ⟨_, c, hc⟩ := hrow _ e.symm
        exact (hb.ext HY5.out).noCells (Ne.symm ht) c hc)).trans (HY5.out.block hb.lt)
      have kC := hother HT5.out.code (by decide)
      have kA := hother HA5.out (by decide)
      have K6 : KN w2.heap.size w2.heap.size 81 w5 w6 := ((KN.refl _ _ _ w5).ext HY5.out).grown hg hrow
      have C6 := HT5.out.code.of kC
      have HA6 := hid ((HA5.out.of kA).other (a := ⟨w2.heap.size, 0, none⟩) (HA5.out.neq HT5.out.code (by decide)) iv3)
      have HT6 := hid (HT5.out.kn (K6.set (Nat.le_refl _) 0 iv3) (C6.set 0 iv3) (OwnG.set hown C6 (by decide) 0 iv3))
      have HR6 := hid (HR5.out.of ((K6.set (Nat.le_refl _) 0 iv3).block _ HR5.out.lt (.inl (by omega))))
      have HX6 := hid ((K6.set (Nat.le_refl _) 0 iv3).up HX5.out zw2)
      obtain ⟨ia2, ic2, hv2, _⟩ := OwnG.form hown
      have hll : (L ++ [(⟨4, ⟨#[]⟩, (k : Nat)⟩ : Ins)]).length = L.length + 1 := by simp
      rw [hll] at hv2
      subst hv2
      have e0 := C6.cell 0 rfl
      have e1 := C6.cell 1 rfl
      have g0 := C6.free 0
      have g1 := C6.free 1
      have a0 := (HA5.out.of kA).cell 0 rfl
      have al := (HA5.out.of kA).lt
      have c6l := C6.lt
      clear hown hg hrow hother kC kA K6 C6 cc0 cc1 cf0 cf1 k0 k1
      have y6 : Ext (w6.setCell ⟨w2.heap.size, 0, none⟩ (.slice ia2 (L.length + 1) ic2)) ((w6.setCell ⟨w2.heap.size, 0, none⟩ (.slice ia2 (L.length + 1) ic2)).alloc (.cells #[.string s] 9)) := (by repeat (with_reducible (first | assumption | exact Ext.refl _ | apply Ext.alloc | apply Ext.drew | apply Ext.drewN)))
      have HS6 := hid (HT6.out.loc.ext y6)
      have HY6 := hid y6
      have b6 := Blk.new (w6.setCell ⟨w2.heap.size, 0, none⟩ (.slice ia2 (L.length + 1) ic2)) 9 [.string s]
      rw [World.size_setCell] at b6
      have zy6 := y6.size
      have zc6 := HT6.out.code.lt
      clear y6
      go_wp2_with (at_builtin; refine wpList_append_str _ rfl _ _ rfl w2.heap.size (.slice la NL.length lc) NL rfl ?_ s w6.heap.size rfl ?_ ?_ ?_ ?_)
      · exact HS6.out
      · exact b6.cell 0 rfl
      · omega
      · exact Nat.le_trans (Nat.le_of_lt zc6) zy6
      intro lv2 w8 hown hg
      have hrow := OwnStrs.row HS6.out
      have kC : w8.heap[w2.heap.size]? = (w6.setCell ⟨w2.heap.size, 0, none⟩ (.slice ia2 (L.length + 1) ic2)).heap[w2.heap.size]? := (hg.block _ (by omega) (fun e => by
        obtain ⟨_, c, hc⟩ := hrow _ e.symm
        exact (HT6.out.code.ext HY6.out).noCells (by decide) c hc)).trans (HY6.out.block zc6)
      have K8 : KN w2.heap.size w2.heap.size 9 (w6.setCell ⟨w2.heap.size, 0, none⟩ (.slice ia2 (L.length + 1) ic2)) w8 := ((KN.refl _ _ _ _).ext HY6.out).grown hg hrow
      have C8 := HT6.out.code.of kC
      have O9 := KN.strs hown ((KN.refl w2.heap.size w2.heap.size 81 w8).set (Nat.le_refl _) 1 lv2) (C8.noCells (by decide)) (by decide)
      have HT9 := hid (HT6.out.knS (K8.set (Nat.le_refl _) 1 lv2) (C8.set 1 lv2) O9)
      have HR9 := hid (HR6.out.of ((K8.set (Nat.le_refl _) 1 lv2).block _ HR6.out.lt (.inl (by omega))))
      have HX9 := hid ((K8.set (Nat.le_refl _) 1 lv2).up HX6.out zw2)
      obtain ⟨la2, lc2, hv2, _⟩ := hown.form
      have hll2 : (NL ++ [s]).length = NL.length + 1 := by simp
      rw [hll2] at hv2
      subst hv2
      have e1' := C8.cell 1 rfl
      have g1' := C8.free 1
      have c8l := C8.lt
      clear hown hg hrow kC K8 C8 O9 HS6 HY6
      go_wp2_with fail
      go_roundw
      case rel =>
        have e1 : L ++ [(⟨4, ⟨#[]⟩, (k : Nat)⟩ : Ins)] = p.trs (k + 1) := by rw [HST.out, ← HL.out, List.append_assoc]
        have e2 : NL ++ [s] = (p.gs.take (k + 1)).map (·.name) := by rw [List.take_add_one, HG1.out, List.map_append, HNL.out]; rfl
        have HT10 := HT9.out
        rw [e1, e2] at HT10
        exact ⟨k + 1, _, _, by omega, by go_num, HT10, HR9.out, HX9.out⟩
      case measure => simp [intOf]; omega
    · obtain rfl : k = p.gs.length := by omega
      rw [List.take_length] at HT
      obtain ⟨ia, ic, rfl, -⟩ := OwnG.form HT.out.ins
      obtain ⟨la, lc, rfl, -⟩ := HT.out.loc.form
      have cc0 := HT.out.code.cell 0 rfl
      have cc1 := HT.out.code.cell 1 rfl
      have cl := HT.out.code.lt
      have r0 := HR.out.cell 0 rfl
      have r1 := HR.out.cell 1 rfl
      have f0 := HR.out.free 0
      have f1 := HR.out.free 1
      have rl := HR.out.lt
      have zX := HX.out.size
      have hS := hid (HT.out.loc.strs)
      have hI := hid (HT.out.ins.inss (Nat.le_refl _) (H64.out _ (Nat.le_refl _)))
      have hcR : p.code.R w2.heap.size wr.heap.size wr (.agg #[.slice ia (p.trs p.gs.length).length ic, .slice la p.gs.length lc]) := ⟨_, _, rfl, hI.out, by have h := hS.out; rw [List.length_map] at h; exact h⟩
      have HcR := hid (hcR.same ((Same.setLow wr (p := ⟨w.heap.size + 1, 0, none⟩) (by simp only; omega) (.slice ia (p.trs p.gs.length).length ic)).trans (Same.setLow _ (p := ⟨w.heap.size + 1, 1, none⟩) (by simp only; omega) (.slice la p.gs.length lc))))
      have hXo := HX.out
      clear hT hR hx hcR
      go_wp2
      refine bodyPost_ret (v := .tuple #[.agg #[.slice ia (p.trs p.gs.length).length ic, .slice la p.gs.length lc], .bool true]) (by simp [results, Tryz.results12, go_sem, *]) rfl ?_
      exact ⟨_, rfl, HcR.out.wideC zw2 (by simp), (by repeat (first | with_reducible assumption | with_reducible exact Ext.refl _ | with_reducible apply Ext.alloc | with_reducible apply Ext.drew | with_reducible apply Ext.drewN | (with_reducible refine Ext.setCell ?_ (by simp; omega) _) | (with_reducible refine Ext.setCell ?_ (by simp) _)))⟩
end Go.Proofs.YtaegmenjgjdimaaGreat
end

section
/- This text proves the program's GridValue. -/
namespace Go.Proofs.YtaegmenjgjdimaaGreat
open Go.RowKit

set_option maxRecDepth 20000 in
set_option maxHeartbeats 12800000 in
theorem iGridValue_any (lo hi : Nat) (u : Value) (xs : List Int) (n i j : Nat) (hn : 1 ≤ n ∧ n ≤ 8) (hi1 : i < n) (hj1 : j < n) (w : World) (hu : Ints lo hi w u xs) (hl : xs.length = n * n) (x : Int) (hx : xs[j * n + i]? = some x) :
    Calls Tryz.prog 14 #[u, .int .i64 (n : Nat), .int .i64 (i : Nat), .int .i64 (j : Nat)] w fun e w' => e = .returned (.int .i64 x) ∧ w = w' := by
  obtain ⟨a, cap, rfl, HU⟩ := hu.open
  have l1 := HU.le
  have l2 := HU.cap
  obtain ⟨_, b, off, rfl, _, _, hc⟩ := HU.cell _ _ hx
  have h1 : inB ((n : Nat) : Int) 1 8 = true := inB_iff.2 ⟨by omega, by omega⟩
  have h2 : inB ((i : Nat) : Int) 0 (((n : Nat) : Int) - 1) = true := inB_iff.2 ⟨by omega, by omega⟩
  have h3 : inB ((j : Nat) : Int) 0 (((n : Nat) : Int) - 1) = true := inB_iff.2 ⟨by omega, by omega⟩
  clear hu HU hx
  rcases (show n = 1 ∨ n = 2 ∨ n = 3 ∨ n = 4 ∨ n = 5 ∨ n = 6 ∨ n = 7 ∨ n = 8 by omega) with rfl | rfl | rfl | rfl | rfl | rfl | rfl | rfl <;>
    (
      simp only [Nat.reduceMul] at hl
      try simp only [Nat.mul_one] at hc
      have H1 := hid h1
      have H2 := hid h2
      have H3 := hid h3
      clear h1 h2 h3
      go_enter Tryz.func14, Tryz.ntmps14
      go_wp2_with fail
      refine (within_val H1.out _).mono ?_
      rintro e w1 ⟨rfl, rfl⟩
      go_wp2_with fail
      refine (within_val H2.out _).mono ?_
      rintro e w1 ⟨rfl, rfl⟩
      go_wp2_with fail
      refine (within_val H3.out _).mono ?_
      rintro e w1 ⟨rfl, rfl⟩
      go_wp2
      go_ret
      exact ⟨rfl, rfl⟩)
end Go.Proofs.YtaegmenjgjdimaaGreat
end

section
/- This text proves, in plain numbers, that the code of a program shades a grid as the program shades its points; it walks no function. -/
namespace Go.Proofs.YtaegmenjgjdimaaGreat
open Go.RowKit

theorem ix_frst {gs : List Asg} {l : List UInt8} : ixL l (gs.map (·.name)) = match frst gs gs.length l with | some k => (k : Int) | none => -1 := by
  cases h : frst gs gs.length l with
  | none =>
    refine ixL_no fun j z hj hz => ?_
    rw [List.getElem?_map] at hz
    obtain ⟨a, ha, rfl⟩ := Option.map_eq_some_iff.1 hz
    intro e
    have h1 := frst_no (t := gs.length) h
    rw [asgB_iff.2 ⟨j, a, (List.getElem?_eq_some_iff.1 ha).1, ha, e⟩] at h1
    cases h1
  | some k =>
    obtain ⟨h1, ⟨a, h2, h3⟩, h4⟩ := frst_some h
    refine ixL_at (y := a.name) (by simp [h2]) h3 fun j z hj hz => ?_
    rw [List.getElem?_map] at hz
    obtain ⟨b, hb, rfl⟩ := Option.map_eq_some_iff.1 hz
    exact h4 j b hj hb
theorem evV_good {p : Prg} (h : p.K) {g : Grd} (hg : g.okB = true) {r : Nat} (hr : r < p.ns.length) : good g.m (evV p g r) := by
  obtain ⟨n, hn, hnm, n1, n8, _, ht, hf⟩ := Grd.partsE hg
  have hV : evV p g = p.ev n g.m g.f g.tm g.t := by unfold evV; rw [hn]; rfl
  rw [hV]
  exact h.ev_good hnm hf ht (p.rank r + 1) r (by omega) hr
theorem getD_mapc {xs : List Int} {q : Nat} (h : q < xs.length) : (xs.map col).getD q 0 = col (xs.getD q 0) := by
  rw [List.getD_eq_getElem?_getD, List.getD_eq_getElem?_getD, List.getElem?_map, List.getElem?_eq_getElem h]
  rfl
theorem Prg.K.shade {p : Prg} (h : p.K) (hp : p.chkB = true) {g : Grd} (hg : g.okB = true) : ∃ X Y : List Int, p.code.shade g = (X, Y, true) ∧ X.length = g.m ∧ Y.length = g.m ∧
    ∀ i j : Nat, (i : Int) < g.n → (j : Int) < g.n → X.getD ((j : Int) * g.n + i).toNat 0 = shC p g i j ∧ Y.getD ((j : Int) * g.n + i).toNat 0 = shA p g i j := by
  obtain ⟨n, hn, hnm, n1, n8, _, ht, hf⟩ := Grd.partsE hg
  have hm0 : 0 < g.m := by rw [← hnm]; exact Nat.mul_pos n1 n1
  have hR : (p.code.runB && g.okB) = true := by rw [h.runB, hg]; rfl
  have hres : p.code.res g = p.code.out g := by unfold Cod.res; rw [if_pos hR]
  obtain ⟨k, hk⟩ := h.col
  obtain ⟨s, r, k1, k2, k3, k4⟩ := h.asg hk
  have hci : colorIx p.code.ls = (k : Int) := by
    unfold colorIx
    rw [colS]
    show ixL _ (p.gs.map (·.name)) = _
    rw [ix_frst, hk]
  have o1 : (p.code.out g).getD k [] = evV p g r := by have := h.out g k _ k1; simpa using this
  have g1 := evV_good h hg k2
  have ne : ∀ {xs : List Int}, xs.length = g.m → xs ≠ [] := fun hl e => by rw [e] at hl; simp at hl; omega
  have pt : ∀ i j : Nat, (i : Int) < g.n → (j : Int) < g.n → ∃ q, ((j : Int) * g.n + i).toNat = q ∧ q < g.m ∧ evOk p g i j = true := fun i j hi hj => by
    refine ⟨_, rfl, ?_, ?_⟩
    · rw [hn] at hi hj ⊢
      have := at_lt hnm (i := i) (j := j) (by omega) (by omega)
      rw [show ((j : Int) * n + i) = ((j * n + i : Nat) : Int) by simp]
      exact this
    · unfold evOk
      rw [hp, hg]
      simp only [Bool.true_and, Bool.and_eq_true]
      exact ⟨inB_iff.2 (by omega), inB_iff.2 (by omega)⟩
  have hcol : ∀ i j : Nat, (i : Int) < g.n → (j : Int) < g.n → ((evV p g r).map Go.Proofs.YtaegmenjgjdimaaGreat.col).getD ((j : Int) * g.n + i).toNat 0 = shC p g i j := fun i j hi hj => by
    obtain ⟨q, hq, hqm, hok⟩ := pt i j hi hj
    unfold shC
    rw [if_pos hok, hq, named_some hk k1, getD_mapc (by rw [g1.1]; exact hqm)]
    rfl
  cases ha : frst p.gs p.gs.length [97, 108, 112, 104, 97] with
  | none =>
    have hai : alphaIx p.code.ls = -1 := by
      unfold alphaIx
      rw [alphaS]
      show ixL _ (p.gs.map (·.name)) = _
      rw [ix_frst, ha]
    refine ⟨(evV p g r).map Go.Proofs.YtaegmenjgjdimaaGreat.col, List.replicate g.m 256, ?_, by rw [List.length_map, g1.1], by simp, fun i j hi hj => ⟨hcol i j hi hj, ?_⟩⟩
    · unfold Cod.shade
      rw [hci, hai, hres, Int.toNat_natCast, o1, if_pos ⟨hR, by omega, ne g1.1, .inl (by omega)⟩, if_pos (by omega)]
    · obtain ⟨q, hq, hqm, hok⟩ := pt i j hi hj
      unfold shA
      rw [if_pos hok, hq, named_none ha, List.getD_eq_getElem?_getD, List.getElem?_replicate, if_pos hqm]
      rfl
  | some l =>
    obtain ⟨s', r', l1, l2, l3, l4⟩ := h.asg ha
    have hai : alphaIx p.code.ls = (l : Int) := by
      unfold alphaIx
      rw [alphaS]
      show ixL _ (p.gs.map (·.name)) = _
      rw [ix_frst, ha]
    have o2 : (p.code.out g).getD l [] = evV p g r' := by have := h.out g l _ l1; simpa using this
    have g2 := evV_good h hg l2
    refine ⟨(evV p g r).map Go.Proofs.YtaegmenjgjdimaaGreat.col, (evV p g r').map Go.Proofs.YtaegmenjgjdimaaGreat.col, ?_, by rw [List.length_map, g1.1], by rw [List.length_map, g2.1], fun i j hi hj => ⟨hcol i j hi hj, ?_⟩⟩
    · unfold Cod.shade
      rw [hci, hai, hres, Int.toNat_natCast, Int.toNat_natCast, o1, o2, if_pos ⟨hR, by omega, ne g1.1, .inr (ne g2.1)⟩, if_neg (by omega)]
    · obtain ⟨q, hq, hqm, hok⟩ := pt i j hi hj
      unfold shA
      rw [if_pos hok, hq, named_some ha l1, getD_mapc (by rw [g2.1]; exact hqm)]
      rfl
end Go.Proofs.YtaegmenjgjdimaaGreat
end

section
/- This text proves what the reference's draws hand back: a cursor over bytes, numbers within bounds. -/
namespace Go.Proofs.YtaegmenjgjdimaaGreat
open Go.RowKit

/-- v reads in w as n bytes; its cells lie in blocks below hi -/
def Byts (hi : Nat) (w : World) (v : Value) (n : Nat) : Prop :=
  ∃ a cap, v = .slice a n cap ∧ n ≤ cap ∧ cap ≤ maxLen ∧ ∀ i, i < n → ∃ b off x, a = some ⟨b, off, none⟩ ∧ b < hi ∧ 0 ≤ x ∧ x ≤ 255 ∧ w.cell? ⟨b, off + i, none⟩ = some (.int .u8 x)
theorem Byts.same {hi : Nat} {w w' : World} {v : Value} {n : Nat} (h : Byts hi w v n) (s : Same 0 hi w w') : Byts hi w' v n := by
  obtain ⟨a, cap, h1, h2, h3, h4⟩ := h
  refine ⟨a, cap, h1, h2, h3, fun i hx => ?_⟩
  obtain ⟨b, off, x, h6, h7, h8, h9, h10⟩ := h4 i hx
  exact ⟨b, off, x, h6, h7, h8, h9, by rw [s.cell (Nat.zero_le _) h7]; exact h10⟩
theorem Byts.ext {hi : Nat} {w w' : World} {v : Value} {n : Nat} (h : Byts hi w v n) (hh : hi ≤ w.heap.size) (e : Ext w w') : Byts hi w' v n := h.same (e.same hh)
theorem Byts.open {hi : Nat} {w : World} {v : Value} {n : Nat} (h : Byts hi w v n) : ∃ a cap, v = .slice a n cap ∧ n ≤ cap ∧ cap ≤ 9223372036854775807 := by
  obtain ⟨a, cap, h1, h2, h3, _⟩ := h
  exact ⟨a, cap, h1, h2, by unfold maxLen at h3; omega⟩
theorem Byts.at {hi : Nat} {w : World} {a : Option Addr} {cap n : Nat} (h : Byts hi w (.slice a n cap) n) {i : Nat} (hi' : i < n) : ∃ b off x, a = some ⟨b, off, none⟩ ∧ b < hi ∧ 0 ≤ x ∧ x ≤ 255 ∧ w.cell? ⟨b, off + i, none⟩ = some (.int .u8 x) := by
  obtain ⟨a', cap', h1, h2, h3, h4⟩ := h
  simp only [Value.slice.injEq, true_and] at h1
  obtain ⟨rfl, rfl⟩ := h1
  exact h4 i hi'

/-- block B is a cursor over n bytes -/
def Cur (hi : Nat) (w : World) (B : Nat) : Prop :=
  hi ≤ B ∧ ∃ v n i h, Blk w B 102 [v, .int .i64 (i : Nat), .int .i64 h] ∧ Byts hi w v n ∧ i ≤ n ∧ n ≤ 1048576 ∧ I64 h
theorem Cur.lt {hi : Nat} {w : World} {B : Nat} (h : Cur hi w B) : B < w.heap.size := by
  obtain ⟨_, v, n, i, q, h1, _⟩ := h
  exact h1.lt
theorem Cur.ext {hi : Nat} {w w' : World} {B : Nat} (h : Cur hi w B) (e : Ext w w') : Cur hi w' B := by
  have hl := h.lt
  obtain ⟨h0, v, n, i, q, h1, h2, h3⟩ := h
  exact ⟨h0, v, n, i, q, h1.ext e, h2.ext (by omega) e, h3⟩
/-- w' is w with new blocks, and block B written -/
def Gr (B : Nat) (w w' : World) : Prop := w.grownBy w' (some B)
theorem Gr.refl (B : Nat) (w : World) : Gr B w w := World.grownBy.refl w _
theorem Gr.trans {B : Nat} {w w1 w2 : World} (h : Gr B w w1) (k : Gr B w1 w2) : Gr B w w2 := grownBy.trans h k
theorem Gr.ext {B : Nat} {w w1 w2 : World} (h : Gr B w w1) (k : Ext w1 w2) : Gr B w w2 := h.trans (k.gr _)
theorem Gr.size {B : Nat} {w w1 : World} (h : Gr B w w1) : w.heap.size ≤ w1.heap.size := World.grownBy.size h
theorem Gr.set {B : Nat} {w w1 : World} (h : Gr B w w1) (i : Nat) (u : Value) : Gr B w (w1.setCell ⟨B, i, none⟩ u) :=
  ⟨h.os, h.tape, h.output, by rw [World.size_setCell]; exact h.size, fun k hk hne => (Below.heap_setCell _ _ _ _ (fun e => hne (by simp only at e; rw [e]))).trans (h.block k hk hne)⟩
theorem Gr.up {B : Nat} {w0 w w1 : World} (h : Gr B w w1) (e : Ext w0 w) (hB : w0.heap.size ≤ B) : Ext w0 w1 := Ext.grown e h (fun k hk => by simp only [Option.some.injEq] at hk; omega)
theorem Gr.blk {B : Nat} {w w1 : World} (h : Gr B w w1) {g : Nat} {t : TypeId} {cs : List Value} (k : Blk w g t cs) (ne : g ≠ B) : Blk w1 g t cs := k.grown h (fun e => ne (by simpa using e))

theorem Gr.step {B : Nat} {wa w w' : World} {row : Option Nat} (h : Gr B wa w) (hg : w.grownBy w' row) (hr : ∀ k, row = some k → wa.heap.size ≤ k) : Gr B wa w' :=
  ⟨hg.os.trans h.os, hg.tape.trans h.tape, hg.output.trans h.output, Nat.le_trans h.size hg.size, fun k hk hne => (hg.block k (Nat.lt_of_lt_of_le hk h.size) (fun e => by have := hr k e.symm; omega)).trans (h.block k hk hne)⟩
theorem Gr.setNew {B : Nat} {wa w : World} (h : Gr B wa w) {b : Nat} (hb : wa.heap.size ≤ b) (i : Nat) (u : Value) : Gr B wa (w.setCell ⟨b, i, none⟩ u) :=
  ⟨h.os, h.tape, h.output, by rw [World.size_setCell]; exact h.size, fun k hk hne => (Below.heap_setCell _ _ _ _ (by simp only; omega)).trans (h.block k hk hne)⟩
theorem Cur.keep {hi : Nat} {w w' : World} {B : Nat} (h : Cur hi w B) (e : ∀ b, b ≤ B → w'.heap[b]? = w.heap[b]?) : Cur hi w' B := by
  obtain ⟨h0, v, n, i, q, h1, h2, h3⟩ := h
  exact ⟨h0, v, n, i, q, h1.of (e _ (Nat.le_refl _)), h2.same (fun b _ hb => e b (by omega)), h3⟩
theorem Cur.setNew {hi : Nat} {w : World} {B b : Nat} (h : Cur hi w B) (hb : B < b) (i : Nat) (u : Value) : Cur hi (w.setCell ⟨b, i, none⟩ u) B := h.keep fun k hk => Below.heap_setCell _ _ _ _ (by simp only; omega)
theorem and_mask (z : Int) (m : Nat) (hm : m < 4611686018427387904) : 0 ≤ bits .and .i64 z (m : Int) ∧ bits .and .i64 z (m : Int) ≤ m := by
  have h2 : (BitVec.ofInt 64 (m : Int)).toNat = m := by
    rw [BitVec.ofInt_natCast, BitVec.toNat_ofNat]; exact Nat.mod_eq_of_lt (by omega)
  have h3 : (BitVec.ofInt 64 z &&& BitVec.ofInt 64 (m : Int)).toNat ≤ m := by
    rw [BitVec.toNat_and, h2]
    exact Nat.and_le_right
  show 0 ≤ IntKind.i64.wrap ((BitVec.ofInt 64 z &&& BitVec.ofInt 64 (m : Int)).toNat : Int) ∧ IntKind.i64.wrap ((BitVec.ofInt 64 z &&& BitVec.ofInt 64 (m : Int)).toNat : Int) ≤ m
  rw [IntWalk.i64_in _ ⟨by omega, by omega⟩]
  omega
theorem wrap64_i64 (n : Int) : I64 (wrap64 n) := by unfold wrap64; exact ⟨by omega, by omega⟩
theorem mask255 (z : Int) : 0 ≤ bits .and .i64 z 255 ∧ bits .and .i64 z 255 ≤ 255 := and_mask z 255 (by decide)

set_option maxHeartbeats 800000 in
theorem l01Byte_any (hi B : Nat) (w : World) (hc : Cur hi w B) :
    Calls Tryz.prog 23 #[.pointer (some ⟨B, 0, none⟩)] w fun e w' => ∃ x : Int, e = .returned (.int .i64 x) ∧ (0 ≤ x ∧ x ≤ 255) ∧ Cur hi w' B ∧ Gr B w w' := by
  obtain ⟨h0, v, n, i, q, h1, h2, h3, h4, h5⟩ := hc
  obtain ⟨a, cap, rfl, k1, k2⟩ := h2.open
  have c0 := h1.cell 0 rfl
  have c1 := h1.cell 1 rfl
  have c2 := h1.cell 2 rfl
  have f0 := h1.free 0
  have f1 := h1.free 1
  have f2 := h1.free 2
  have z := h1.lt
  have H1 := hid h1
  have H2 := hid h2
  clear h1 h2
  go_enter Tryz.func23, Tryz.ntmps23
  go_wp2
  go_quiet (fail)
  go_wp2
  obtain ⟨q1, hq1⟩ : ∃ r, wrap64 (wrap64 (q * 6364136223846793005) + 1442695040888963407) = r := ⟨_, rfl⟩
  have i1 : I64 q1 := hq1 ▸ wrap64_i64 _
  rw [hq1]
  clear hq1
  obtain ⟨x1, hx1⟩ : ∃ x, bits .and .i64 (bits .xor .i64 (q1 / 8589934592) (q1 / 35184372088832)) 255 = x := ⟨_, rfl⟩
  have b1 : 0 ≤ x1 ∧ x1 ≤ 255 := hx1 ▸ mask255 _
  rw [hx1]
  clear hx1
  have B1 := H1.out.set 2 (.int .i64 q1)
  have G1 := (Gr.refl B w).set 2 (.int .i64 q1)
  clear c0 c1 c2 f0 f1 f2 z
  have G2 : Gr B w ((w.setCell ⟨B, 2, none⟩ (.int .i64 q1)).drewN nq) := G1.ext (by repeat (with_reducible (first | assumption | exact Ext.refl _ | apply Ext.alloc | apply Ext.drew | apply Ext.drewN)))
  have B2 : Blk ((w.setCell ⟨B, 2, none⟩ (.int .i64 q1)).drewN nq) B 102 [.slice a n cap, .int .i64 (i : Nat), .int .i64 q1] := B1
  have H3 : Byts hi ((w.setCell ⟨B, 2, none⟩ (.int .i64 q1)).drewN nq) (.slice a n cap) n := H2.out.same (fun b _ hb => G2.block b (by have := H1.out.lt; omega) (fun e => by simp only [Option.some.injEq] at e; omega))
  have hz : w.heap.size ≤ ((w.setCell ⟨B, 2, none⟩ (.int .i64 q1)).drewN nq).heap.size := G2.size
  obtain ⟨w1, hw1⟩ : ∃ w1, (w.setCell ⟨B, 2, none⟩ (.int .i64 q1)).drewN nq = w1 := ⟨_, rfl⟩
  rw [hw1] at G2 B2 H3 hz ⊢
  have c0 := B2.cell 0 rfl
  have c1 := B2.cell 1 rfl
  have z := B2.lt
  clear hw1 B1 G1
  by_cases hlt : i < n
  · obtain ⟨b, off, y, rfl, hb, y0, y1, hcy⟩ := H3.at hlt
    have f1 := B2.free 1
    have hb2 : b < w1.heap.size := by omega
    replace H3 := hid H3
    go_quiet (fail)
    go_wp2
    go_quiet (fail)
    go_wp2
    go_ret
    refine ⟨_, rfl, mask255 _, ⟨h0, _, n, i + 1, q1, ?_, H3.out.same (fun b _ hb => Below.heap_setCell _ _ _ _ (by simp; omega)), by omega, h4, i1⟩, ?_⟩
    · have B3 := B2.set 1 (.int .i64 ((i : Int) + 1))
      have e : ((i : Int) + 1) = ((i + 1 : Nat) : Int) := by omega
      rw [← e]
      exact B3
    · exact (G2.ext (show Ext w1 (w1.drewN _) from (by repeat (with_reducible (first | assumption | exact Ext.refl _ | apply Ext.alloc | apply Ext.drew | apply Ext.drewN))))).set 1 _
  · go_quiet (fail)
    go_wp2
    go_ret
    exact ⟨x1, rfl, b1, ⟨h0, _, n, i, q1, B2, H3, h3, h4, i1⟩, G2.ext (by repeat (with_reducible (first | assumption | exact Ext.refl _ | apply Ext.alloc | apply Ext.drew | apply Ext.drewN)))⟩

set_option maxHeartbeats 800000 in
theorem l01Below_any (hi B : Nat) (n : Int) (w : World) (hc : Cur hi w B) (h0 : 0 < n) (hn : I64 n) :
    Calls Tryz.prog 50 #[.pointer (some ⟨B, 0, none⟩), .int .i64 n] w fun e w' => ∃ x : Int, e = .returned (.int .i64 x) ∧ (0 ≤ x ∧ x < n) ∧ Cur hi w' B ∧ Gr B w w' := by
  have HC := hid hc
  have HN := hid hn
  clear hc hn
  have hn0 : ¬ n ≤ 0 := by omega
  by_cases h1 : n ≤ 256
  · go_enter Tryz.func50, Tryz.ntmps50
    go_wp2_with fail
    refine (l01Byte_any hi B _ HC.out).mono ?_
    rintro e w1 ⟨x, rfl, ⟨x0, x1⟩, C1, G1⟩
    go_wp2
    go_ret
    exact ⟨x % n, rfl, ⟨Int.emod_nonneg _ (by omega), Int.emod_lt_of_pos _ h0⟩, C1, G1⟩
  · go_enter Tryz.func50, Tryz.ntmps50
    go_wp2_with fail
    refine (l01Byte_any hi B _ HC.out).mono ?_
    rintro e w1 ⟨x, rfl, ⟨x0, x1⟩, C1, G1⟩
    go_wp2_with fail
    refine (l01Byte_any hi B _ C1).mono ?_
    rintro e w2 ⟨y, rfl, ⟨y0, y1⟩, C2, G2⟩
    go_wp2_with fail
    refine (l01Byte_any hi B _ C2).mono ?_
    rintro e w3 ⟨z, rfl, ⟨z0, z1⟩, C3, G3⟩
    go_wp2_with fail
    refine (l01Byte_any hi B _ C3).mono ?_
    rintro e w4 ⟨v, rfl, ⟨v0, v1⟩, C4, G4⟩
    go_wp2
    go_ret
    exact ⟨_, rfl, ⟨Int.emod_nonneg _ (by omega), Int.emod_lt_of_pos _ h0⟩, C4, ((G1.trans G2).trans G3).trans G4⟩

theorem mask30 (z : Int) : 0 ≤ bits .and .i64 z 1073741823 ∧ bits .and .i64 z 1073741823 ≤ 1073741823 := and_mask z 1073741823 (by decide)
set_option maxHeartbeats 800000 in
theorem l01New_any (hi : Nat) (v : Value) (n : Nat) (w : World) (hv : Byts hi w v n) (hh : hi ≤ w.heap.size) (hn : n ≤ 1048576) :
    Calls Tryz.prog 20 #[v] w fun e w' => ∃ B, e = .returned (.pointer (some ⟨B, 0, none⟩)) ∧ w.heap.size ≤ B ∧ Cur hi w' B ∧ Ext w w' := by
  have HV := hid hv
  obtain ⟨a, cap, rfl, k1, k2⟩ := hv.open
  clear hv
  go_enter Tryz.func20, Tryz.ntmps20
  go_wp2
  go_loop [3, 4] (fun h i => ∃ (x : Int) (k : Nat), h = .int .i64 x ∧ i = .int .i64 k ∧ (0 ≤ x ∧ x ≤ 1100000000) ∧ k ≤ n) (fun _ i => n - (intOf i).toNat)
  case atStart => exact ⟨1953 + (n : Int), 0, rfl, rfl, ⟨by omega, by omega⟩, by omega⟩
  case round =>
    obtain ⟨x, k, rfl, rfl, ⟨x0, x1⟩, hk⟩ := hrel
    by_cases hlt : k < n
    · obtain ⟨b, off, y, rfl, hb, y0, y1, hcy⟩ := HV.out.at hlt
      have hb2 : b < w.heap.size := by omega
      by_cases h4 : k < 4000
      · have e4 : decide ((k : Int) < 4000) = true := decide_eq_true (by omega)
        go_wp2
        go_round
        case rel => exact ⟨_, k + 1, rfl, by go_num, ⟨(mask30 _).1, Int.le_trans (mask30 _).2 (by decide)⟩, by omega⟩
        case measure => simp [intOf]; omega
      · have e4 : decide ((k : Int) < 4000) = false := decide_eq_false (by omega)
        go_wp2
        go_ret
        exact ⟨w.heap.size, rfl, Nat.le_refl _, ⟨hh, _, n, 0, x, Blk.new _ _ _, HV.out.ext hh (by repeat (with_reducible (first | assumption | exact Ext.refl _ | apply Ext.alloc | apply Ext.drew | apply Ext.drewN))), by omega, hn, ⟨by omega, by omega⟩⟩, (by repeat (with_reducible (first | assumption | exact Ext.refl _ | apply Ext.alloc | apply Ext.drew | apply Ext.drewN)))⟩
    · obtain rfl : k = n := by omega
      go_wp2
      go_ret
      exact ⟨w.heap.size, rfl, Nat.le_refl _, ⟨hh, _, k, 0, x, Blk.new _ _ _, HV.out.ext hh (by repeat (with_reducible (first | assumption | exact Ext.refl _ | apply Ext.alloc | apply Ext.drew | apply Ext.drewN))), by omega, hn, ⟨by omega, by omega⟩⟩, (by repeat (with_reducible (first | assumption | exact Ext.refl _ | apply Ext.alloc | apply Ext.drew | apply Ext.drewN)))⟩

set_option maxHeartbeats 800000 in
theorem l32New_any (hi : Nat) (v : Value) (n m : Nat) (w : World) (hv : Byts hi w v n) (hh : hi ≤ w.heap.size) (hn : n ≤ 1048576) (hm : m ≤ 1000) :
    Calls Tryz.prog 22 #[v, .int .i64 m] w fun e w' => ∃ B, e = .returned (.pointer (some ⟨B, 0, none⟩)) ∧ w.heap.size ≤ B ∧ Cur hi w' B ∧ Ext w w' := by
  have HV := hid hv
  obtain ⟨a, cap, rfl, k1, k2⟩ := hv.open
  clear hv
  go_enter Tryz.func22, Tryz.ntmps22
  go_wp2_with fail
  refine (l01New_any hi _ n _ HV.out hh hn).mono ?_
  rintro e w1 ⟨B, rfl, hB, C1, x1⟩
  have HC := hid C1
  have HX := hid x1
  clear C1 x1
  go_wp2
  go_loopw [6] (fun i wr => ∃ k : Nat, i = .int .i64 k ∧ k ≤ m ∧ Cur hi wr B ∧ Gr B w1 wr) (fun i _ => m - (intOf i).toNat)
  case atStart => exact ⟨0, rfl, by omega, HC.out, Gr.refl _ _⟩
  case round =>
    obtain ⟨k, rfl, hk, C2, G2⟩ := hrel
    by_cases hlt : k < m
    · go_wp2_with fail
      refine (l01Byte_any hi B _ C2).mono ?_
      rintro e w3 ⟨x, rfl, hx, C3, G3⟩
      have HC3 := hid C3
      have HG3 := hid (G2.trans G3)
      clear C2 G2 C3 G3 hx
      go_wp2
      go_roundw
      case rel => exact ⟨k + 1, by go_num, by omega, HC3.out, HG3.out⟩
      case measure => simp [intOf]; omega
    · obtain rfl : k = m := by omega
      have HC2 := hid C2
      have HG2 := hid G2
      clear C2 G2
      go_wp2
      go_ret
      exact ⟨B, rfl, hB, HC2.out, HG2.out.up HX.out hB⟩

set_option maxHeartbeats 800000 in
theorem MakeNum_any (hi : Nat) (v : Value) (n m : Nat) (w : World) (hv : Byts hi w v n) (hh : hi ≤ w.heap.size) (hn : n ≤ 1048576) (hm : m ≤ 1000) :
    Calls Tryz.prog 8 #[v, .int .i64 m] w fun e w' => ∃ x : Int, e = .returned (.int .i64 x) ∧ (0 ≤ x ∧ x ≤ 65535) ∧ Ext w w' := by
  have HV := hid hv
  obtain ⟨a, cap, rfl, k1, k2⟩ := hv.open
  clear hv
  go_enter Tryz.func8, Tryz.ntmps8
  go_wp2_with fail
  refine (l32New_any hi _ n m _ HV.out hh hn hm).mono ?_
  rintro e w1 ⟨B, rfl, hB, C1, x1⟩
  go_wp2_with fail
  refine (l01Byte_any hi B _ C1).mono ?_
  rintro e w2 ⟨x, rfl, ⟨x0, x1'⟩, C2, G2⟩
  go_wp2_with fail
  refine (l01Byte_any hi B _ C2).mono ?_
  rintro e w3 ⟨y, rfl, ⟨y0, y1'⟩, C3, G3⟩
  go_wp2
  go_ret
  exact ⟨_, rfl, ⟨by omega, by omega⟩, (G2.trans G3).up x1 hB⟩
end Go.Proofs.YtaegmenjgjdimaaGreat
end

section
/- This text proves that the reference draws valid textures. -/
namespace Go.Proofs.YtaegmenjgjdimaaGreat
open Go.RowKit

set_option maxHeartbeats 800000 in
theorem l01Pick_any (hi B g n : Nat) (xs : List Int) (w : World) (hc : Cur hi w B) (hg : Blk w g 3 (xs.map (Value.int .i64))) (hne : g ≠ B) (hn : xs.length = n) (h1 : 1 ≤ n) (h2 : n ≤ 1000) :
    Calls Tryz.prog 86 #[.pointer (some ⟨B, 0, none⟩), .slice (some ⟨g, 0, none⟩) n n] w fun e w' => ∃ x : Int, e = .returned (.int .i64 x) ∧ x ∈ xs ∧ Cur hi w' B ∧ Gr B w w' := by
  have HC := hid hc
  have HG := hid hg
  have HN := hid hn
  clear hc hg hn
  go_enter Tryz.func86, Tryz.ntmps86
  go_wp2_with fail
  refine (l01Below_any hi B n _ HC.out (by omega) ⟨by omega, by omega⟩).mono ?_
  rintro e w1 ⟨x, rfl, ⟨x0, x1⟩, C1, G1⟩
  obtain ⟨k, rfl⟩ : ∃ k : Nat, x = k := ⟨x.toNat, by omega⟩
  have B1 := G1.blk HG.out hne
  have hk : k < xs.length := by rw [HN.out]; omega
  have c0 := B1.cell k (v := .int .i64 xs[k]) (by simp [hk])
  have hm : xs[k] ∈ xs := List.getElem_mem hk
  obtain ⟨y, hy⟩ : ∃ y, xs[k] = y := ⟨_, rfl⟩
  rw [hy] at c0 hm
  have z1 := B1.lt
  have hkn : k < n := by omega
  clear hy hk
  go_wp2
  go_ret
  exact ⟨y, rfl, hm, C1, G1⟩

/-- the drawer's state: the box of the texture under way, its row of texels, the cursor -/
structure TSt (hi B : Nat) (wa wr : World) (g : Nat) (L : Int) (v : Value) (px : List Int) : Prop where
  gr : Gr B wa wr
  low : wa.heap.size ≤ g
  cur : Cur hi wr B
  box : Blk wr g 31 [.int .i64 L, v]
  own : OwnInts (g + 1) wr v px
  all : ∀ p ∈ px, 0 ≤ p ∧ p ≤ 256
theorem TSt.to {hi B : Nat} {wa wr w' : World} {g : Nat} {L : Int} {v : Value} {px : List Int} (h : TSt hi B wa wr g L v px) (e : Ext wr w') : TSt hi B wa w' g L v px :=
  ⟨h.gr.ext e, h.low, h.cur.ext e, h.box.ext e, h.own.ext e, h.all⟩

set_option maxRecDepth 10000 in
set_option maxHeartbeats 1600000 in
theorem l15Draw_any (hi B : Nat) (w : World) (hc : Cur hi w B) :
    Calls Tryz.prog 51 #[.pointer (some ⟨B, 0, none⟩)] w fun e w' => ∃ (v : Value) (t : Tex), e = .returned v ∧ OwnTex w.heap.size w' v t ∧ t.Ok ∧ Cur hi w' B ∧ Gr B w w' := by
  have HC := hid hc
  have hB := hc.lt
  clear hc
  go_enter Tryz.func51, Tryz.ntmps51
  go_wp2_with fail
  refine (l01Below_any hi B 4 _ (HC.out.ext (by repeat (with_reducible (first | assumption | exact Ext.refl _ | apply Ext.alloc | apply Ext.drew | apply Ext.drewN)))) (by decide) ⟨by decide, by decide⟩).mono ?_
  rintro e w1 ⟨L, rfl, ⟨L0, L1⟩, C1, G1⟩
  have hL4 : L ≤ 4 := by omega
  obtain ⟨m, hm⟩ : ∃ m : Nat, 2 ^ L.toNat = m := ⟨_, rfl⟩
  have hm16 : m ≤ 8 := by
    have : L = 0 ∨ L = 1 ∨ L = 2 ∨ L = 3 := by omega
    rcases this with h | h | h | h <;> subst h <;> simp at hm <;> omega
  have hm1 : 1 ≤ m := hm ▸ Nat.one_le_two_pow
  obtain ⟨P, hP⟩ : ∃ P : Nat, m * m = P := ⟨_, rfl⟩
  have hP64 : P ≤ 64 := by rw [← hP]; exact Nat.mul_le_mul hm16 hm16
  have hP1 : 1 ≤ P := by rw [← hP]; exact Nat.mul_le_mul hm1 hm1
  have hmm : wrap64 ((m : Int) * (m : Int)) = (P : Int) := by rw [← Int.natCast_mul, hP]; exact I64.wrap ⟨by omega, by omega⟩
  have S0 : TSt hi B (w.alloc (.cells #[.int .i64 0, .slice none 0 0] 31)) (w1.alloc (.cells #[.int .i64 L, .slice none 0 0] 31)) w1.heap.size L (.slice none 0 0) [] :=
    ⟨G1.ext (by repeat (with_reducible (first | assumption | exact Ext.refl _ | apply Ext.alloc | apply Ext.drew | apply Ext.drewN))), G1.size, C1.ext (by repeat (with_reducible (first | assumption | exact Ext.refl _ | apply Ext.alloc | apply Ext.drew | apply Ext.drewN))), Blk.new w1 _ [.int .i64 L, .slice none 0 0], OwnInts.nil _ _, fun p h => by cases h⟩
  have hsz := hid (fun w => hm ▸ l15Size_tex (t := ⟨L, []⟩) L0 hL4 w : ∀ w, Calls Tryz.prog 85 #[.int .i64 L] w fun e w' => e = .returned (.int .i64 (m : Nat)) ∧ w = w')
  replace S0 := hid S0
  replace hm := hid hm
  replace hP := hid hP
  have c0 := S0.out.box.cell 0 rfl
  have z0 := S0.out.box.lt
  clear C1 G1 hm16 hm1
  go_wp2
  go_quiet ((go_at_call 85; exact quiet_same (hsz.out _)))
  go_wp2
  rw [hmm]
  clear c0 z0 hmm
  go_loopg [4] P (fun k p wr => ∃ (v : Value) (px : List Int), p = .int .i64 k ∧ px.length + k = P ∧ TSt hi B (w.alloc (.cells #[.int .i64 0, .slice none 0 0] 31)) wr w1.heap.size L v px)
  case atStart => exact ⟨_, [], rfl, by simp, S0.out.to (by repeat (with_reducible (first | assumption | exact Ext.refl _ | apply Ext.alloc | apply Ext.drew | apply Ext.drewN)))⟩
  case round =>
    obtain ⟨v, px, rfl, hk, hst⟩ := hrel
    obtain ⟨av, cv, ev, -⟩ := hst.own.form
    obtain ⟨n, hn⟩ : ∃ n, px.length = n := ⟨_, rfl⟩
    rw [hn] at ev hk
    subst ev
    have b1 := hst.box.cell 1 rfl
    have z0 := hst.box.lt
    have HN := hid hn
    have HST := hid hst
    have hgB : w1.heap.size ≠ B := by have := hst.low; simp at this; omega
    clear hst hn
    by_cases hlt : 0 < gk
    · go_wp2
      refine wp_region_stagesX [([0, 1, 2, 3], 4), ([], 5), ([], 6), ([], 7), ([], 8), ([9], 10)] 10 (w1.heap.size + 1) B (by kernel_rfl) (by kernel_rfl) ?_
      refine wpStagesX_cons ?_
      simp only [List.filterMap_cons, List.filterMap_nil, List.getElem?_toArray, List.getElem?_cons_zero, List.getElem?_cons_succ]
      show wpQuiet _ _ _ _ [_, _, _, _] _
      repeat (go_big_quiet_step (fail))
      refine wpQuiet_nil ⟨_, rfl, fun K hK => ?_⟩
      go_wp2_with fail
      refine (l01Below_any hi B 257 _ (HST.out.cur.ext (by repeat (with_reducible (first | assumption | exact Ext.refl _ | apply Ext.alloc | apply Ext.drew | apply Ext.drewN)))) (by decide) ⟨by decide, by decide⟩).mono ?_
      rintro e w3 ⟨p, rfl, ⟨p0, p1⟩, C3, G3⟩
      have G3' : Gr B wr w3 := ((Gr.refl B wr).ext (by repeat (with_reducible (first | assumption | exact Ext.refl _ | apply Ext.alloc | apply Ext.drew | apply Ext.drewN)))).trans G3
      go_wp2_with fail
      refine hK _ _ (.inr (SameX.gr G3' (by omega))) ?_
      clear hK K
      refine wpStagesX_cons ?_
      simp only [List.filterMap_nil]
      show wpQuiet _ _ _ _ [] _
      try simp only [Act.put, List.getElem_toArray, List.getElem_cons_succ, List.getElem_cons_zero, List.setIfInBounds_toArray, List.set_cons_succ, List.set_cons_zero]
      refine wpQuiet_nil ⟨_, rfl, fun K hK => ?_⟩
      go_wp2_with fail
      have y4 : Ext w3 (w3.alloc (.cells #[.int .i64 0, .int .i64 256, .int .i64 p] 3)) := (by repeat (with_reducible (first | assumption | exact Ext.refl _ | apply Ext.alloc | apply Ext.drew | apply Ext.drewN)))
      have G4 := G3'.ext y4
      have C4 := C3.ext y4
      have B4 := Blk.new w3 3 ([0, 256, p].map (Value.int .i64))
      have z3 := G3'.size
      refine hK _ _ (.inr (SameX.gr G4 (by omega))) ?_
      clear hK K
      refine wpStagesX_cons ?_
      simp only [List.filterMap_nil]
      show wpQuiet _ _ _ _ [] _
      try simp only [Act.put, List.getElem_toArray, List.getElem_cons_succ, List.getElem_cons_zero, List.setIfInBounds_toArray, List.set_cons_succ, List.set_cons_zero]
      refine wpQuiet_nil ⟨_, rfl, fun K hK => ?_⟩
      go_wp2_with fail
      refine (l01Pick_any hi B _ 3 [0, 256, p] _ C4 B4 (by have := HST.out.low; simp at this; omega) rfl (by decide) (by decide)).mono ?_
      rintro e w5 ⟨q, rfl, hq, C5, G5⟩
      have hq256 : 0 ≤ q ∧ q ≤ 256 := by
        simp only [List.mem_cons, List.not_mem_nil, or_false] at hq
        rcases hq with rfl | rfl | rfl <;> omega
      have G5' := G4.trans G5
      go_wp2_with fail
      refine hK _ _ (.inr (SameX.gr G5' (by omega))) ?_
      clear hK K hq
      refine wpStagesX_cons ?_
      simp only [List.filterMap_nil]
      show wpQuiet _ _ _ _ [] _
      try simp only [Act.put, List.getElem_toArray, List.getElem_cons_succ, List.getElem_cons_zero, List.setIfInBounds_toArray, List.set_cons_succ, List.set_cons_zero]
      refine wpQuiet_nil ⟨_, rfl, fun K hK => ?_⟩
      go_wp2_with fail
      have y6 : Ext w5 (w5.alloc (.cells #[.int .i64 q] 3)) := (by repeat (with_reducible (first | assumption | exact Ext.refl _ | apply Ext.alloc | apply Ext.drew | apply Ext.drewN)))
      have z5 := G5'.size
      refine hK _ _ (.inr (SameX.gr (G5'.ext y6) (by omega))) ?_
      clear hK K
      refine wpStagesX_cons ?_
      simp only [List.filterMap_nil]
      show wpQuiet _ _ _ _ [] _
      try simp only [Act.put, List.getElem_toArray, List.getElem_cons_succ, List.getElem_cons_zero, List.setIfInBounds_toArray, List.set_cons_succ, List.set_cons_zero]
      refine wpQuiet_nil ⟨_, rfl, fun K hK => ?_⟩
      have hlow := HST.out.low
      rw [World.size_alloc] at hlow
      have own5 : OwnInts (w1.heap.size + 1) w5 (.slice av n cv) px := HST.out.own.kept (fun b hb hb' => G5'.block b hb' (fun e => by simp only [Option.some.injEq] at e; omega))
      refine wpList_append1 _ rfl _ _ rfl (w1.heap.size + 1) (.slice av n cv) px rfl (own5.alloc _) q ⟨by omega, by omega⟩ w5.heap.size rfl (by simp [go_sem]) (by rw [HN.out]; omega) (by simp; omega) ?_
      intro v' w6 hown hg
      obtain ⟨a4, c4, e4, -⟩ := hown.form
      rw [show (px ++ [q]).length = n + 1 by rw [List.length_append, HN.out]; rfl] at e4
      subst e4
      have hz4 := hg.size
      rw [World.size_alloc] at hz4
      have hv3 : ∀ k, (Value.slice av n cv).ownBlock = some k → w1.heap.size + 1 ≤ k := fun k hk => (own5.lt k hk).1
      have hkeep : ∀ b, b < w1.heap.size + 1 → w6.heap[b]? = w5.heap[b]? := fun b hb => (hg.block b (by simp; omega) (fun e => by have := hv3 b e.symm; omega)).trans (y6.block (by omega))
      have X6 : SameX (w1.heap.size + 1) B wr w6 := (SameX.gr G5' (by omega)).trans (SameX.of (fun b _ hb => hkeep b hb))
      have B6 := (G5'.blk HST.out.box hgB).of (hkeep _ (by omega))
      have HC6 := hid (C5.keep (fun b hb => hkeep b (by omega)) : Cur hi w6 B)
      have HG6 := hid (((HST.out.gr.trans G5').ext y6).step hg (fun k hk => by have := hv3 k hk; simp; omega) : Gr B (w.alloc (.cells #[.int .i64 0, .slice none 0 0] 31)) w6)
      have HO6 := hid hown
      have c2' := B6.cell 1 rfl
      have f2' := B6.free 1
      have z4 := B6.lt
      have HB6 := hid B6
      clear hg hown own5 B6 hv3 hkeep C3 G3 G3' C4 G4 B4 y4 C5 G5 G5' y6
      go_wp2_with fail
      refine hK _ _ (.inr X6) ?_
      clear hK K X6
      refine wpStagesX_cons ?_
      simp only [List.filterMap_cons, List.filterMap_nil, List.getElem?_toArray, List.getElem?_cons_zero, List.getElem?_cons_succ]
      show wpQuiet _ _ _ _ [_] _
      try simp only [Act.put, List.getElem_toArray, List.getElem_cons_succ, List.getElem_cons_zero, List.setIfInBounds_toArray, List.set_cons_succ, List.set_cons_zero]
      repeat (go_big_quiet_step (fail))
      refine wpQuiet_nil ⟨_, rfl, fun K hK => ?_⟩
      go_wp2
      refine hK _ _ (.inl (by trivial)) (wpStagesX_nil ?_)
      clear hK K
      go_wp2
      go_roundg (gk - 1)
      case measure => omega
      case rel =>
        refine ⟨_, px ++ [q], by go_num, by rw [List.length_append, HN.out]; simp; omega, ⟨HG6.out.setNew (by simp; omega) _ _, HST.out.low, HC6.out.setNew (by omega) _ _, HB6.out.set 1 _, HO6.out.setLow (by simp) _, ?_⟩⟩
        intro y hy
        rcases List.mem_append.1 hy with h | h
        · exact HST.out.all y h
        · simp at h; subst h; exact hq256
    · have hst := HST.out
      have R0 := hst.gr.blk (Blk.new w 31 [.int .i64 0, .slice none 0 0]) (by omega)
      have r0 := R0.cell 0 rfl
      have r1 := R0.cell 1 rfl
      have f0 := R0.free 0
      have f1 := R0.free 1
      have zr := R0.lt
      have b0 := hst.box.cell 0 rfl
      have hgl := hst.low
      rw [World.size_alloc] at hgl
      have iL : I64 L := ⟨by omega, by omega⟩
      obtain rfl : n = px.length := HN.out.symm
      have hgk : gk = 0 := by omega
      have HK := hid hgk
      have HPx := hid (by omega : px.length = P)
      clear hst hgk hk
      go_wp2
      refine bodyPost_ret (v := .agg #[.int .i64 L, .slice av px.length cv]) (by simp [results, Tryz.results51, go_sem, *]) rfl ⟨_, rfl, ⟨L, px⟩, ⟨_, rfl, iL, ?_⟩, ⟨L0, hL4, ?_, HST.out.all⟩, ?_, ?_⟩
      · exact ((HST.out.own.setLow (by simp; omega) _).setLow (by simp; omega) _).low (by omega)
      · show px.length = 2 ^ L.toNat * 2 ^ L.toNat
        rw [hm.out, hP.out, HPx.out]
      · exact (HST.out.cur.setNew (by omega) _ _).setNew (by omega) _ _
      · exact ((((Gr.refl B w).ext (show Ext w (w.alloc (.cells #[.int .i64 0, .slice none 0 0] 31)) from (by repeat (with_reducible (first | assumption | exact Ext.refl _ | apply Ext.alloc | apply Ext.drew | apply Ext.drewN))))).trans HST.out.gr).setNew (Nat.le_refl _) _ _).setNew (Nat.le_refl _) _ _

end Go.Proofs.YtaegmenjgjdimaaGreat
end

section
/- This text proves what the reference's draws of sources of programs hand back: texts of a bounded size. -/
namespace Go.Proofs.YtaegmenjgjdimaaGreat
open Go.RowKit

set_option maxHeartbeats 800000 in
theorem l01Once_any (hi B : Nat) (n : Int) (w : World) (hc : Cur hi w B) (h0 : 0 < n) (hn : I64 n) :
    Calls Tryz.prog 74 #[.pointer (some ⟨B, 0, none⟩), .int .i64 n] w fun e w' => ∃ b : Bool, e = .returned (.bool b) ∧ Cur hi w' B ∧ Gr B w w' := by
  have HC := hid hc
  clear hc
  go_enter Tryz.func74, Tryz.ntmps74
  go_wp2_with fail
  refine (l01Below_any hi B n _ HC.out h0 hn).mono ?_
  rintro e w1 ⟨x, rfl, ⟨x0, x1⟩, C1, G1⟩
  go_wp2
  go_ret
  exact ⟨_, rfl, C1, G1⟩
set_option maxHeartbeats 800000 in
theorem l01Str_any (hi B g n m : Nat) (xs : List ByteArray) (w : World) (hc : Cur hi w B) (hg : Blk w g 9 (xs.map Value.string)) (hne : g ≠ B) (hn : xs.length = n) (h1 : 1 ≤ n) (h2 : n ≤ 1000) (hm : ∀ x ∈ xs, x.size ≤ m) :
    Calls Tryz.prog 107 #[.pointer (some ⟨B, 0, none⟩), .slice (some ⟨g, 0, none⟩) n n] w fun e w' => ∃ x : ByteArray, e = .returned (.string x) ∧ x.size ≤ m ∧ Cur hi w' B ∧ Gr B w w' := by
  have HC := hid hc
  have HG := hid hg
  have HN := hid hn
  have HM := hid hm
  clear hc hg hn hm
  go_enter Tryz.func107, Tryz.ntmps107
  go_wp2_with fail
  refine (l01Below_any hi B n _ HC.out (by omega) ⟨by omega, by omega⟩).mono ?_
  rintro e w1 ⟨x, rfl, ⟨x0, x1⟩, C1, G1⟩
  obtain ⟨k, rfl⟩ : ∃ k : Nat, x = k := ⟨x.toNat, by omega⟩
  have B1 := G1.blk HG.out hne
  have hk : k < xs.length := by rw [HN.out]; omega
  have c0 := B1.cell k (v := .string xs[k]) (by simp [hk])
  have hm := HM.out _ (List.getElem_mem hk)
  obtain ⟨y, hy⟩ : ∃ y, xs[k] = y := ⟨_, rfl⟩
  rw [hy] at c0 hm
  have z1 := B1.lt
  have hkn : k < n := by omega
  clear hy hk
  go_wp2
  go_ret
  exact ⟨y, rfl, hm, C1, G1⟩
/-- how long an expression's text gets -/
def eb : Nat → Nat
  | 0 => 4
  | d + 1 => 2 * eb d + 20
theorem eb_le {d : Nat} (h : d ≤ 2) : eb d ≤ 76 := by
  rcases (show d = 0 ∨ d = 1 ∨ d = 2 by omega) with rfl | rfl | rfl <;> decide
def leaves : List ByteArray := [⟨#[117]⟩, ⟨#[118]⟩, ⟨#[120]⟩, ⟨#[121]⟩, ⟨#[122]⟩, ⟨#[116]⟩, ⟨#[49]⟩, ⟨#[48, 46, 53]⟩, ⟨#[50]⟩, ⟨#[48, 46, 50, 53]⟩]
theorem leaves_le : ∀ x ∈ leaves, x.size ≤ 4 := by
  intro x hx
  simp only [leaves, List.mem_cons, List.not_mem_nil, or_false] at hx
  rcases hx with rfl | rfl | rfl | rfl | rfl | rfl | rfl | rfl | rfl | rfl <;> decide
set_option maxRecDepth 10000 in
set_option maxHeartbeats 3200000 in
theorem sExpr_any (hi B : Nat) : ∀ (d : Nat) (w : World), d ≤ 3 → Cur hi w B → Calls Tryz.prog 75 #[.pointer (some ⟨B, 0, none⟩), .int .i64 (d : Nat)] w fun e w' => ∃ s : ByteArray, e = .returned (.string s) ∧ s.size ≤ eb d ∧ Cur hi w' B ∧ Gr B w w' := by
  intro d
  induction d with
  | zero =>
    intro w hd hc
    have HC := hid hc
    have hB := hc.lt
    clear hc
    go_enter Tryz.func75, Tryz.ntmps75
    go_wp2_with fail
    have x1 : Ext w (w.alloc (.cells (leaves.map Value.string).toArray 9)) := (by repeat (with_reducible (first | assumption | exact Ext.refl _ | apply Ext.alloc | apply Ext.drew | apply Ext.drewN)))
    refine (l01Str_any hi B w.heap.size 10 4 leaves _ (HC.out.ext x1) (Blk.new w 9 (leaves.map Value.string)) (by omega) rfl (by decide) (by decide) leaves_le).mono ?_
    rintro e w1 ⟨s, rfl, hs, C1, G1⟩
    go_wp2
    go_ret
    exact ⟨s, rfl, hs, C1, ((Gr.refl B w).ext x1).trans G1⟩
  | succ d ih =>
    intro w hd hc
    have HC := hid hc
    have hB := hc.lt
    have hdn : ¬ ((d : Int) + 1 ≤ 0) := by omega
    have he := eb_le (show d ≤ 2 by omega)
    have IH := hid ih
    clear hc ih
    go_enter Tryz.func75, Tryz.ntmps75
    go_wp2_with fail
    refine (l01Once_any hi B 4 _ HC.out (by decide) ⟨by decide, by decide⟩).mono ?_
    rintro e w1 ⟨b, rfl, C1, G1⟩
    have z1 := G1.size
    cases b
    · go_wp2_with fail
      refine (IH.out _ (by omega) C1).mono ?_
      rintro e w2 ⟨s2, rfl, h2, C2, G2⟩
      go_wp2_with fail
      refine (IH.out _ (by omega) C2).mono ?_
      rintro e w3 ⟨s3, rfl, h3, C3, G3⟩
      go_wp2_with fail
      refine (l01Below_any hi B 14 _ C3 (by decide) ⟨by decide, by decide⟩).mono ?_
      rintro e w4 ⟨x, rfl, ⟨x0, x1⟩, C4, G4⟩
      have G5 := hid (((G1.trans G2).trans G3).trans G4)
      have HC4 := hid C4
      have he2 : eb (d + 1) = 2 * eb d + 20 := rfl
      have HE := hid he2
      have h2' : s2.size ≤ 76 := by omega
      have h3' : s3.size ≤ 76 := by omega
      have HS2 := hid h2
      have HS3 := hid h3
      clear C1 G1 C2 G2 C3 G3 C4 G4 he2 h2 h3 he
      go_wp2
      all_goals go_ret
      all_goals refine ⟨_, rfl, ?_, HC4.out, G5.out⟩
      all_goals
        have h2 : s2.data.size ≤ eb d := HS2.out
        have h3 : s3.data.size ≤ eb d := HS3.out
        rw [HE.out]
        clear HS2 HS3 HE h2' h3'
        simp only [ByteArray.size_append]
        simp only [ByteArray.size, List.size_toArray, List.length_cons, List.length_nil]
        omega
    · go_wp2_with fail
      have x1 : Ext w1 (w1.alloc (.cells (leaves.map Value.string).toArray 9)) := (by repeat (with_reducible (first | assumption | exact Ext.refl _ | apply Ext.alloc | apply Ext.drew | apply Ext.drewN)))
      refine (l01Str_any hi B w1.heap.size 10 4 leaves _ (C1.ext x1) (Blk.new w1 9 (leaves.map Value.string)) (by omega) rfl (by decide) (by decide) leaves_le).mono ?_
      rintro e w2 ⟨s, rfl, hs, C2, G2⟩
      go_wp2
      go_ret
      exact ⟨s, rfl, by show s.size ≤ 2 * eb d + 20; omega, C2, (G1.ext x1).trans G2⟩
set_option maxRecDepth 10000 in
set_option maxHeartbeats 3200000 in
theorem sSource_any (hi B : Nat) (w : World) (hc : Cur hi w B) : Calls Tryz.prog 46 #[.pointer (some ⟨B, 0, none⟩)] w fun e w' => ∃ s : ByteArray, e = .returned (.string s) ∧ s.size ≤ 2000 ∧ Cur hi w' B ∧ Gr B w w' := by
  have HC := hid hc
  clear hc
  have e1 : eb 1 = 28 := rfl
  have e2 : eb 2 = 76 := rfl
  have e3 : eb 3 = 172 := rfl
  go_enter Tryz.func46, Tryz.ntmps46
  go_wp2_with fail
  refine (l01Once_any hi B 2 _ HC.out (by decide) ⟨by decide, by decide⟩).mono ?_
  rintro e w1 ⟨b, rfl, C1, G1⟩
  cases b
  · go_wp2_with fail
    refine (sExpr_any hi B 3 _ (by decide) C1).mono ?_
    rintro e w2 ⟨s2, rfl, h2, C2, G2⟩
    have g2 : s2.data.size ≤ 172 := by rw [e3] at h2; exact h2
    replace G2 := G1.trans G2
    clear C1 G1
    go_wp2_with fail
    refine (l01Once_any hi B 3 _ C2 (by decide) ⟨by decide, by decide⟩).mono ?_
    rintro e w4 ⟨b, rfl, C4, G4⟩
    replace G4 := G2.trans G4
    clear C2 G2
    cases b
    · go_wp2
      go_ret
      refine ⟨_, rfl, ?_, C4, G4⟩
      simp only [ByteArray.size_append]
      simp only [ByteArray.size, List.size_toArray, List.length_cons, List.length_nil]
      omega
    · go_wp2_with fail
      refine (sExpr_any hi B 1 _ (by decide) C4).mono ?_
      rintro e w5 ⟨s5, rfl, h5, C5, G5⟩
      have g5 : s5.data.size ≤ 28 := by rw [e1] at h5; exact h5
      replace G5 := G4.trans G5
      clear C4 G4
      go_wp2
      go_ret
      refine ⟨_, rfl, ?_, C5, G5⟩
      simp only [ByteArray.size_append]
      simp only [ByteArray.size, List.size_toArray, List.length_cons, List.length_nil]
      omega
  · go_wp2_with fail
    refine (sExpr_any hi B 2 _ (by decide) C1).mono ?_
    rintro e w2 ⟨s2, rfl, h2, C2, G2⟩
    have g2 : s2.data.size ≤ 76 := by rw [e2] at h2; exact h2
    replace G2 := G1.trans G2
    clear C1 G1
    go_wp2_with fail
    refine (sExpr_any hi B 3 _ (by decide) C2).mono ?_
    rintro e w3 ⟨s3, rfl, h3, C3, G3⟩
    have g3 : s3.data.size ≤ 172 := by rw [e3] at h3; exact h3
    replace G3 := G2.trans G3
    clear C2 G2
    go_wp2_with fail
    refine (l01Once_any hi B 3 _ C3 (by decide) ⟨by decide, by decide⟩).mono ?_
    rintro e w4 ⟨b, rfl, C4, G4⟩
    replace G4 := G3.trans G4
    clear C3 G3
    cases b
    · go_wp2
      go_ret
      refine ⟨_, rfl, ?_, C4, G4⟩
      simp only [ByteArray.size_append]
      simp only [ByteArray.size, List.size_toArray, List.length_cons, List.length_nil]
      omega
    · go_wp2_with fail
      refine (sExpr_any hi B 1 _ (by decide) C4).mono ?_
      rintro e w5 ⟨s5, rfl, h5, C5, G5⟩
      have g5 : s5.data.size ≤ 28 := by rw [e1] at h5; exact h5
      replace G5 := G4.trans G5
      clear C4 G4
      go_wp2
      go_ret
      refine ⟨_, rfl, ?_, C5, G5⟩
      simp only [ByteArray.size_append]
      simp only [ByteArray.size, List.size_toArray, List.length_cons, List.length_nil]
      omega
end Go.Proofs.YtaegmenjgjdimaaGreat
end

section
/- This text proves the draw of programs: a program that the checker passes, of small size. -/
namespace Go.Proofs.YtaegmenjgjdimaaGreat
open Go.RowKit

theorem Prg.R.set2 {p : Prg} {lo hi l2 A : Nat} {w : World} {v : Value} (h : p.R lo hi w v) (hA : A < lo) (hl : l2 ≤ lo) (hh : hi ≤ w.heap.size) (u u' : Value) : p.R l2 ((w.setCell ⟨A, 0, none⟩ u).setCell ⟨A, 1, none⟩ u').heap.size ((w.setCell ⟨A, 0, none⟩ u).setCell ⟨A, 1, none⟩ u') v :=
  (h.same ((Same.setLow _ (p := ⟨A, 0, none⟩) hA u).trans (Same.setLow _ (p := ⟨A, 1, none⟩) hA u'))).low hl (by rw [World.size_setCell, World.size_setCell]; exact hh)
theorem Prg.R.ext' {p : Prg} {lo : Nat} {w w' : World} {v : Value} (h : p.R lo w.heap.size w v) (e : Ext w w') : p.R lo w'.heap.size w' v := (h.ext (Nat.le_refl _) e).low (Nat.le_refl _) e.size
theorem cu_chk : cuP.chkB = true := by
  unfold Prg.chkB
  simp only [Bool.and_eq_true]
  refine ⟨⟨⟨⟨?_, ?_⟩, ?_⟩, ?_⟩, ?_⟩
  · decide
  · simp [cuP, cuN, cuA, Prg.nameB, isVar, Lib.toList_data]
  · simp [cuP, cuN, cuA, Prg.arB]
  · simp [cuP, cuN, cuA, Prg.asB, isVar, asgB, Lib.toList_data]
  · simp [cuP, cuN, cuA, Prg.colB, asgB, Lib.toList_data]
set_option maxRecDepth 10000 in
set_option maxHeartbeats 6400000 in
theorem l14Good_any (hi B : Nat) (w : World) (hc : Cur hi w B) : Calls Tryz.prog 19 #[.pointer (some ⟨B, 0, none⟩)] w fun e w' => ∃ (p : Prg) (v : Value), e = .returned v ∧ p.R w.heap.size w'.heap.size w' v ∧ p.bd ∧ p.small ∧ p.chkB = true ∧ Gr B w w' := by
  have zB := hc.lt
  have hB := Blk.new w 26 [.slice none 0 0, .slice none 0 0]
  have x1 : Ext w (w.alloc (.cells #[.slice none 0 0, .slice none 0 0] 26)) := (by repeat (with_reducible (first | assumption | exact Ext.refl _ | apply Ext.alloc | apply Ext.drew | apply Ext.drewN)))
  have HC1 := hid (hc.ext x1)
  have HB1 := hid hB
  have HX1 := hid x1
  have z1 : (w.alloc (.cells #[.slice none 0 0, .slice none 0 0] 26)).heap.size = w.heap.size + 1 := World.size_alloc _ _
  clear hc hB x1
  go_enter Tryz.func19, Tryz.ntmps19
  go_wp2_with fail
  go_loopw [3] (fun i wr => ∃ k : Nat, k ≤ 20 ∧ i = .int .i64 (k : Nat) ∧ Cur hi wr B ∧ Gr B (w.alloc (.cells #[.slice none 0 0, .slice none 0 0] 26)) wr) (fun i _ => 20 - (intOf i).toNat)
  case atStart => exact ⟨0, by omega, rfl, HC1.out, Gr.refl _ _⟩
  case round =>
    obtain ⟨k, hk, rfl, C, G⟩ := hrel
    have HC := hid C
    have HG := hid G
    clear C G HC1
    by_cases hlt : k < 20
    · go_wp2_with fail
      refine (sSource_any hi B _ HC.out).mono ?_
      rintro e w3 ⟨s, rfl, hs, C3, G3⟩
      have HC3 := hid C3
      have HG3 := hid (HG.out.trans G3)
      clear C3 G3 HC HG
      go_wp2_with fail
      refine (sParse_any s w3 (by unfold maxLen; omega)).mono ?_
      rintro e w4 ⟨p, v, n, rfl, R4, bd4, sm4, x4, -⟩
      obtain ⟨na, nc, ga, gc, rfl, -, -⟩ := R4.form
      have HR := hid R4
      have HX4 := hid x4
      have zx := x4.size
      have y5 : Ext w4 (w4.alloc (.cells #[.slice na p.ns.length nc, .slice ga p.gs.length gc] 26)) := (by repeat (with_reducible (first | assumption | exact Ext.refl _ | apply Ext.alloc | apply Ext.drew | apply Ext.drewN)))
      have HR5 := hid (R4.ext (Nat.le_refl _) y5)
      have HY5 := hid y5
      have zy := y5.size
      clear R4 x4 y5
      have b5 := Blk.new w4 26 [.slice na p.ns.length nc, .slice ga p.gs.length gc]
      have HB5 := hid b5
      clear b5
      go_wp2_with fail
      refine (sCheck_any _ _ _ p _ HR5.out zy bd4 sm4.1.1 sm4.2).mono ?_
      rintro e w6 ⟨⟨c, q, rfl, hcc⟩, x6⟩
      have HX6 := hid (HY5.out.trans x6)
      have HB6 := hid (HB5.out.ext x6)
      have r0 := HG3.out.blk HB1.out (by omega)
      have HR0 := hid (r0.ext (HX4.out.trans (HY5.out.trans x6)))
      have HG6 := hid (HG3.out.ext (HX4.out.trans (HY5.out.trans x6)))
      have HC6 := hid (HC3.out.ext (HX4.out.trans (HY5.out.trans x6)))
      have HR6 := hid (HR5.out.ext zy x6)
      have q0 := HB6.out.cell 0 rfl
      have q1 := HB6.out.cell 1 rfl
      have z6 := x6.size
      have zg3 := HG3.out.size
      have hh6 := HX6.out.size
      have zlt := HB6.out.lt
      clear x6 r0 HX4 HY5 HR5 HB5 HC3 HG3 HR
      by_cases h0 : c = 0
      · have hchk : p.chkB = true := by rw [← hcc]; exact beq_iff_eq.2 h0
        have HCH := hid hchk
        have g0 := HR0.out.cell 0 rfl
        have g1 := HR0.out.cell 1 rfl
        have k0 := HR0.out.free 0
        have k1 := HR0.out.free 1
        have zR := HR0.out.lt
        have zg := HG6.out.size
        clear hchk hcc
        go_wp2
        refine bodyPost_ret (v := .agg #[.slice na p.ns.length nc, .slice ga p.gs.length gc]) (by simp [results, Tryz.results19, go_sem, *]) rfl ?_
        exact ⟨p, _, rfl, HR6.out.set2 (by omega) (by omega) (by omega) _ _, bd4, sm4, HCH.out, ((((Gr.refl B w).ext HX1.out).trans HG6.out).setNew (Nat.le_refl _) _ _).setNew (Nat.le_refl _) _ _⟩
      · clear hcc
        go_wp2
        go_roundw
        case rel => exact ⟨k + 1, by omega, by go_num, HC6.out, HG6.out⟩
        case measure => simp [intOf]; omega
    · obtain rfl : k = 20 := by omega
      go_wp2_with fail
      refine (sParse_any cuS wr (by decide)).mono ?_
      rintro e w4 ⟨p, v, n, rfl, R4, bd4, sm4, x4, hcu⟩
      obtain rfl := hcu rfl
      obtain ⟨na, nc, ga, gc, rfl, -, -⟩ := R4.form
      have HR := hid R4
      have HX4 := hid x4
      have r0 := (HG.out.blk HB1.out (by omega)).ext x4
      have HG6 := hid (HG.out.ext x4)
      have zx := x4.size
      have zg3 := HG.out.size
      have g0 := r0.cell 0 rfl
      have g1 := r0.cell 1 rfl
      have k0 := r0.free 0
      have k1 := r0.free 1
      have zR := r0.lt
      clear R4 x4 hcu r0 HC HG
      go_wp2
      refine bodyPost_ret (v := .agg #[.slice na cuP.ns.length nc, .slice ga cuP.gs.length gc]) (by simp [results, Tryz.results19, go_sem, *]) rfl ?_
      exact ⟨cuP, _, rfl, (HR.out.set2 (A := w.heap.size) (l2 := w.heap.size) (by omega) (by omega) (Nat.le_refl _) _ _).ext' (by repeat (with_reducible (first | assumption | exact Ext.refl _ | apply Ext.alloc | apply Ext.drew | apply Ext.drewN))), bd4, sm4, cu_chk, (((((Gr.refl B w).ext HX1.out).trans HG6.out).setNew (Nat.le_refl _) _ _).setNew (Nat.le_refl _) _ _).ext (by repeat (with_reducible (first | assumption | exact Ext.refl _ | apply Ext.alloc | apply Ext.drew | apply Ext.drewN)))⟩
set_option maxHeartbeats 800000 in
theorem MakeProgram_any (hi : Nat) (v : Value) (n : Nat) (w : World) (hv : Byts hi w v n) (hh : hi ≤ w.heap.size) (hn : n ≤ 1048576) :
    Calls Tryz.prog 6 #[v] w fun e w' => ∃ (p : Prg) (v : Value), e = .returned v ∧ p.R w.heap.size w'.heap.size w' v ∧ p.bd ∧ p.small ∧ p.chkB = true ∧ Ext w w' := by
  have HV := hid hv
  obtain ⟨a, cap, rfl, k1, k2⟩ := hv.open
  clear hv
  go_enter Tryz.func6, Tryz.ntmps6
  go_wp2_with fail
  refine (l01New_any hi _ n _ (HV.out.ext hh (by repeat (with_reducible (first | assumption | exact Ext.refl _ | apply Ext.alloc | apply Ext.drew | apply Ext.drewN)))) (by simp; omega) hn).mono ?_
  rintro e w1 ⟨B, rfl, hB, C1, x1⟩
  go_wp2_with fail
  refine (l14Good_any hi B _ C1).mono ?_
  rintro e w2 ⟨p, v2, rfl, R2, bd2, sm2, ch2, G2⟩
  obtain ⟨na, nc, ga, gc, rfl, -, -⟩ := R2.form
  rw [World.size_alloc] at hB
  have x1' : Ext w w1 := Ext.trans (by repeat (with_reducible (first | assumption | exact Ext.refl _ | apply Ext.alloc | apply Ext.drew | apply Ext.drewN))) x1
  have R0 := G2.blk ((Blk.new w 26 [.slice none 0 0, .slice none 0 0]).ext x1) (by omega)
  have r0 := R0.cell 0 rfl
  have r1 := R0.cell 1 rfl
  have f0 := R0.free 0
  have f1 := R0.free 1
  have z1 := R0.lt
  have zz := x1.size
  rw [World.size_alloc] at zz
  have HR := hid R2
  have HG := hid (G2.up x1' (by omega))
  clear R2
  go_wp2
  refine bodyPost_ret (v := .agg #[.slice na p.ns.length nc, .slice ga p.gs.length gc]) (by simp [results, Tryz.results6, go_sem, *]) rfl ?_
  exact ⟨p, _, rfl, HR.out.set2 (by omega) (by omega) (Nat.le_refl _) _ _, bd2, sm2, ch2, Ext.setCell (Ext.setCell HG.out (Nat.le_refl _) _) (Nat.le_refl _) _⟩
end Go.Proofs.YtaegmenjgjdimaaGreat
end

section
/- This text proves what the basic functions over vectors compute. -/
namespace Go.Proofs.YtaegmenjgjdimaaGreat
open Go.RowKit

/-- a vector as a value -/
def vecV (x y z : Int) : Value := .agg #[.int .i64 x, .int .i64 y, .int .i64 z]
def cl (n : Int) : Int := clampI n (-1000000) 1000000

theorem l02N_cl {n c : Int} (h : cl n = c) (w : World) : Calls Tryz.prog 137 #[.int .i64 n] w fun e w' => e = .returned (.int .i64 c) ∧ w = w' := by
  go_enter Tryz.func137, Tryz.ntmps137
  go_wp2_with fail
  refine (sClamp_val h _).mono ?_
  rintro e w1 ⟨rfl, rfl⟩
  go_wp2
  go_ret
  exact ⟨rfl, rfl⟩

set_option maxHeartbeats 800000 in
theorem l02V_val {x y z a b c : Int} (ha : cl x = a) (hb : cl y = b) (hc : cl z = c) (w : World) :
    Calls Tryz.prog 113 #[.agg #[.int .i64 x, .int .i64 y, .int .i64 z]] w fun e w' => e = .returned (.agg #[.int .i64 a, .int .i64 b, .int .i64 c]) ∧ Ext w w' := by
  have HA := hid ha
  have HB := hid hb
  have HC := hid hc
  clear ha hb hc
  go_enter Tryz.func113, Tryz.ntmps113
  go_wp2
  refine wp_region_stages [([0, 1, 3, 4, 6, 7], 2), ([], 5), ([], 8), ([9], 10)] 10 (w.heap.size + 1 + 1) (by kernel_rfl) (by kernel_rfl) ?_
  refine wpStages_cons ?_
  simp only [List.filterMap_cons, List.filterMap_nil, List.getElem?_toArray, List.getElem?_cons_zero, List.getElem?_cons_succ]
  show wpQuiet _ _ _ _ [_, _, _, _, _, _] _
  repeat (go_big_quiet_step (fail))
  refine wpQuiet_nil ⟨_, rfl, fun K hK => ?_⟩
  go_wp2_with fail
  refine (l02N_cl HA.out _).mono ?_
  rintro e w1 ⟨rfl, rfl⟩
  go_wp2_with fail
  refine hK _ _ (.inr (fun b _ hb => Ext.block (by repeat (with_reducible (first | assumption | exact Ext.refl _ | apply Ext.alloc | apply Ext.drew | apply Ext.drewN))) (by simp; omega))) ?_
  clear hK K
  refine wpStages_cons ?_
  simp only [List.filterMap_nil]
  show wpQuiet _ _ _ _ [] _
  try simp only [Act.put, List.setIfInBounds_toArray, List.set_cons_succ, List.set_cons_zero]
  refine wpQuiet_nil ⟨_, rfl, fun K hK => ?_⟩
  go_wp2_with fail
  refine (l02N_cl HB.out _).mono ?_
  rintro e w1 ⟨rfl, rfl⟩
  go_wp2_with fail
  refine hK _ _ (.inr (fun b _ hb => Ext.block (by repeat (with_reducible (first | assumption | exact Ext.refl _ | apply Ext.alloc | apply Ext.drew | apply Ext.drewN))) (by simp; omega))) ?_
  clear hK K
  refine wpStages_cons ?_
  simp only [List.filterMap_nil]
  show wpQuiet _ _ _ _ [] _
  try simp only [Act.put, List.setIfInBounds_toArray, List.set_cons_succ, List.set_cons_zero]
  refine wpQuiet_nil ⟨_, rfl, fun K hK => ?_⟩
  go_wp2_with fail
  refine (l02N_cl HC.out _).mono ?_
  rintro e w1 ⟨rfl, rfl⟩
  go_wp2_with fail
  refine hK _ _ (.inr (fun b _ hb => Ext.block (by repeat (with_reducible (first | assumption | exact Ext.refl _ | apply Ext.alloc | apply Ext.drew | apply Ext.drewN))) (by simp; omega))) ?_
  clear hK K
  refine wpStages_cons ?_
  simp only [List.filterMap_cons, List.filterMap_nil, List.getElem?_toArray, List.getElem?_cons_zero, List.getElem?_cons_succ]
  show wpQuiet _ _ _ _ [_] _
  try simp only [Act.put, List.setIfInBounds_toArray, List.set_cons_succ, List.set_cons_zero]
  repeat (go_big_quiet_step (fail))
  refine wpQuiet_nil ⟨_, rfl, fun K hK => ?_⟩
  go_wp2_with fail
  refine hK _ _ (.inl (by trivial)) (wpStages_nil ?_)
  clear hK K
  go_wp2
  exact bodyPost_ret (v := .agg #[.int .i64 a, .int .i64 b, .int .i64 c]) (by simp [results, Tryz.results113, go_sem, *]) rfl ⟨rfl, (by repeat (first | with_reducible assumption | with_reducible exact Ext.refl _ | with_reducible apply Ext.alloc | with_reducible apply Ext.drew | with_reducible apply Ext.drewN | (with_reducible refine Ext.setCell ?_ (by simp; omega) _) | (with_reducible refine Ext.setCell ?_ (by simp) _)))⟩
end Go.Proofs.YtaegmenjgjdimaaGreat
end

section
/- This text proves what sums, products and quotients of vectors compute. -/
namespace Go.Proofs.YtaegmenjgjdimaaGreat
open Go.RowKit

end Go.Proofs.YtaegmenjgjdimaaGreat
end
