/- This text proves that the program's ParseTexture reads a valid texture back from its text. -/
import Derived.Test.YtodblnccgpiigaaDoorTexF
namespace Go.Proofs.YtodblnccgpiigaaDoor
open Go.RowKit

/-- the variable that strings.Cut reads lies in w -/
def Cuts (w : World) : Prop := ∃ m, w.cell? ⟨0, 0, none⟩ = some (.int .i64 m)
theorem Cuts.ext {w w' : World} (h : Cuts w) (e : Ext w w') : Cuts w' := by
  obtain ⟨m, h⟩ := h
  exact ⟨m, (e.cells.1 _ 0 (Lib.lt_of_cell h)).trans h⟩
theorem cut_text {t : Tex} (hok : t.Ok) (w : World) (hc : Cuts w) :
    Calls Tryd.prog 49 #[.string t.text, .string ⟨#[58]⟩] w fun e w' => e = .returned (.tuple #[.string (fmtT t.log), .string (joinB (t.px.map fmtT) comB), .bool true]) ∧ Ext w w' := by
  obtain ⟨m, hm⟩ := hc
  have hp := hok.parts
  have hs : t.text.size < 4294967281 := by
    unfold Tex.text
    rw [ByteArray.size_append, ByteArray.size_append]
    have : colB.size = 1 := rfl
    omega
  refine (Tryd.strings_Cut t.text colB m w hs hm).mono ?_
  rintro e w' ⟨rfl, n, rfl⟩
  rw [hok.cut]
  exact ⟨rfl, (by repeat (with_reducible (first | assumption | exact Ext.refl _ | apply Ext.alloc | apply Ext.drew | apply Ext.drewN)))⟩

set_option maxHeartbeats 1600000 in
theorem iParseTexture_text (t : Tex) (w : World) (hok : t.Ok) (ht : Laid w) (hc : Cuts w) :
    Calls Tryd.prog 19 #[.string t.text] w fun e w' => ∃ v, e = .returned (.tuple #[v, .bool true]) ∧ OwnTex w.heap.size w' v t ∧ Ext w w' := by
  have HT := hid ht
  have HC := hid hc
  have HK := hid (Tex.okB_iff.2 hok)
  have hp := hok.parts
  have hi1 : inB t.log (-1000000000) 1000000000 = true := by have := hok.log0; have := hok.log4; rw [inB_iff]; omega
  have e1 := parse_fmt hi1
  have e2 := intsO_text (xs := t.px) (by intro e; have := hok.len256; rw [e] at this; simp at this) hok.in9
  have hlog : I64 t.log := by have := hok.log0; have := hok.log4; exact ⟨by omega, by omega⟩
  have hcut := hid (fun w hc => cut_text hok w hc)
  obtain ⟨A, hA⟩ : ∃ A, fmtT t.log = A := ⟨_, rfl⟩
  obtain ⟨B, hB⟩ : ∃ B, joinB (t.px.map fmtT) comB = B := ⟨_, rfl⟩
  rw [hA, hB] at hcut hp
  rw [hA] at e1
  rw [hB] at e2
  have hpa := hid (fun w ht => (by have h := iParseInt_any A w (by omega) ht; rw [e1] at h; exact h : Calls Tryd.prog 50 #[.string A] w fun e w' => e = .returned (.tuple #[.int .i64 t.log, .bool true]) ∧ Ext w w'))
  have hpb := hid (fun w ht => (by have h := iParseInts_any B w (by omega) ht; rw [e2] at h; exact h : Calls Tryd.prog 51 #[.string B] w fun e w' => ∃ v, e = .returned (.tuple #[v, .bool true]) ∧ OwnInts w.heap.size w' v t.px ∧ Ext w w'))
  obtain ⟨X, hX⟩ : ∃ X, t.text = X := ⟨_, rfl⟩
  rw [hX] at hcut ⊢
  have HL := hid hlog
  clear hok e1 e2 hA hB hX hi1 hlog ht hc
  go_enter Tryd.func19, Tryd.ntmps19
  go_wp2_with fail
  refine (hcut.out _ (HC.out.ext (by repeat (with_reducible (first | assumption | exact Ext.refl _ | apply Ext.alloc | apply Ext.drew | apply Ext.drewN))))).mono ?_
  rintro e w1 ⟨rfl, x1⟩
  have X1 : Ext w w1 := Ext.trans (by repeat (with_reducible (first | assumption | exact Ext.refl _ | apply Ext.alloc | apply Ext.drew | apply Ext.drewN))) x1
  go_wp2_with fail
  refine (hpa.out _ (HT.out.ext X1)).mono ?_
  rintro e w2 ⟨rfl, x2⟩
  have X2 := X1.trans x2
  go_wp2_with fail
  refine (hpb.out _ (HT.out.ext X2)).mono ?_
  rintro e w3 ⟨v3, rfl, o3, x3⟩
  obtain ⟨a3, c3, rfl, -⟩ := o3.form
  obtain ⟨n3, hn3⟩ : ∃ n, t.px.length = n := ⟨_, rfl⟩
  have R0 := (((Blk.new w 42 [.int .i64 0, .slice none 0 0]).ext x1).ext x2).ext x3
  have X3 := X2.trans x3
  have y3 : Ext w3 (w3.alloc (.cells #[.int .i64 t.log, .slice a3 t.px.length c3] 42)) := (by repeat (with_reducible (first | assumption | exact Ext.refl _ | apply Ext.alloc | apply Ext.drew | apply Ext.drewN)))
  have T3 : TexR 0 (w3.heap.size + 1) (w3.alloc (.cells #[.int .i64 t.log, .slice a3 t.px.length c3] 42)) (.agg #[.int .i64 t.log, .slice a3 t.px.length c3]) t := ⟨_, rfl, HL.out, (o3.ints.ext (Nat.le_refl _) y3).wide (Nat.zero_le _) (by omega)⟩
  have HO := hid (o3.ext y3)
  have D3 := Blk.new w3 42 [.int .i64 t.log, .slice a3 t.px.length c3]
  have HT3 := hid T3
  have sz : w.heap.size < w2.heap.size := by have := R0.lt; have h1 := x1.size; have h2 := x2.size; rw [World.size_alloc] at h1; omega
  clear o3 T3 hn3
  go_wp2_with fail
  refine (iIsValidTexture_any 0 _ _ t _ HT3.out (by simp)).mono ?_
  rw [HK.out]
  rintro e w4 ⟨rfl, x4⟩
  have R4 := (R0.ext y3).ext x4
  have D4 := D3.ext x4
  have c0 := D4.cell 0 rfl
  have c1 := D4.cell 1 rfl
  have r0 := R4.cell 0 rfl
  have r1 := R4.cell 1 rfl
  have f0 := R4.free 0
  have f1 := R4.free 1
  have z1 := R4.lt
  have z2 := D4.lt
  go_wp2
  refine bodyPost_ret (v := .tuple #[.agg #[.int .i64 t.log, .slice a3 t.px.length c3], .bool true]) (by simp [results, Tryd.results19, go_sem, *]) rfl ⟨_, rfl, ⟨_, rfl, HL.out, ?_⟩, ?_⟩
  · exact (((HO.out.ext x4).setLow (by simp; omega) _).setLow (by simp; omega) _).low (by omega)
  · exact (((X3.trans y3).trans x4).setCell (by simp) _).setCell (by simp) _

set_option maxHeartbeats 1600000 in
theorem sameInts_one (lo hi lo' hi' : Nat) (u v : Value) (xs : List Int) (w : World) (hu : Ints lo hi w u xs) (hv : Ints lo' hi' w v xs) :
    Calls Tryd.prog 24 #[u, v] w fun e w' => e = .returned (.bool true) ∧ Ext w w' := by
  obtain ⟨a, c, rfl, HU⟩ := hu.open
  obtain ⟨a', c', rfl, HV⟩ := hv.open
  have l1 := HU.le
  have l2 := HU.cap
  clear hu hv
  go_enter Tryd.func24, Tryd.ntmps24
  go_wp2
  go_loopw [14] (fun i wr => ∃ k : Nat, k ≤ xs.length ∧ i = .int .i64 k ∧ w = wr) (fun i _ => xs.length - (intOf i).toNat)
  case atStart => exact ⟨0, by omega, rfl, rfl⟩
  case round =>
    obtain ⟨k, hk, rfl, rfl⟩ := hrel
    by_cases hlt : k < xs.length
    · obtain ⟨b, off, rfl, -, hb, h1⟩ := HU.at hlt
      obtain ⟨b', off', rfl, -, hb', h2⟩ := HV.at hlt
      go_wp2
      go_roundw
      case rel => exact ⟨k + 1, by omega, by go_num, by trivial⟩
      case measure => simp [intOf]; omega
    · obtain rfl : k = xs.length := by omega
      go_wp2
      go_ret
      exact ⟨rfl, Ext.refl _⟩
end Go.Proofs.YtodblnccgpiigaaDoor
