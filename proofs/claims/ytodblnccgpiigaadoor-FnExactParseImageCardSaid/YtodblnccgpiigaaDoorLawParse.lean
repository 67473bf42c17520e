/- This text walks the law FnExactParseImage. -/
import Derived.Test.YtodblnccgpiigaaDoorPicM
import Derived.Test.YtodblnccgpiigaaDoorImgS
import Derived.Test.YtodblnccgpiigaaDoorImgJ
namespace Go.Proofs.YtodblnccgpiigaaDoor
open Go.RowKit

theorem Blk.part {lo M : Nat} {w w' : World} {g : Nat} {t : TypeId} {cs : List Value} (h : Blk w g t cs) (p : Part lo M w w') (hg : g < lo ∨ M ≤ g) : Blk w' g t cs := h.of (p.block h.lt hg)
theorem resS_len (t : ByteArray) : (resS t).1.px.length ≤ 1048576 := by
  unfold resS
  split
  · rename_i h
    obtain ⟨W, H, e, hW, _, hH, hl, _⟩ := text_lines (text_of h.2.1 h.2.2)
    have h2 := Nat.mul_le_mul hH hW
    show (picS t).px.length ≤ _
    rw [hl]
    omega
  · simp

set_option maxRecDepth 10000 in
set_option maxHeartbeats 4000000 in
theorem lawParse (t : ByteArray) (W : World) (_hs : t.size ≤ maxLen) (ht : Laid W) :
    Calls Tryd.prog 4 #[.string t] W fun e w' => e = .returned (.bool true) ∧ Ext W w' := by
  have HT := hid ht
  clear ht
  by_cases hlen : t.size ≤ 1048576
  · have hil := resS_len t
    have hlen2 : t.size ≤ 10000000 := by omega
    have HS := fun (w : World) => sParseImage_any t w hlen2
    have HI := fun (w : World) (h : Laid w) => iParseImage_any t w hlen h
    simp only [res_same] at HI
    obtain ⟨I, hI⟩ : ∃ I, (resS t).1 = I := ⟨_, rfl⟩
    obtain ⟨ok, hok⟩ : ∃ b, (resS t).2 = b := ⟨_, rfl⟩
    rw [hI] at hil
    simp only [hI, hok] at HS HI
    obtain ⟨r, hr⟩ : ∃ r : Int, 1 + (I.px.length : Int) = r := ⟨_, rfl⟩
    have hr0 : 1 ≤ r := by omega
    have HR := hid hr
    replace HS := hid HS
    replace HI := hid HI
    clear hI hok hr hlen2
    go_enter Tryd.func4, Tryd.ntmps4
    go_wp2_with fail
    refine (HS.out _).mono ?_
    rintro e w1 ⟨v1, rfl, O1, x1⟩
    obtain ⟨a1, c1, rfl⟩ := O1.form
    have R1 := O1.R
    have y1 : Ext w1 (w1.alloc (.cells #[.int .i64 I.w, .int .i64 I.h, .slice a1 I.px.length c1] 25)) := (by repeat (with_reducible (first | assumption | exact Ext.refl _ | apply Ext.alloc | apply Ext.drew | apply Ext.drewN)))
    have C1 := Blk.new w1 25 [.int .i64 I.w, .int .i64 I.h, .slice a1 I.px.length c1]
    go_wp2_with fail
    refine (HI.out _ (HT.out.ext (x1.trans y1))).mono ?_
    rintro e w2 ⟨v2, rfl, O2, x2⟩
    obtain ⟨a2, c2, rfl⟩ := O2.form
    have E2 := (x1.trans y1).trans x2
    have s1 := x1.size
    have y2 : Ext w2 (w2.alloc (.cells #[.int .i64 I.w, .int .i64 I.h, .slice a2 I.px.length c2] 25)) := (by repeat (with_reducible (first | assumption | exact Ext.refl _ | apply Ext.alloc | apply Ext.drew | apply Ext.drewN)))
    have C2 := (C1.ext x2).ext y2
    have D2 := Blk.new w2 25 [.int .i64 I.w, .int .i64 I.h, .slice a2 I.px.length c2]
    have R2 := (R1.ext (Nat.le_refl _) (y1.trans x2)).ext (y1.trans x2).size y2
    have O22 := O2.ext y2
    have hu := O2.under
    have zz : w1.heap.size + 1 ≤ w2.heap.size := by have := x2.size; simpa using this
    have E3 := E2.trans y2
    clear E2 y1 C1 R1 O1 O2 x1 x2 y2
    have p0 := C2.cell 0 rfl
    have p1 := C2.cell 1 rfl
    have p2 := C2.cell 2 rfl
    have q0 := D2.cell 0 rfl
    have q1 := D2.cell 1 rfl
    have q2 := D2.cell 2 rfl
    have lc := C2.lt
    have ld := D2.lt
    go_wp2_with fail
    refine (eqImage_one _ _ _ _ _ _ I _ O22.R (Nat.le_refl _) R2 (by simp; omega)).mono ?_
    rintro e w3 ⟨rfl, x3⟩
    have C3 := C2.ext x3
    have D3 := D2.ext x3
    have R3 := R2.ext (by simp; omega) x3
    have O3 := O22.ext x3
    have E4 := E3.trans x3
    have z3 := x3.size
    simp only [World.size_alloc] at z3
    clear p0 p1 p2 q0 q1 q2 lc ld C2 D2 R2 O22 E3
    have p0 := C3.cell 0 rfl
    have p1 := C3.cell 1 rfl
    have p2 := C3.cell 2 rfl
    have q0 := D3.cell 0 rfl
    have q1 := D3.cell 1 rfl
    have q2 := D3.cell 2 rfl
    have lc := C3.lt
    have ld := D3.lt
    go_wp2_with fail
    refine (markImage_in HR.out (w1.heap.size + 1) w2.heap.size _ _ (by simpa using O3) hu (by omega) hil).mono ?_
    rintro e w4 ⟨rfl, O4, p4⟩
    have C4 := C3.part p4 (.inl (by omega))
    have D4 := D3.part p4 (.inr (by omega))
    have R4 := R3.same (w' := w4) (fun b _ hb => p4.low.block b (by omega))
    have E5 := p4.ext E4 (by omega)
    clear p0 p1 p2 q0 q1 q2 lc ld C3 D3 R3 O3 E4
    have q0 := D4.cell 0 rfl
    have q1 := D4.cell 1 rfl
    have q2 := D4.cell 2 rfl
    have ld := D4.lt
    go_wp2_with fail
    refine (heldImage_marked HR.out _ _ _ _ O4.R (Nat.le_refl _) hil).mono ?_
    rintro e w5 ⟨rfl, x5⟩
    go_wp2_with fail
    refine (HI.out _ (HT.out.ext (E5.trans x5))).mono ?_
    rintro e w6 ⟨v6, rfl, O6, x6⟩
    obtain ⟨a6, c6, rfl⟩ := O6.form
    have y6 : Ext w6 (w6.alloc (.cells #[.int .i64 I.w, .int .i64 I.h, .slice a6 I.px.length c6] 25)) := (by repeat (with_reducible (first | assumption | exact Ext.refl _ | apply Ext.alloc | apply Ext.drew | apply Ext.drewN)))
    have X6 := (x5.trans x6).trans y6
    have C6 := C4.ext X6
    have D6 := D4.ext X6
    have R6 := R4.ext (by have := p4.size; omega) X6
    have O46 := O4.ext X6
    have O66 := O6.ext y6
    have E6 := E5.trans X6
    have zx := X6.size
    have z4 := p4.size
    clear q0 q1 q2 ld C4 D4 R4 O4 O6 E5 x5 x6 y6 X6 p4
    have p0 := C6.cell 0 rfl
    have p1 := C6.cell 1 rfl
    have p2 := C6.cell 2 rfl
    have lc := C6.lt
    go_wp2_with fail
    refine (eqImage_one _ _ _ _ _ _ I _ O66.R (Nat.le_refl _) R6 (by omega)).mono ?_
    rintro e w7 ⟨rfl, x7⟩
    have D7 := D6.ext x7
    have O7 := O46.ext x7
    have E7 := E6.trans x7
    clear p0 p1 p2 lc C6 D6 R6 O46 O66 E6 x7
    have q0 := D7.cell 0 rfl
    have q1 := D7.cell 1 rfl
    have q2 := D7.cell 2 rfl
    have ld := D7.lt
    go_wp2_with fail
    refine (heldImage_marked HR.out _ _ _ _ O7.R (Nat.le_refl _) hil).mono ?_
    rintro e w8 ⟨rfl, x8⟩
    go_wp2_with fail
    go_ret
    exact ⟨rfl, E7.trans x8⟩
  · go_enter Tryd.func4, Tryd.ntmps4
    go_wp2
    go_ret
    exact ⟨rfl, Ext.refl _⟩
end Go.Proofs.YtodblnccgpiigaaDoor
