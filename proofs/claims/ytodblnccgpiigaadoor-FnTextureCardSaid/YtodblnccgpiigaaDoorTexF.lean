/- This text proves what the program's FormatTexture hands back for a valid texture. -/
import Derived.Test.YtodblnccgpiigaaDoorIntsF
import Derived.Test.YtodblnccgpiigaaDoorL15a
import Derived.Lib.IndexBytes
import Derived.Lib.IndexMore
namespace Go.Proofs.YtodblnccgpiigaaDoor
open Go.RowKit

def colB : ByteArray := ⟨#[58]⟩
/-- the text of a texture -/
def Tex.text (t : Tex) : ByteArray := (fmtT t.log ++ colB) ++ joinB (t.px.map fmtT) comB
theorem Tex.Ok.in9 {t : Tex} (h : t.Ok) : ∀ x ∈ t.px, inB x (-1000000000) 1000000000 = true := fun x hx => by
  have := h.all x hx
  rw [inB_iff]
  omega
theorem Tex.Ok.len256 {t : Tex} (h : t.Ok) : 1 ≤ t.px.length ∧ t.px.length ≤ 256 := by
  rw [h.len]
  exact ⟨Nat.mul_le_mul h.n_pos h.n_pos, Nat.mul_le_mul h.n_le h.n_le⟩
theorem Tex.Ok.parts {t : Tex} (h : t.Ok) : (fmtT t.log).size ≤ 11 ∧ (joinB (t.px.map fmtT) comB).size ≤ 256 * 22 := by
  refine ⟨fmtT_size _, ?_⟩
  have h1 := joinB_size (t.px.map fmtT) comB 11 (fun x hx => by
    obtain ⟨n, _, rfl⟩ := List.mem_map.1 hx
    exact fmtT_size n) (by decide)
  rw [List.length_map] at h1
  exact Nat.le_trans h1 (Nat.mul_le_mul_right _ h.len256.2)

theorem indexByte_at (c : UInt8) : ∀ (A B : List UInt8), (∀ d ∈ A, d ≠ c) → Lib.indexByte (A ++ c :: B) c = A.length
  | [], B, _ => by simp [Lib.indexByte]
  | d :: A, B, h => by
    have hd : (d == c) = false := by rw [beq_eq_false_iff_ne]; exact h d (by simp)
    have ih := indexByte_at c A B (fun x hx => h x (by simp [hx]))
    simp only [List.cons_append, Lib.indexByte, hd]
    rw [ih, if_neg (by simp), if_neg (by simp)]
    simp
theorem cut_at (c : UInt8) (A B : List UInt8) (h : ∀ d ∈ A, d ≠ c) : Lib.cut (A ++ c :: B) [c] = (A, B, true) := by
  have hi : Lib.index (A ++ c :: B) [c] = A.length := by rw [Lib.index_one]; exact indexByte_at c A B h
  unfold Lib.cut
  rw [hi, if_pos (by omega), Int.toNat_natCast]
  simp
theorem Tex.Ok.cut {t : Tex} (_h : t.Ok) : Lib.cut t.text.data.toList colB.data.toList = ((fmtT t.log).data.toList, (joinB (t.px.map fmtT) comB).data.toList, true) := by
  have e : t.text.data.toList = (fmtT t.log).data.toList ++ 58 :: (joinB (t.px.map fmtT) comB).data.toList := by
    unfold Tex.text
    rw [Go.Joins.data_append, Go.Joins.data_append, List.append_assoc]
    rfl
  rw [e]
  refine cut_at 58 _ _ fun d hd e => ?_
  subst e
  rcases fmtT_bytes t.log _ hd with h | h
  · cases h
  · simp at h

set_option maxHeartbeats 1600000 in
theorem iFormatTexture_ok (lo hi : Nat) (v : Value) (t : Tex) (w : World) (hv : TexR lo hi w v t) (hh : hi ≤ w.heap.size) (hok : t.Ok) (ht : Tab w) :
    Calls Tryd.prog 20 #[v] w fun e w' => e = .returned (.string t.text) ∧ Ext w w' := by
  have HV := hid hv
  have HT := hid ht
  have HK := hid (Tex.okB_iff.2 hok)
  obtain ⟨u, rfl, hlog, hu⟩ := hv
  obtain ⟨a, cap, rfl, HU⟩ := hu.open
  have hl := hok.len256
  have hp := hok.parts
  have h9 := hid hok.in9
  have h0 := hok.log0
  have h4 := hok.log4
  have HUI := hid hu
  have l2 := HU.cap
  obtain ⟨A, hA⟩ : ∃ A, fmtT t.log = A := ⟨_, rfl⟩
  obtain ⟨B, hB⟩ : ∃ B, joinB (t.px.map fmtT) comB = B := ⟨_, rfl⟩
  have htx : t.text = (A ++ colB) ++ B := by unfold Tex.text; rw [hA, hB]
  rw [hA, hB] at hp
  have hfa := hid (fun w ht => hA ▸ iFormatInt_any t.log w hlog ht)
  have hfb := hid (fun w hu hh ht => hB ▸ iFormatInts_in lo hi (.slice a t.px.length cap) t.px w hu hh hl.1 (by omega) h9.out ht)
  have hs1 : (A ++ colB).size = A.size + 1 := by rw [ByteArray.size_append]; rfl
  rw [htx]
  clear hu hlog hok ht hA hB htx HU
  go_enter Tryd.func20, Tryd.ntmps20
  go_wp2_with fail
  refine (iIsValidTexture_any lo hi _ t _ (HV.out.ext hh (by repeat (with_reducible (first | assumption | exact Ext.refl _ | apply Ext.alloc | apply Ext.drew | apply Ext.drewN)))) (by simp; omega)).mono ?_
  rw [HK.out]
  rintro e w1 ⟨rfl, x1⟩
  have X1 : Ext w w1 := Ext.trans (by repeat (with_reducible (first | assumption | exact Ext.refl _ | apply Ext.alloc | apply Ext.drew | apply Ext.drewN))) x1
  have B1 := (Blk.new w 42 [.int .i64 t.log, .slice a t.px.length cap]).ext x1
  have c0 := B1.cell 0 rfl
  have c1 := B1.cell 1 rfl
  have z1 := B1.lt
  go_wp2
  refine wp_region_ext (by kernel_rfl) (by kernel_rfl) ?_
  repeat (go_big_quiet_step (first
    | (go_at_call 53; exact grow_call (hfa.out _ (HT.out.ext (X1.trans (grow_ext _ _)))))
    | (go_at_call 54; exact grow_call (hfb.out _ (HUI.out.ext hh (X1.trans (grow_ext _ _))) (Nat.le_trans hh (X1.trans (grow_ext _ _)).size) (HT.out.ext (X1.trans (grow_ext _ _)))))))
  refine wpQuiet_nil ?_
  intro w2 x2
  go_wp2
  go_ret
  exact ⟨rfl, X1.trans x2⟩
end Go.Proofs.YtodblnccgpiigaaDoor
