/- This text proves what the texture functions of the reference compute. -/
import Derived.Test.YtaegmenjgjdimaaGreatL15a
namespace Go.Proofs.YtaegmenjgjdimaaGreat
open Go.RowKit

/-- p doubled m times is 2 to the L -/
def Dbl (p m L : Nat) : Prop := p * 2 ^ m = 2 ^ L
theorem Dbl.succ {p m L : Nat} (h : Dbl p (m + 1) L) : Dbl (2 * p) m L := by
  unfold Dbl at *
  rw [Nat.pow_succ] at h
  rw [← h, Nat.mul_comm 2 p, Nat.mul_assoc, Nat.mul_comm 2]
theorem Dbl.le {p m L : Nat} (h : Dbl p m L) (hL : L ≤ 30) : p ≤ 1073741824 := by
  unfold Dbl at h
  have h1 : 2 ^ L ≤ 2 ^ 30 := Nat.pow_le_pow_right (by omega) hL
  have h2 : p * 1 ≤ p * 2 ^ m := Nat.mul_le_mul_left p Nat.one_le_two_pow
  omega
theorem Dbl.done {p L : Nat} (h : Dbl p 0 L) : p = 2 ^ L := by unfold Dbl at h; simpa using h

set_option maxHeartbeats 400000 in
theorem l15Size_any (L : Nat) (hL : L ≤ 30) (w : World) : Calls Tryz.prog 85 #[.int .i64 L] w fun e w' => e = .returned (.int .i64 ((2 ^ L : Nat) : Int)) ∧ w = w' := by
  go_enter Tryz.func85, Tryz.ntmps85
  go_wp2
  go_loop [0, 3] (fun l n => ∃ m p : Nat, l = .int .i64 m ∧ n = .int .i64 p ∧ Dbl p m L ∧ m ≤ 30) (fun l _ => (intOf l).toNat)
  case atStart => exact ⟨L, 1, rfl, rfl, by simp [Dbl], hL⟩
  case round =>
    obtain ⟨m, p, rfl, rfl, hd, hm⟩ := hrel
    have HD := Lib.hid hd
    have hp := hd.le hL
    clear hd
    cases m with
    | zero =>
      go_wp2
      go_ret
      exact ⟨ret_int (by rw [HD.out.done, Int.natCast_pow]; rfl), rfl⟩
    | succ m =>
      go_wp2
      go_round
      case rel => exact ⟨m, 2 * p, rfl, by go_num, HD.out.succ, by omega⟩
      case measure => simp [intOf]

theorem wrapmod (x : Int) {n : Nat} (h1 : 1 ≤ n) (h2 : n ≤ 1000000) : (wrap64 (x.tmod n + n)).tmod n = fmod x n := by
  have h3 := Int.tmod_lt_of_pos x (show (0 : Int) < n by omega)
  have h4 := Int.lt_tmod_of_pos x (show (0 : Int) < n by omega)
  rw [wrap_small (by omega) (by omega), Int.tmod_eq_emod_of_nonneg (by omega), fmod, if_neg (by omega), Int.add_emod_right, Int.tmod_def, Int.sub_mul_emod_self_left]

theorem l15Size_tex {t : Tex} (h0 : 0 ≤ t.log) (h4 : t.log ≤ 4) (w : World) : Calls Tryz.prog 85 #[.int .i64 t.log] w fun e w' => e = .returned (.int .i64 t.n) ∧ w = w' := by
  have h := l15Size_any t.log.toNat (by omega) w
  rw [Int.toNat_of_nonneg h0] at h
  exact h

set_option maxHeartbeats 800000 in
theorem sIsValidTexture_any (lo hi : Nat) (v : Value) (t : Tex) (w : World) (hv : TexR lo hi w v t) (hh : hi ≤ w.heap.size) :
    Calls Tryz.prog 83 #[v] w fun e w' => e = .returned (.bool t.okB) ∧ Ext w w' := by
  obtain ⟨u, rfl, hlog, hu⟩ := hv
  obtain ⟨a, cap, rfl, HU⟩ := (hu.ext hh ((Ext.refl _).alloc (.cells #[.int .i64 t.log, u] 31))).open
  have hlen := HU.le
  have hcap := HU.cap
  clear hu
  by_cases h1 : 0 ≤ t.log ∧ t.log ≤ 4
  · have HB := hid (inB_iff.2 h1 : inB t.log 0 4 = true)
    have h10 := h1.1
    have h11 := h1.2
    clear h1
    have hnl : t.n ≤ 16 := Nat.pow_le_pow_right (n := 2) (by omega) (show t.log.toNat ≤ 4 by omega)
    have hnn : wrap64 ((t.n : Int) * (t.n : Int)) = ((t.n * t.n : Nat) : Int) := by
      rw [← Int.natCast_mul]
      have := Nat.mul_le_mul hnl hnl
      exact wrap_small (by omega) (by omega)
    by_cases h2 : t.px.length = t.n * t.n
    · have h3 : ((t.px.length : Int) != wrap64 ((t.n : Int) * (t.n : Int))) = false := by rw [hnn]; simp [h2]
      have H2 := hid h2
      clear h2 hnn
      go_enter Tryz.func83, Tryz.ntmps83
      go_wp2
      go_quiet ((first | (go_at_call 82; exact quiet_same (l01In_val HB.out _)) | (go_at_call 85; exact quiet_same (l15Size_tex h10 h11 _))))
      go_wp2
      go_loop [25] (fun i => ∃ k : Nat, k ≤ t.px.length ∧ i = .int .i64 k ∧ (t.px.take k).all (fun x => inB x 0 256) = true) (fun i => t.px.length - (intOf i).toNat)
      case atStart => exact ⟨0, by omega, rfl, rfl⟩
      case round =>
        obtain ⟨k, hk, rfl, hall⟩ := hrel
        have HA := Lib.hid hall
        clear hall
        by_cases hlt : k < t.px.length
        · obtain ⟨b, off, rfl, hb1, hb2, hc⟩ := HU.at hlt
          cases hin : inB t.px[k] 0 256
          · have HI := Lib.hid hin
            go_wp2_with (go_at_call 82; refine (l01In_val HI.out _).mono ?_; rintro e w' ⟨rfl, rfl⟩)
            go_ret
            exact ⟨ret_bool (by rw [Tex.okB, all_no hlt HI.out, Bool.and_false]), ((Ext.refl _).alloc _).drewN _⟩
          · have HI := Lib.hid hin
            go_wp2_with (go_at_call 82; refine (l01In_val HI.out _).mono ?_; rintro e w' ⟨rfl, rfl⟩)
            go_round
            case rel => exact ⟨k + 1, by omega, by go_num, all_step hlt HA.out HI.out⟩
            case measure => simp [intOf]; omega
        · go_wp2
          go_ret
          obtain rfl : k = t.px.length := by omega
          exact ⟨ret_bool (by rw [List.take_length] at HA; rw [Tex.okB, HB.out, H2.out, HA.out]; simp), ((Ext.refl _).alloc _).drewN _⟩
    · have h3 : ((t.px.length : Int) != wrap64 ((t.n : Int) * (t.n : Int))) = true := by rw [hnn, bne_iff_ne]; omega
      have H2 := hid h2
      clear h2 hnn
      go_enter Tryz.func83, Tryz.ntmps83
      go_wp2
      go_quiet ((first | (go_at_call 82; exact quiet_same (l01In_val HB.out _)) | (go_at_call 85; exact quiet_same (l15Size_tex h10 h11 _))))
      go_wp2
      go_ret
      exact ⟨ret_bool (by rw [Tex.okB, HB.out, decide_eq_false H2.out]; rfl), ((Ext.refl _).alloc _).drewN _⟩
  · have HB := hid (by rw [Bool.eq_false_iff]; intro h; exact h1 (inB_iff.1 h) : inB t.log 0 4 = false)
    clear h1
    go_enter Tryz.func83, Tryz.ntmps83
    go_wp2
    go_quiet ((first | (go_at_call 82; exact quiet_same (l01In_val HB.out _))))
    go_wp2
    go_ret
    exact ⟨ret_bool (by rw [Tex.okB, HB.out]; rfl), ((Ext.refl _).alloc _).drewN _⟩


end Go.Proofs.YtaegmenjgjdimaaGreat
