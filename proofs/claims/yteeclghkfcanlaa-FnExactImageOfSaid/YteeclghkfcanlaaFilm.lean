/- This text holds the reading of films and images, and when a film is valid and complete: the program's word and the reference's. -/
import Derived.Test.YteeclghkfcanlaaL15a
import Derived.Test.YteeclghkfcanlaaFlat
namespace Go.Proofs.Yteeclghkfcanlaa
open Go.RowKit

/-- v reads in w as n booleans, boolean i being f i -/
def Bools (lo hi : Nat) (w : World) (v : Value) (n : Nat) (f : Nat → Bool) : Prop :=
  ∃ a cap, v = .slice a n cap ∧ n ≤ cap ∧ cap ≤ maxLen ∧ ∀ i, i < n → ∃ b off, a = some ⟨b, off, none⟩ ∧ lo ≤ b ∧ b < hi ∧ w.cell? ⟨b, off + i, none⟩ = some (.bool (f i))
theorem Bools.same {lo hi : Nat} {w w' : World} {v : Value} {n : Nat} {f : Nat → Bool} (h : Bools lo hi w v n f) (s : Same lo hi w w') : Bools lo hi w' v n f := by
  obtain ⟨a, cap, h1, h2, h3, h4⟩ := h
  refine ⟨a, cap, h1, h2, h3, fun i hx => ?_⟩
  obtain ⟨b, off, h6, h7, h8, h9⟩ := h4 i hx
  exact ⟨b, off, h6, h7, h8, by rw [s.cell h7 h8]; exact h9⟩
theorem Bools.ext {lo hi : Nat} {w w' : World} {v : Value} {n : Nat} {f : Nat → Bool} (h : Bools lo hi w v n f) (hh : hi ≤ w.heap.size) (e : Ext w w') : Bools lo hi w' v n f := h.same (e.same hh)
/-- what Bools says of a slice whose value is written out -/
structure BoolsAt (lo hi : Nat) (w : World) (a : Option Addr) (cap n : Nat) (f : Nat → Bool) : Prop where
  le : n ≤ cap
  cap : cap ≤ 9223372036854775807
  cell : ∀ i, i < n → ∃ b off, a = some ⟨b, off, none⟩ ∧ lo ≤ b ∧ b < hi ∧ w.cell? ⟨b, off + i, none⟩ = some (.bool (f i))
theorem Bools.open {lo hi : Nat} {w : World} {v : Value} {n : Nat} {f : Nat → Bool} (h : Bools lo hi w v n f) : ∃ a cap, v = .slice a n cap ∧ BoolsAt lo hi w a cap n f := by
  obtain ⟨a, cap, g1, g2, g3, g4⟩ := h
  exact ⟨a, cap, g1, g2, by unfold maxLen at g3; omega, g4⟩

/-- a film: sides, pixels, which of them are done -/
structure Fm where
  (w h : Int) (px : List Int) (n : Nat) (dn : Nat → Bool)
def Fm.R (F : Fm) (lo hi : Nat) (w : World) (v : Value) : Prop := ∃ u d, v = .agg #[.int .i64 F.w, .int .i64 F.h, u, d] ∧ I64 F.w ∧ I64 F.h ∧ Ints lo hi w u F.px ∧ Bools lo hi w d F.n F.dn
theorem Fm.R.same {F : Fm} {lo hi : Nat} {w w' : World} {v : Value} (h : F.R lo hi w v) (s : Same lo hi w w') : F.R lo hi w' v := by
  obtain ⟨u, d, h1, h2, h3, h4, h5⟩ := h
  exact ⟨u, d, h1, h2, h3, h4.same s, h5.same s⟩
theorem Fm.R.ext {F : Fm} {lo hi : Nat} {w w' : World} {v : Value} (h : F.R lo hi w v) (hh : hi ≤ w.heap.size) (e : Ext w w') : F.R lo hi w' v := h.same (e.same hh)
/-- pixel k is done or zero -/
def Fm.good (F : Fm) (k : Nat) : Bool := F.dn k || decide (F.px.getD k 0 = 0)
def Fm.okB (F : Fm) : Bool := inB F.w 1 12 && inB F.h 1 12 && decide ((F.px.length : Int) = F.w * F.h) && decide ((F.n : Int) = F.w * F.h) && F.px.all (fun n => inB n 0 256) && (List.range F.n).all F.good
def Fm.done (F : Fm) : Bool := F.okB && (List.range F.n).all F.dn
theorem prod_bd {a b : Int} (h1 : inB a 1 12 = true) (h2 : inB b 1 12 = true) : 1 ≤ a * b ∧ a * b ≤ 144 := by
  rw [inB_iff] at h1 h2
  have h3 : 0 ≤ (a - 1) * (b - 1) := Int.mul_nonneg (by omega) (by omega)
  have h4 : 0 ≤ (12 - a) * (b - 1) := Int.mul_nonneg (by omega) (by omega)
  have e3 : (a - 1) * (b - 1) = a * b - a - b + 1 := by rw [Int.sub_mul, Int.mul_sub, Int.mul_one, Int.one_mul]; omega
  have e4 : (12 - a) * (b - 1) = 12 * b - 12 - (a * b - a) := by rw [Int.sub_mul, Int.mul_sub, Int.mul_sub, Int.mul_one, Int.mul_one]
  omega
theorem range_all_take {f : Nat → Bool} {n : Nat} (h : ∀ i, i < n → f i = true) : (List.range n).all f = true := List.all_eq_true.2 fun i hi => h i (List.mem_range.1 hi)
theorem range_all_no {f : Nat → Bool} {n i : Nat} (hi : i < n) (h : f i = false) : (List.range n).all f = false := by
  rw [List.all_eq_false]
  exact ⟨i, List.mem_range.2 hi, by simp [h]⟩

set_option maxHeartbeats 800000 in
theorem sizeOk_val {a b : Int} {r : Bool} (h : (inB a 1 12 && inB b 1 12) = r) (w : World) : Calls Try.prog 124 #[.int .i64 a, .int .i64 b] w fun e w' => e = .returned (.bool r) ∧ w = w' := by
  subst h
  cases h1 : inB a 1 12
  · go_enter Try.func124, Try.ntmps124
    go_wp2_with (go_at_call 86; refine (within_val h1 _).mono ?_; rintro e w1 ⟨rfl, rfl⟩)
    go_ret
    exact ⟨rfl, rfl⟩
  · cases h2 : inB b 1 12
    all_goals go_enter Try.func124, Try.ntmps124
    all_goals go_wp2_with (go_at_call 86; with_reducible first | (refine (within_val h1 _).mono ?_; rintro e w1 ⟨rfl, rfl⟩) | (refine (within_val h2 _).mono ?_; rintro e w1 ⟨rfl, rfl⟩))
    all_goals go_ret
    all_goals exact ⟨rfl, rfl⟩

set_option maxHeartbeats 1600000 in
theorem iIsValidFilm_any (lo hi : Nat) (v : Value) (F : Fm) (w : World) (hv : F.R lo hi w v) (hh : hi ≤ w.heap.size) :
    Calls Try.prog 99 #[v] w fun e w' => e = .returned (.bool F.okB) ∧ Ext w w' := by
  obtain ⟨u, d, rfl, hw, hh', hu, hd⟩ := hv
  obtain ⟨a, cap, rfl, HU⟩ := (hu.ext hh ((Ext.refl w).alloc (.cells #[.int .i64 F.w, .int .i64 F.h, u, d] 43))).open
  obtain ⟨a', cap', rfl, HD⟩ := (hd.ext hh ((Ext.refl w).alloc (.cells #[.int .i64 F.w, .int .i64 F.h, .slice a F.px.length cap, d] 43))).open
  have l1 := HU.le
  have l2 := HU.cap
  have l3 := HD.le
  have l4 := HD.cap
  have HUI := hid HU.shut
  clear hu hd hw hh'
  cases h1 : (inB F.w 1 12 && inB F.h 1 12)
  · have e : F.okB = false := by unfold Fm.okB; rw [h1]; rfl
    rw [e]
    go_enter Try.func99, Try.ntmps99
    go_wp2_with (go_at_call 124; refine (sizeOk_val h1 _).mono ?_; rintro e w1 ⟨rfl, rfl⟩)
    go_ret
    exact ⟨rfl, (by repeat (with_reducible (first | assumption | exact Ext.refl _ | apply Ext.alloc | apply Ext.drew | apply Ext.drewN)))⟩
  · have hb := h1
    simp only [Bool.and_eq_true] at hb
    have hp := prod_bd hb.1 hb.2
    obtain ⟨P, hP⟩ : ∃ P, F.w * F.h = P := ⟨_, rfl⟩
    rw [hP] at hp
    by_cases h2 : (F.px.length : Int) = P
    · by_cases h3 : (F.n : Int) = P
      · have e2 : ((F.px.length : Int) != P) = false := by simp [h2]
        have e3 : ((F.n : Int) != P) = false := by simp [h3]
        have hlen : F.n = F.px.length := by omega
        have hOK : F.okB = (F.px.all (fun n => inB n 0 256) && (List.range F.n).all F.good) := by unfold Fm.okB; rw [h1, hP]; simp [h2, h3]
        rw [hOK]
        have H2 := hid h2
        have H3 := hid h3
        have HL := hid hlen
        cases h4 : F.px.all (fun n => inB n 0 256)
        · have HAW := fun w0 : World => fun hu => h4 ▸ allWithin_any lo hi (.slice a F.px.length cap) F.px 0 256 w0 hu
          have HAW := hid HAW
          clear h2 h3 hlen hOK
          go_enter Try.func99, Try.ntmps99
          go_wp2_with (first
            | (go_at_call 124; refine (sizeOk_val h1 _).mono ?_; rintro e w1 ⟨rfl, rfl⟩)
            | (go_at_call 103; refine (HAW.out _ HUI.out).mono ?_; rintro e w1 ⟨rfl, rfl⟩))
          go_ret
          exact ⟨rfl, (by repeat (with_reducible (first | assumption | exact Ext.refl _ | apply Ext.alloc | apply Ext.drew | apply Ext.drewN)))⟩
        · have HAW := fun w0 : World => fun hu => h4 ▸ allWithin_any lo hi (.slice a F.px.length cap) F.px 0 256 w0 hu
          have HAW := hid HAW
          clear h2 h3 hlen hOK
          go_enter Try.func99, Try.ntmps99
          go_wp2_with (first
            | (go_at_call 124; refine (sizeOk_val h1 _).mono ?_; rintro e w1 ⟨rfl, rfl⟩)
            | (go_at_call 103; refine (HAW.out _ HUI.out).mono ?_; rintro e w1 ⟨rfl, rfl⟩))
          go_loopw [42] (fun i wr => ∃ k : Nat, k ≤ F.n ∧ i = .int .i64 k ∧ (∀ j, j < k → F.good j = true) ∧ w.alloc (.cells #[.int .i64 F.w, .int .i64 F.h, .slice a F.px.length cap, .slice a' F.n cap'] 43) = wr) (fun i _ => F.n - (intOf i).toNat)
          case atStart => exact ⟨0, by omega, rfl, fun j h => by omega, rfl⟩
          case round =>
            obtain ⟨k, hk, rfl, hg, rfl⟩ := hrel
            have HG := hid hg
            clear hg
            by_cases hlt : k < F.n
            · have hlt' : k < F.px.length := by rw [← HL.out]; exact hlt
              obtain ⟨b, off, rfl, hb1, hb2, hc⟩ := HD.cell k hlt
              obtain ⟨b2, off2, rfl, hb3, hb4, hc2⟩ := HU.at hlt'
              have hgd : F.px.getD k 0 = F.px[k] := by simp [hlt']
              cases hd : F.dn k
              · by_cases hz : F.px[k] = 0
                · have HZ := hid (show F.good k = true by unfold Fm.good; rw [hd, hgd, hz]; rfl)
                  rw [hd] at hc
                  clear hgd
                  have hz' : (F.px[k] != 0) = false := by simp [hz]
                  have HZ0 := hid hz
                  clear hz
                  go_wp2
                  go_roundw
                  case rel => exact ⟨k + 1, by omega, by go_num, fun j hj => by
                    by_cases e : j = k
                    · subst e; exact HZ.out
                    · exact HG.out j (by omega), by simp⟩
                  case measure => simp [intOf]; omega
                · have HZ := hid (show F.good k = false by unfold Fm.good; rw [hd, hgd]; simp [hz])
                  rw [hd] at hc
                  clear hgd
                  have hz' : (F.px[k] != 0) = true := by simp [hz]
                  clear hz
                  go_wp2
                  go_ret
                  exact ⟨ret_bool (by rw [range_all_no hlt HZ.out]; rfl), (by repeat (with_reducible (first | assumption | exact Ext.refl _ | apply Ext.alloc | apply Ext.drew | apply Ext.drewN)))⟩
              · have HZ := hid (show F.good k = true by unfold Fm.good; rw [hd]; rfl)
                rw [hd] at hc
                clear hgd
                go_wp2
                go_roundw
                case rel => exact ⟨k + 1, by omega, by go_num, fun j hj => by
                  by_cases e : j = k
                  · subst e; exact HZ.out
                  · exact HG.out j (by omega), by simp⟩
                case measure => simp [intOf]; omega
            · go_wp2
              go_ret
              exact ⟨ret_bool (by rw [range_all_take (fun i hi => HG.out i (by omega))]; rfl), (by repeat (with_reducible (first | assumption | exact Ext.refl _ | apply Ext.alloc | apply Ext.drew | apply Ext.drewN)))⟩
      · have e : F.okB = false := by unfold Fm.okB; rw [hP]; simp [h3]
        rw [e]
        have e2 : ((F.px.length : Int) != P) = false := by simp [h2]
        have e3 : ((F.n : Int) != P) = true := by simp [h3]
        clear e h2 h3
        go_enter Try.func99, Try.ntmps99
        go_wp2_with (go_at_call 124; refine (sizeOk_val h1 _).mono ?_; rintro e w1 ⟨rfl, rfl⟩)
        go_ret
        exact ⟨rfl, (by repeat (with_reducible (first | assumption | exact Ext.refl _ | apply Ext.alloc | apply Ext.drew | apply Ext.drewN)))⟩
    · have e : F.okB = false := by unfold Fm.okB; rw [hP]; simp [h2]
      rw [e]
      have e2 : ((F.px.length : Int) != P) = true := by simp [h2]
      clear e h2
      go_enter Try.func99, Try.ntmps99
      go_wp2_with (go_at_call 124; refine (sizeOk_val h1 _).mono ?_; rintro e w1 ⟨rfl, rfl⟩)
      go_ret
      exact ⟨rfl, (by repeat (with_reducible (first | assumption | exact Ext.refl _ | apply Ext.alloc | apply Ext.drew | apply Ext.drewN)))⟩
set_option maxHeartbeats 1600000 in
theorem sIsValidFilm_any (lo hi : Nat) (v : Value) (F : Fm) (w : World) (hv : F.R lo hi w v) (hh : hi ≤ w.heap.size) :
    Calls Try.prog 98 #[v] w fun e w' => e = .returned (.bool F.okB) ∧ Ext w w' := by
  obtain ⟨u, d, rfl, hw, hh', hu, hd⟩ := hv
  obtain ⟨a, cap, rfl, HU⟩ := (hu.ext hh ((Ext.refl w).alloc (.cells #[.int .i64 F.w, .int .i64 F.h, u, d] 43))).open
  obtain ⟨a', cap', rfl, HD⟩ := (hd.ext hh ((Ext.refl w).alloc (.cells #[.int .i64 F.w, .int .i64 F.h, .slice a F.px.length cap, d] 43))).open
  have l1 := HU.le
  have l2 := HU.cap
  have l3 := HD.le
  have l4 := HD.cap
  clear hu hd hw hh'
  cases h1 : inB F.w 1 12
  · have e : F.okB = false := by unfold Fm.okB; rw [h1]; rfl
    rw [e]
    go_enter Try.func98, Try.ntmps98
    go_wp2_with (go_at_call 101; refine (l01In_val h1 _).mono ?_; rintro e w1 ⟨rfl, rfl⟩)
    go_ret
    exact ⟨rfl, (by repeat (with_reducible (first | assumption | exact Ext.refl _ | apply Ext.alloc | apply Ext.drew | apply Ext.drewN)))⟩
  cases h1' : inB F.h 1 12
  · have e : F.okB = false := by unfold Fm.okB; rw [h1, h1']; rfl
    rw [e]
    go_enter Try.func98, Try.ntmps98
    go_wp2_with (go_at_call 101; with_reducible first | (refine (l01In_val h1 _).mono ?_; rintro e w1 ⟨rfl, rfl⟩) | (refine (l01In_val h1' _).mono ?_; rintro e w1 ⟨rfl, rfl⟩))
    go_ret
    exact ⟨rfl, (by repeat (with_reducible (first | assumption | exact Ext.refl _ | apply Ext.alloc | apply Ext.drew | apply Ext.drewN)))⟩
  have hp := prod_bd h1 h1'
  obtain ⟨P, hP⟩ : ∃ P, F.w * F.h = P := ⟨_, rfl⟩
  rw [hP] at hp
  by_cases h2 : (F.px.length : Int) = P
  · by_cases h3 : (F.n : Int) = P
    · have e2 : ((F.px.length : Int) != P) = false := by simp [h2]
      have e3 : ((F.n : Int) != P) = false := by simp [h3]
      have hlen : F.n = F.px.length := by omega
      have hOK : F.okB = (F.px.all (fun n => inB n 0 256) && (List.range F.n).all F.good) := by unfold Fm.okB; rw [h1, h1', hP]; simp [h2, h3]
      rw [hOK]
      have HL := hid hlen
      clear h2 h3 hlen hOK
      go_enter Try.func98, Try.ntmps98
      go_wp2_with (go_at_call 101; with_reducible first | (refine (l01In_val h1 _).mono ?_; rintro e w1 ⟨rfl, rfl⟩) | (refine (l01In_val h1' _).mono ?_; rintro e w1 ⟨rfl, rfl⟩))
      go_loopw [40] (fun i wr => ∃ k : Nat, k ≤ F.px.length ∧ i = .int .i64 k ∧ (F.px.take k).all (fun n => inB n 0 256) = true ∧ (∀ j, j < k → F.good j = true) ∧ w.alloc (.cells #[.int .i64 F.w, .int .i64 F.h, .slice a F.px.length cap, .slice a' F.n cap'] 43) = wr) (fun i _ => F.px.length - (intOf i).toNat)
      case atStart => exact ⟨0, by omega, rfl, rfl, fun j h => by omega, rfl⟩
      case round =>
        obtain ⟨k, hk, rfl, ha, hg, rfl⟩ := hrel
        have HG := hid hg
        have HA := hid ha
        clear hg ha
        by_cases hlt' : k < F.px.length
        · have hlt : k < F.n := by rw [HL.out]; exact hlt'
          obtain ⟨b, off, rfl, hb1, hb2, hc⟩ := HD.cell k hlt
          obtain ⟨b2, off2, rfl, hb3, hb4, hc2⟩ := HU.at hlt'
          have hgd : F.px.getD k 0 = F.px[k] := by simp [hlt']
          cases hin : inB F.px[k] 0 256
          · have HI := hid hin
            clear hgd
            go_wp2_with (go_at_call 101; refine (l01In_val HI.out _).mono ?_; rintro e w1 ⟨rfl, rfl⟩)
            go_ret
            exact ⟨ret_bool (by rw [all_no (p := fun n => inB n 0 256) hlt' HI.out]; rfl), (by repeat (with_reducible (first | assumption | exact Ext.refl _ | apply Ext.alloc | apply Ext.drew | apply Ext.drewN)))⟩
          · have HI := hid hin
            have HA2 := hid (all_step (p := fun n => inB n 0 256) hlt' HA.out HI.out)
            clear hin
            cases hd : F.dn k
            · by_cases hz : F.px[k] = 0
              · have HZ := hid (show F.good k = true by unfold Fm.good; rw [hd, hgd, hz]; rfl)
                rw [hd] at hc
                clear hgd
                have hz' : (F.px[k] != 0) = false := by simp [hz]
                clear hz
                go_wp2_with (go_at_call 101; refine (l01In_val HI.out _).mono ?_; rintro e w1 ⟨rfl, rfl⟩)
                go_roundw
                case rel => exact ⟨k + 1, by omega, by go_num, HA2.out, fun j hj => by
                  by_cases e : j = k
                  · subst e; exact HZ.out
                  · exact HG.out j (by omega), by simp⟩
                case measure => simp [intOf]; omega
              · have HZ := hid (show F.good k = false by unfold Fm.good; rw [hd, hgd]; simp [hz])
                rw [hd] at hc
                clear hgd
                have hz' : (F.px[k] != 0) = true := by simp [hz]
                clear hz
                go_wp2_with (go_at_call 101; refine (l01In_val HI.out _).mono ?_; rintro e w1 ⟨rfl, rfl⟩)
                go_ret
                exact ⟨ret_bool (by rw [range_all_no hlt HZ.out, Bool.and_false]), (by repeat (with_reducible (first | assumption | exact Ext.refl _ | apply Ext.alloc | apply Ext.drew | apply Ext.drewN)))⟩
            · have HZ := hid (show F.good k = true by unfold Fm.good; rw [hd]; rfl)
              rw [hd] at hc
              clear hgd
              go_wp2_with (go_at_call 101; refine (l01In_val HI.out _).mono ?_; rintro e w1 ⟨rfl, rfl⟩)
              go_roundw
              case rel => exact ⟨k + 1, by omega, by go_num, HA2.out, fun j hj => by
                by_cases e : j = k
                · subst e; exact HZ.out
                · exact HG.out j (by omega), by simp⟩
              case measure => simp [intOf]; omega
        · go_wp2
          go_ret
          have e1 : F.px.take k = F.px := List.take_of_length_le (by omega)
          have e2 := HA.out
          rw [e1] at e2
          exact ⟨ret_bool (by rw [e2, range_all_take (fun i hi => HG.out i (by have := HL.out; omega))]; rfl), (by repeat (with_reducible (first | assumption | exact Ext.refl _ | apply Ext.alloc | apply Ext.drew | apply Ext.drewN)))⟩
    · have e : F.okB = false := by unfold Fm.okB; rw [hP]; simp [h3]
      rw [e]
      have e2 : ((F.px.length : Int) != P) = false := by simp [h2]
      have e3 : ((F.n : Int) != P) = true := by simp [h3]
      clear e h2 h3
      go_enter Try.func98, Try.ntmps98
      go_wp2_with (go_at_call 101; with_reducible first | (refine (l01In_val h1 _).mono ?_; rintro e w1 ⟨rfl, rfl⟩) | (refine (l01In_val h1' _).mono ?_; rintro e w1 ⟨rfl, rfl⟩))
      go_ret
      exact ⟨rfl, (by repeat (with_reducible (first | assumption | exact Ext.refl _ | apply Ext.alloc | apply Ext.drew | apply Ext.drewN)))⟩
  · have e : F.okB = false := by unfold Fm.okB; rw [hP]; simp [h2]
    rw [e]
    have e2 : ((F.px.length : Int) != P) = true := by simp [h2]
    clear e h2
    go_enter Try.func98, Try.ntmps98
    go_wp2_with (go_at_call 101; with_reducible first | (refine (l01In_val h1 _).mono ?_; rintro e w1 ⟨rfl, rfl⟩) | (refine (l01In_val h1' _).mono ?_; rintro e w1 ⟨rfl, rfl⟩))
    go_ret
    exact ⟨rfl, (by repeat (with_reducible (first | assumption | exact Ext.refl _ | apply Ext.alloc | apply Ext.drew | apply Ext.drewN)))⟩
end Go.Proofs.Yteeclghkfcanlaa
