/- This text proves what the reference's FormatImage hands back. -/
import Derived.Test.YtodblnccgpiigaaDoorPgm3
import Derived.Test.YtodblnccgpiigaaDoorPlan
namespace Go.Proofs.YtodblnccgpiigaaDoor
open Go.RowKit

theorem toNat_add (p W : Nat) : ((p : Int) + W).toNat = p + W := by omega
/-- what the reference has written behind k rows -/
def specB (px : List Int) (W H : Nat) : Nat → ByteArray
  | 0 => ((((⟨#[80, 50, 10]⟩ : ByteArray) ++ fmtT W) ++ ⟨#[32]⟩) ++ fmtT H) ++ ⟨#[10, 50, 53, 54, 10]⟩
  | k + 1 => (specB px W H k ++ lineL px W k) ++ nlB
theorem specB_eq (px : List Int) (W H : Nat) : ∀ k, specB px W H k = joinB (linesL px W H k) nlB ++ nlB
  | 0 => by
    refine bytes_ext ?_
    simp only [specB, linesL, headL, List.range_zero, List.map_nil, List.append_nil, joinB, List.map_cons, Lib.join_cons, Lib.joinTail, nlB, spB, Go.Joins.data_append]
    simp
  | k + 1 => by
    rw [specB, specB_eq px W H k, ← linesL_succ, joinB_snoc _ _ _ (by simp [linesL, headL])]
theorem specB_size {px : List Int} {W H k : Nat} (hW : W ≤ 12) (hk : k ≤ 12) : (specB px W H k).size ≤ 20000 := by
  rw [specB_eq, ByteArray.size_append]
  have hjs := joinB_size (linesL px W H k) nlB 300 (linesL_size hW) (by decide)
  rw [linesL_length] at hjs
  have : nlB.size = 1 := rfl
  omega

set_option maxHeartbeats 1600000 in
theorem sFormat_valid (lo hi : Nat) (b off cap W H : Nat) (px : List Int) (w : World) (hu : IntsAt lo hi w (some ⟨b, off, none⟩) cap px) (hh : hi ≤ w.heap.size) (hb : b < hi) (hW : 1 ≤ W ∧ W ≤ 12) (hH : 1 ≤ H ∧ H ≤ 12) (hl : px.length = H * W) (hok : (⟨W, H, px⟩ : Pic).okB = true) :
    Calls Tryd.prog 43 #[.agg #[.int .i64 W, .int .i64 H, .slice (some ⟨b, off, none⟩) px.length cap]] w fun e w' => e = .returned (.string (pgmB px W H)) ∧ Ext w w' := by
  obtain ⟨W1, W2⟩ := hW
  obtain ⟨H1, H2⟩ := hH
  have l1 := hu.le
  have l2 := hu.cap
  have iW : I64 (W : Int) := ⟨by omega, by omega⟩
  have iH : I64 (H : Int) := ⟨by omega, by omega⟩
  have HL := hid hl
  have HV : Hid (Pic.R ⟨W, H, px⟩ lo hi w (.agg #[.int .i64 W, .int .i64 H, .slice (some ⟨b, off, none⟩) px.length cap])) := hid ⟨_, rfl, iW, iH, hu.shut⟩
  have HK := hid hok
  have HU := hid hu
  have sW := fmtT_size W
  have sH := fmtT_size H
  clear hl hok hu
  go_enter Tryd.func43, Tryd.ntmps43
  go_wp2_with fail
  refine (sIsValidImage_any lo hi _ _ _ (HV.out.ext hh (by repeat (with_reducible (first | assumption | exact Ext.refl _ | apply Ext.alloc | apply Ext.drew | apply Ext.drewN)))) (by simp; omega)).mono ?_
  rw [HK.out]
  rintro e w1 ⟨rfl, x1⟩
  have P1 := (PBox.made w (.int .i64 W) (.int .i64 H) (.slice (some ⟨b, off, none⟩) px.length cap) _).ext x1
  have E1 : Ext w w1 := Ext.trans (by repeat (with_reducible (first | assumption | exact Ext.refl _ | apply Ext.alloc | apply Ext.drew | apply Ext.drewN))) x1
  have p0 := P1.lt
  have p1 := P1.c0
  have p2 := P1.c1
  have p3 := P1.c2
  go_wp2_with fail
  refine wp_region_stages [([0, 1, 5, 6], 2), ([3, 4], 7), ([8, 9], 10)] 10 w1.heap.size (by kernel_rfl) (by kernel_rfl) ?_
  refine wpStages_cons ?_
  simp only [List.filterMap_cons, List.filterMap_nil, List.getElem?_toArray, List.getElem?_cons_zero, List.getElem?_cons_succ]
  show wpQuiet _ _ _ _ [_, _, _, _] _
  repeat (go_big_quiet_step (fail))
  refine wpQuiet_nil ⟨_, rfl, fun K hK => ?_⟩
  go_wp2_with fail
  refine (sFormatInt_any W _).mono ?_
  rintro e w2 ⟨rfl, x2⟩
  go_wp2_with fail
  have y2 : Ext w1 w2 := Ext.trans (by repeat (with_reducible (first | assumption | exact Ext.refl _ | apply Ext.alloc | apply Ext.drew | apply Ext.drewN))) x2
  refine hK _ _ (.inr (y2.same (Nat.le_refl _))) ?_
  clear hK K
  refine wpStages_cons ?_
  simp only [List.filterMap_cons, List.filterMap_nil, List.getElem?_toArray, List.getElem?_cons_zero, List.getElem?_cons_succ]
  show wpQuiet _ _ _ _ [_, _] _
  repeat (go_big_quiet_step (fail))
  refine wpQuiet_nil ⟨_, rfl, fun K hK => ?_⟩
  go_wp2_with fail
  refine (sFormatInt_any H _).mono ?_
  rintro e w3 ⟨rfl, x3⟩
  have y3 : Ext w1 w3 := y2.trans (Ext.trans (by repeat (with_reducible (first | assumption | exact Ext.refl _ | apply Ext.alloc | apply Ext.drew | apply Ext.drewN))) x3)
  go_wp2_with fail
  refine hK _ _ (.inr (y3.same (Nat.le_refl _))) ?_
  clear hK K
  refine wpStages_cons ?_
  simp only [List.filterMap_cons, List.filterMap_nil, List.getElem?_toArray, List.getElem?_cons_zero, List.getElem?_cons_succ]
  show wpQuiet _ _ _ _ [_, _] _
  repeat (go_big_quiet_step (fail))
  refine wpQuiet_nil ⟨_, rfl, fun K hK => ?_⟩
  go_wp2_with fail
  refine hK _ _ (.inl (by trivial)) ?_
  clear hK K
  refine wpStages_nil ?_
  have HP3 := hid (P1.ext y3)
  have HE3 := hid (E1.trans y3)
  clear p0 p1 p2 p3 x1 x2 x3 y2 y3 P1 E1
  obtain ⟨S0, hS0⟩ : ∃ S, ((((⟨#[80, 50, 10]⟩ : ByteArray) ++ fmtT W) ++ ⟨#[32]⟩) ++ fmtT H) ++ ⟨#[10, 50, 53, 54, 10]⟩ = S := ⟨_, rfl⟩
  rw [hS0]
  have HS0 := hid (show specB px W H 0 = S0 from hS0)
  clear hS0
  go_wp2
  go_loopw [3, 4] (fun s i wr => ∃ k : Nat, k ≤ H ∧ i = .int .i64 k ∧ s = .string (specB px W H k) ∧ Ext w3 wr) (fun _ i _ => H - (intOf i).toNat)
  case atStart => exact ⟨0, by omega, rfl, by rw [HS0.out], (by repeat (with_reducible (first | assumption | exact Ext.refl _ | apply Ext.alloc | apply Ext.drew | apply Ext.drewN)))⟩
  case round =>
    rename World => wo
    obtain ⟨k, hk, rfl, rfl, hx⟩ := hrel
    have HX := hid hx
    have P4 := HP3.out.ext hx
    have hsz := specB_size (px := px) (H := H) W2 (show k ≤ 12 by omega)
    obtain ⟨S, hS⟩ : ∃ S, specB px W H k = S := ⟨_, rfl⟩
    rw [hS] at hsz ⊢
    have HSS := hid hS
    clear hx hS
    have p0 := P4.lt
    have p1 := P4.c0
    have p2 := P4.c1
    have p3 := P4.c2
    by_cases hlt : k < H
    · have hbd : (k + 1) * W ≤ px.length := by rw [HL.out]; exact Nat.mul_le_mul_right _ hlt
      have HB := hid hbd
      obtain ⟨p, hp, e1, ex, e2, hq, e5⟩ := row_nat2 (y := k) (by omega) W2
      have E1 := vint e1
      clear e1 ex e2
      rw [e5] at hbd
      have hcap : p + W ≤ cap := Nat.le_trans hbd l1
      have e3 : ((p : Int) + W).toNat = p + W := toNat_add p W
      have HPP := hid hp
      clear hp e5 hbd
      have hrow := rowOf_length HB.out
      have HR := hid (HPP.out ▸ rowOf_ints HU.out HB.out : Ints lo hi w (.slice (some ⟨b, off + p, none⟩) W (cap - p)) (rowOf px W k))
      obtain ⟨rw', hrw⟩ : ∃ r, rowOf px W k = r := ⟨_, rfl⟩
      rw [hrw] at hrow
      have HRR := hid hrow
      have HRW := hid hrw
      have HR2 : Hid (Ints lo hi w (.slice (some ⟨b, off + p, none⟩) W (cap - p)) rw') := hrw ▸ HR
      clear hrow hrw HR
      go_wp2
      rw [E1]
      clear E1
      go_loopw [5, 43] (fun s i wr => ∃ m : Nat, m ≤ W ∧ i = .int .i64 m ∧ OwnStrs wo.heap.size wr s ((rw'.take m).map fmtT) ∧ Ext wo wr) (fun _ i _ => W - (intOf i).toNat)
      case atStart => exact ⟨0, by omega, rfl, OwnStrs.empty (Nat.le_refl _) (heap_new wo _), (by repeat (with_reducible (first | assumption | exact Ext.refl _ | apply Ext.alloc | apply Ext.drew | apply Ext.drewN)))⟩
      case round =>
        clear p0 p1 p2 p3
        obtain ⟨m, hm, rfl, hown, hy⟩ := hrel
        have P5 := HP3.out.ext (HX.out.trans hy)
        have HY := hid hy
        have HO := hid hown
        by_cases hlt2 : m < W
        · obtain ⟨a', c', e0, _⟩ := hown.form
          rw [show ((rw'.take m).map fmtT).length = m by rw [List.length_map, List.length_take, HRR.out]; omega] at e0
          subst e0
          obtain ⟨a2, cap2, e2, HU2⟩ := (HR2.out.ext hh (HE3.out.trans (HX.out.trans hy))).open
          simp only [Value.slice.injEq] at e2
          obtain ⟨rfl, hw', rfl⟩ := e2
          clear hw'
          have hlt3 : m < rw'.length := by rw [HRR.out]; exact hlt2
          obtain ⟨b', off', e3', _, _, hc⟩ := HU2.at hlt3
          simp only [Option.some.injEq, Addr.mk.injEq, and_true] at e3'
          obtain ⟨rfl, rfl⟩ := e3'
          have hbw : b < wr.heap.size := by have := (HE3.out.trans (HX.out.trans hy)).size; omega
          clear hy hown
          go_wp2_with fail
          refine (sFormatInt_any _ _).mono ?_
          rintro e w4 ⟨rfl, x4⟩
          go_wp2_with (at_builtin; refine wpList_append_str _ rfl _ _ rfl wo.heap.size _ _ rfl (HO.out.ext (x4.trans (by repeat (with_reducible (first | assumption | exact Ext.refl _ | apply Ext.alloc | apply Ext.drew | apply Ext.drewN))))) (fmtT rw'[m]) w4.heap.size rfl (by simp [go_sem]) (by rw [List.length_map, List.length_take]; omega) (by have := (HY.out.trans x4).size; simp; omega) ?_; intro v' w5 hown' hg)
          have HN : ((rw'.take m).map fmtT) ++ [fmtT rw'[m]] = (rw'.take (m + 1)).map fmtT := by rw [List.take_succ_eq_append_getElem hlt3, List.map_append]; rfl
          rw [HN] at hown'
          have hx' : Ext wo w5 := Ext.grown ((HY.out.trans x4).alloc _) hg (fun g e => (HO.out.lt g e).1)
          have HO' := hid hown'
          have HX' := hid hx'
          clear hown' hx' HN hg x4
          go_wp2
          go_roundw
          case rel => exact ⟨m + 1, by omega, by go_num, HO'.out, HX'.out⟩
          case measure => simp [intOf]; omega
        · obtain rfl : m = W := by omega
          rw [List.take_of_length_le (by rw [HRR.out]; exact Nat.le_refl _)] at HO
          have hls := lineL_size (px := px) (y := k) W2
          have hjl : joinB (rw'.map fmtT) spB = lineL px m k := by unfold lineL; rw [HRW.out]
          obtain ⟨L, hL⟩ : ∃ L, lineL px m k = L := ⟨_, rfl⟩
          rw [hL] at hls
          have HJL := hid (hjl.trans hL)
          have HLL := hid hL
          have hn : nlB.size = 1 := rfl
          have hs1 : (S ++ L).size = S.size + L.size := ByteArray.size_append
          clear hy hown hjl hL
          go_wp2_with fail
          refine (sJoin_any _ _ _ _ spB _ HO.out.strs (fmt_sizes _) (by rw [List.length_map, HRR.out]; omega) (by decide)).mono ?_
          rw [HJL.out]
          rintro e w4 ⟨rfl, rfl⟩
          have p0 := P5.lt
          have p1 := P5.c0
          have p2 := P5.c1
          have p3 := P5.c2
          go_wp2
          go_roundw
          case rel => exact ⟨k + 1, by omega, by go_num, by rw [specB, HSS.out, HLL.out]; rfl, HX.out.trans HY.out⟩
          case measure => simp [intOf]; omega
    · obtain rfl : k = H := by omega
      go_wp2
      go_ret
      refine ⟨ret_str ?_, HE3.out.trans HX.out⟩
      rw [← HSS.out, specB_eq]
      rfl
end Go.Proofs.YtodblnccgpiigaaDoor
