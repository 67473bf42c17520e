/- This text proves the derivatives of a row of the program. -/
import Derived.Test.YtaegmenjgjdimaaGreatSh10
namespace Go.Proofs.YtaegmenjgjdimaaGreat
open Go.RowKit

/-- the place of k in its row or column, and the step to the next -/
def dAt (n k : Nat) (rows : Bool) : Nat := if rows then k / n else k % n
def dStep (n : Nat) (rows : Bool) : Nat := if rows then n else 1
def dVal (xs : List Int) (n : Nat) (rows : Bool) (k : Nat) : Int :=
  if n = 1 then 0 else if dAt n k rows < n - 1 then satI (xs.getD (k + dStep n rows) 0 - xs.getD k 0) else satI (xs.getD k 0 - xs.getD (k - dStep n rows) 0)
def diffs (xs : List Int) (n : Nat) (rows : Bool) : List Int := (List.range (n * n)).map (dVal xs n rows)
theorem d_bd {n k : Nat} (h1 : 1 ≤ n) (h8 : n ≤ 8) (hk : k < n * n) (rows : Bool) (h : n ≠ 1) :
    (dAt n k rows < n - 1 → k + dStep n rows < n * n) ∧ (¬dAt n k rows < n - 1 → dStep n rows ≤ k) := by
  unfold dAt dStep
  rcases (show n = 2 ∨ n = 3 ∨ n = 4 ∨ n = 5 ∨ n = 6 ∨ n = 7 ∨ n = 8 by omega) with rfl | rfl | rfl | rfl | rfl | rfl | rfl <;> cases rows <;> simp <;> omega
theorem diffs_length (xs : List Int) (n : Nat) (rows : Bool) : (diffs xs n rows).length = n * n := by simp [diffs]
theorem diffs_at (xs : List Int) (n : Nat) (rows : Bool) (k : Nat) (h : k < (diffs xs n rows).length) : (diffs xs n rows)[k] = dVal xs n rows k := by simp [diffs]
theorem dVal_i64 (xs : List Int) (n : Nat) (rows : Bool) (k : Nat) : S9 (dVal xs n rows k) := by
  unfold dVal
  split
  · exact ⟨by decide, by decide⟩
  · split <;> exact satI_S9 _
theorem getD_at (xs : List Int) (k : Nat) (h : k < xs.length) : xs.getD k 0 = xs[k] := by simp [List.getD, h]
set_option maxHeartbeats 3200000 in
theorem iDiffCols_any (lo hi : Nat) (u : Value) (xs : List Int) (n : Nat) (w : World) (hu : Ints lo hi w u xs) (hh : hi ≤ w.heap.size) (hl : xs.length = n * n) (h1 : 1 ≤ n) (h8 : n ≤ 8) (hx9 : ∀ x ∈ xs, S9 x) :
    Calls Tryz.prog 93 #[u, .int .i64 n, .bool false] w fun e w' => ∃ r, e = .returned r ∧ OwnInts w.heap.size w' r (diffs xs n false) ∧ Ext w w' := by
  obtain ⟨i0, hi0, hz0, hz1, hz2⟩ := info_parts info_int
  obtain ⟨a, cap, rfl, HU⟩ := hu.open
  clear hu
  have hm : n * n ≤ 8 * 8 := Nat.mul_le_mul h8 h8
  obtain ⟨zs, hzs⟩ : ∃ zs, diffs xs n false = zs := ⟨_, rfl⟩
  have hzl : zs.length = n * n := by rw [← hzs, diffs_length]
  have hz : ∀ k (h3 : k < zs.length), zs[k] = dVal xs n false k := fun k h3 => by subst hzs; exact diffs_at _ _ _ _ h3
  have hbd := fun k (hk : k < n * n) => d_bd h1 h8 hk false
  have HZ9 := hid (fun z (h : z ∈ zs) => (by
    obtain ⟨k, hk, rfl⟩ := List.getElem_of_mem h
    rw [hz k hk]
    exact (dVal_i64 _ _ _ _).i64 : I64 z))
  rw [hzs]
  clear hzs
  obtain ⟨m, hmm⟩ : ∃ m, n * n = m := ⟨_, rfl⟩
  rw [hmm] at hl hm hzl hbd
  clear hmm
  rw [hl]
  go_enter Tryz.func93, Tryz.ntmps93
  go_wp2_with (at_make; refine wpList_make_full _ rfl _ _ 29 rfl w.heap.size 3 i0 (.int .i64 0) 1 Tryz.underlying29 hi0 hz0 hz1 _ _ _ _ m rfl rfl rfl rfl (by rw [hz2]; omega) (by unfold maxLen; omega) (Nat.le_refl _) ?_)
  intro w1 hown hgrow
  rw [made_ints, ← hzl, ← fillTo_zero, hzl] at hown
  have hx : Ext w w1 := (Ext.refl w).grown hgrow (fun k h => by cases h)
  have hb0 : w.heap.size < w1.heap.size := (hown.lt _ rfl).2
  clear hgrow hi0 hz0 hz1 hz2
  go_wp2
  go_loopw [16] (fun i wr => ∃ k : Nat, k ≤ m ∧ i = .int .i64 k ∧ Ext w wr ∧ w.heap.size < wr.heap.size ∧ wr.ownsRow w.heap.size 3 1 (.slice (some ⟨w.heap.size, 0, none⟩) m m) m ((fillTo zs k).map (Value.int .i64)))
    (fun i _ => m - (intOf i).toNat)
  case atStart => exact ⟨0, by omega, rfl, hx, hb0, hown⟩
  case round =>
    clear hown hx hb0
    obtain ⟨k, hk, rfl, hx, hb0, hown⟩ := hrel
    by_cases hlt : k < m
    · have hs := hown.cellAt k (by omega)
      have hf := hown.frozenAt k
      have hz' := hz k (by omega)
      have hst := (hown.stored k (.int .i64 (zs[k]'(by omega)))).1
      have hx' := hx.setCell (p := ⟨w.heap.size, k, none⟩) (Nat.le_refl _) (.int .i64 (zs[k]'(by omega)))
      obtain ⟨z0, hs'⟩ : ∃ z, wr.cell? ⟨w.heap.size, k, none⟩ = some (.int .i64 z) := by
        rw [hs]
        have hl2 : k < (fillTo zs k).length := by rw [fillTo_length _ _ (by omega)]; omega
        exact ⟨(fillTo zs k)[k], by simp⟩
      rw [← List.map_set, fillTo_succ _ _ (by omega)] at hst
      obtain ⟨z, hzz⟩ : ∃ x, zs[k]'(by omega) = x := ⟨_, rfl⟩
      rw [hzz] at hz' hst hx'
      have zr := hx.size
      have hb := hbd k hlt
      have hsame : z = 0 → (fillTo zs k) = fillTo zs (k + 1) := fun h0 => by
        have hl2 : k < (fillTo zs k).length := by rw [fillTo_length _ _ (by omega)]; omega
        rw [← fillTo_succ _ _ (by omega), hzz, h0]
        apply List.ext_getElem?
        intro j
        by_cases hj : j = k
        · subst hj
          rw [List.getElem?_set_self hl2]
          unfold fillTo
          rw [List.getElem?_append_right (by simp; omega), List.getElem?_replicate]
          rw [if_pos (by simp; omega)]
        · rw [List.getElem?_set_ne (Ne.symm hj)]
      clear hs hz hzz
      have ht : (k : Int).tmod n = ((k % n : Nat) : Int) := by rw [Int.tmod_eq_emod_of_nonneg (by omega)]; simp
      have htd : (k : Int).tdiv n = ((k / n : Nat) : Int) := by rw [Int.tdiv_eq_ediv_of_nonneg (by omega)]; simp
      have hq1 : k % n < n := Nat.mod_lt _ h1
      have hq2 : k / n ≤ k := Nat.div_le_self _ _
      have H1 := hid hst
      have H2 := hid hx'
      clear hst hx'
      by_cases hn : n = 1
      · subst hn
        have h0 : z = 0 := by rw [hz']; rfl
        rw [hsame h0] at hown
        clear hsame h0 hz' hb
        have HO := hid hown
        have HX := hid hx
        clear hown hx
        go_wp2
        go_roundw
        case rel => exact ⟨k + 1, by omega, by go_num, HX.out, hb0, HO.out⟩
        case measure => simp [intOf]; omega
      · have hb := hb hn
        unfold dVal dAt dStep at hz'
        unfold dAt dStep at hb
        simp only [if_neg hn, Bool.false_eq_true, if_false, if_true] at hz' hb
        clear hsame
        obtain ⟨q, hq⟩ : ∃ q, k % n = q := ⟨_, rfl⟩
        obtain ⟨q', hq'⟩ : ∃ q, k / n = q := ⟨_, rfl⟩
        rw [hq] at hz' hb
        rw [hq] at ht hq1
        rw [hq'] at htd hq2
        clear hq hq'
        by_cases ha : q < n - 1
        · rw [if_pos ha] at hz'
          have hbb := hb.1 ha
          clear hb hown
          obtain ⟨b, off, rfl, hb1, hb2, hc⟩ := HU.at (k := k) (by omega)
          obtain ⟨b', off', e', _, _, hc'⟩ := HU.at (k := k + 1) (by omega)
          simp only [Option.some.injEq, Addr.mk.injEq, and_true] at e'
          obtain ⟨rfl, rfl⟩ := e'
          rw [← hx.cells.1 b _ (by omega)] at hc hc'
          have g1 := getD_at xs k (by omega)
          have g2 := getD_at xs (k + 1) (by omega)
          rw [g1, g2] at hz'
          have q9 := hx9 _ (List.getElem_mem (show k < xs.length by omega))
          have q9' := hx9 _ (List.getElem_mem (show k + 1 < xs.length by omega))
          obtain ⟨x, hxx⟩ : ∃ x, xs[k]'(by omega) = x := ⟨_, rfl⟩
          obtain ⟨y, hyy⟩ : ∃ x, xs[k + 1]'(by omega) = x := ⟨_, rfl⟩
          rw [hxx] at hc q9 hz'
          rw [hyy] at hc' q9' hz'
          have HZ := hid hz'.symm
          obtain ⟨q1, q2⟩ := q9
          obtain ⟨q3, q4⟩ := q9'
          have hbw : b < wr.heap.size := by omega
          clear hxx hyy hz' g1 g2 hx
          go_wp2_with fail
          refine wp_region_stages [([0, 1, 2, 3, 4, 5, 6, 7, 8, 9, 10, 11, 12], 13), ([14], 15)] 15 wr.heap.size (by kernel_rfl) (by kernel_rfl) ?_
          refine wpStages_cons ?_
          simp only [List.filterMap_cons, List.filterMap_nil, List.getElem?_toArray, List.getElem?_cons_zero, List.getElem?_cons_succ]
          show wpQuiet _ _ _ _ [_, _, _, _, _, _, _, _, _, _, _, _, _] _
          repeat (go_big_quiet_step (fail))
          refine wpQuiet_nil ⟨_, rfl, fun K hK => ?_⟩
          go_wp2_with fail
          refine (iSaturate_val HZ.out _).mono ?_
          rintro e w1 ⟨rfl, rfl⟩
          go_wp2_with fail
          refine hK _ _ (.inr (fun k _ hk => Ext.block (by repeat (with_reducible (first | assumption | exact Ext.refl _ | apply Ext.alloc | apply Ext.drew | apply Ext.drewN))) (by first | omega | (simp; omega)))) ?_
          clear hK K
          refine wpStages_cons ?_
          simp only [List.filterMap_cons, List.filterMap_nil, List.getElem?_toArray, List.getElem?_cons_zero, List.getElem?_cons_succ]
          show wpQuiet _ _ _ _ [_] _
          try simp only [Act.put, List.setIfInBounds_toArray, List.set_cons_succ, List.set_cons_zero]
          repeat (go_big_quiet_step (fail))
          refine wpQuiet_nil ⟨_, rfl, fun K hK => ?_⟩
          go_wp2_with fail
          refine hK _ _ (.inl (by trivial)) (wpStages_nil ?_)
          clear hK K
          go_wp2
          go_roundw
          case rel => exact ⟨k + 1, by omega, by go_num, H2.out.drew, by simpa using hb0, H1.out.drew⟩
          case measure => simp [intOf]; omega
        · rw [if_neg ha] at hz'
          have hbb := hb.2 ha
          clear hb hown
          obtain ⟨b, off, rfl, hb1, hb2, hc⟩ := HU.at (k := k) (by omega)
          obtain ⟨b', off', e', _, _, hc'⟩ := HU.at (k := k - 1) (by omega)
          simp only [Option.some.injEq, Addr.mk.injEq, and_true] at e'
          obtain ⟨rfl, rfl⟩ := e'
          rw [← hx.cells.1 b _ (by omega)] at hc hc'
          have g1 := getD_at xs k (by omega)
          have g2 := getD_at xs (k - 1) (by omega)
          rw [g1, g2] at hz'
          have q9 := hx9 _ (List.getElem_mem (show k < xs.length by omega))
          have q9' := hx9 _ (List.getElem_mem (show k - 1 < xs.length by omega))
          obtain ⟨x, hxx⟩ : ∃ x, xs[k]'(by omega) = x := ⟨_, rfl⟩
          obtain ⟨y, hyy⟩ : ∃ x, xs[k - 1]'(by omega) = x := ⟨_, rfl⟩
          rw [hxx] at hc q9 hz'
          rw [hyy] at hc' q9' hz'
          have HZ := hid hz'.symm
          obtain ⟨q1, q2⟩ := q9
          obtain ⟨q3, q4⟩ := q9'
          have hbw : b < wr.heap.size := by omega
          clear hxx hyy hz' g1 g2 hx
          go_wp2_with fail
          refine wp_region_stages [([0, 1, 2, 3, 4, 5, 6, 7, 8, 9, 10, 11, 12], 13), ([14], 15)] 15 wr.heap.size (by kernel_rfl) (by kernel_rfl) ?_
          refine wpStages_cons ?_
          simp only [List.filterMap_cons, List.filterMap_nil, List.getElem?_toArray, List.getElem?_cons_zero, List.getElem?_cons_succ]
          show wpQuiet _ _ _ _ [_, _, _, _, _, _, _, _, _, _, _, _, _] _
          repeat (go_big_quiet_step (fail))
          refine wpQuiet_nil ⟨_, rfl, fun K hK => ?_⟩
          go_wp2_with fail
          refine (iSaturate_val HZ.out _).mono ?_
          rintro e w1 ⟨rfl, rfl⟩
          go_wp2_with fail
          refine hK _ _ (.inr (fun k _ hk => Ext.block (by repeat (with_reducible (first | assumption | exact Ext.refl _ | apply Ext.alloc | apply Ext.drew | apply Ext.drewN))) (by first | omega | (simp; omega)))) ?_
          clear hK K
          refine wpStages_cons ?_
          simp only [List.filterMap_cons, List.filterMap_nil, List.getElem?_toArray, List.getElem?_cons_zero, List.getElem?_cons_succ]
          show wpQuiet _ _ _ _ [_] _
          try simp only [Act.put, List.setIfInBounds_toArray, List.set_cons_succ, List.set_cons_zero]
          repeat (go_big_quiet_step (fail))
          refine wpQuiet_nil ⟨_, rfl, fun K hK => ?_⟩
          go_wp2_with fail
          refine hK _ _ (.inl (by trivial)) (wpStages_nil ?_)
          clear hK K
          go_wp2
          go_roundw
          case rel => exact ⟨k + 1, by omega, by go_num, H2.out.drew, by simpa using hb0, H1.out.drew⟩
          case measure => simp [intOf]; omega
    · go_wp2
      go_ret
      obtain rfl : k = m := by omega
      have hown' : OwnInts w.heap.size wr (.slice (some ⟨w.heap.size, 0, none⟩) k k) zs := ⟨by rw [← hzl, fillTo_all] at hown; rw [← hzl]; exact hown, HZ9.out⟩
      exact ⟨_, rfl, hown', hx⟩
set_option maxHeartbeats 3200000 in
theorem iDiffRows_any (lo hi : Nat) (u : Value) (xs : List Int) (n : Nat) (w : World) (hu : Ints lo hi w u xs) (hh : hi ≤ w.heap.size) (hl : xs.length = n * n) (h1 : 1 ≤ n) (h8 : n ≤ 8) (hx9 : ∀ x ∈ xs, S9 x) :
    Calls Tryz.prog 93 #[u, .int .i64 n, .bool true] w fun e w' => ∃ r, e = .returned r ∧ OwnInts w.heap.size w' r (diffs xs n true) ∧ Ext w w' := by
  obtain ⟨i0, hi0, hz0, hz1, hz2⟩ := info_parts info_int
  obtain ⟨a, cap, rfl, HU⟩ := hu.open
  clear hu
  have hm : n * n ≤ 8 * 8 := Nat.mul_le_mul h8 h8
  obtain ⟨zs, hzs⟩ : ∃ zs, diffs xs n true = zs := ⟨_, rfl⟩
  have hzl : zs.length = n * n := by rw [← hzs, diffs_length]
  have hz : ∀ k (h3 : k < zs.length), zs[k] = dVal xs n true k := fun k h3 => by subst hzs; exact diffs_at _ _ _ _ h3
  have hbd := fun k (hk : k < n * n) => d_bd h1 h8 hk true
  have HZ9 := hid (fun z (h : z ∈ zs) => (by
    obtain ⟨k, hk, rfl⟩ := List.getElem_of_mem h
    rw [hz k hk]
    exact (dVal_i64 _ _ _ _).i64 : I64 z))
  rw [hzs]
  clear hzs
  obtain ⟨m, hmm⟩ : ∃ m, n * n = m := ⟨_, rfl⟩
  rw [hmm] at hl hm hzl hbd
  clear hmm
  rw [hl]
  go_enter Tryz.func93, Tryz.ntmps93
  go_wp2_with (at_make; refine wpList_make_full _ rfl _ _ 29 rfl w.heap.size 3 i0 (.int .i64 0) 1 Tryz.underlying29 hi0 hz0 hz1 _ _ _ _ m rfl rfl rfl rfl (by rw [hz2]; omega) (by unfold maxLen; omega) (Nat.le_refl _) ?_)
  intro w1 hown hgrow
  rw [made_ints, ← hzl, ← fillTo_zero, hzl] at hown
  have hx : Ext w w1 := (Ext.refl w).grown hgrow (fun k h => by cases h)
  have hb0 : w.heap.size < w1.heap.size := (hown.lt _ rfl).2
  clear hgrow hi0 hz0 hz1 hz2
  go_wp2
  go_loopw [16] (fun i wr => ∃ k : Nat, k ≤ m ∧ i = .int .i64 k ∧ Ext w wr ∧ w.heap.size < wr.heap.size ∧ wr.ownsRow w.heap.size 3 1 (.slice (some ⟨w.heap.size, 0, none⟩) m m) m ((fillTo zs k).map (Value.int .i64)))
    (fun i _ => m - (intOf i).toNat)
  case atStart => exact ⟨0, by omega, rfl, hx, hb0, hown⟩
  case round =>
    clear hown hx hb0
    obtain ⟨k, hk, rfl, hx, hb0, hown⟩ := hrel
    by_cases hlt : k < m
    · have hs := hown.cellAt k (by omega)
      have hf := hown.frozenAt k
      have hz' := hz k (by omega)
      have hst := (hown.stored k (.int .i64 (zs[k]'(by omega)))).1
      have hx' := hx.setCell (p := ⟨w.heap.size, k, none⟩) (Nat.le_refl _) (.int .i64 (zs[k]'(by omega)))
      obtain ⟨z0, hs'⟩ : ∃ z, wr.cell? ⟨w.heap.size, k, none⟩ = some (.int .i64 z) := by
        rw [hs]
        have hl2 : k < (fillTo zs k).length := by rw [fillTo_length _ _ (by omega)]; omega
        exact ⟨(fillTo zs k)[k], by simp⟩
      rw [← List.map_set, fillTo_succ _ _ (by omega)] at hst
      obtain ⟨z, hzz⟩ : ∃ x, zs[k]'(by omega) = x := ⟨_, rfl⟩
      rw [hzz] at hz' hst hx'
      have zr := hx.size
      have hb := hbd k hlt
      have hsame : z = 0 → (fillTo zs k) = fillTo zs (k + 1) := fun h0 => by
        have hl2 : k < (fillTo zs k).length := by rw [fillTo_length _ _ (by omega)]; omega
        rw [← fillTo_succ _ _ (by omega), hzz, h0]
        apply List.ext_getElem?
        intro j
        by_cases hj : j = k
        · subst hj
          rw [List.getElem?_set_self hl2]
          unfold fillTo
          rw [List.getElem?_append_right (by simp; omega), List.getElem?_replicate]
          rw [if_pos (by simp; omega)]
        · rw [List.getElem?_set_ne (Ne.symm hj)]
      clear hs hz hzz
      have ht : (k : Int).tmod n = ((k % n : Nat) : Int) := by rw [Int.tmod_eq_emod_of_nonneg (by omega)]; simp
      have htd : (k : Int).tdiv n = ((k / n : Nat) : Int) := by rw [Int.tdiv_eq_ediv_of_nonneg (by omega)]; simp
      have hq1 : k % n < n := Nat.mod_lt _ h1
      have hq2 : k / n ≤ k := Nat.div_le_self _ _
      have H1 := hid hst
      have H2 := hid hx'
      clear hst hx'
      by_cases hn : n = 1
      · subst hn
        have h0 : z = 0 := by rw [hz']; rfl
        rw [hsame h0] at hown
        clear hsame h0 hz' hb
        have HO := hid hown
        have HX := hid hx
        clear hown hx
        go_wp2
        go_roundw
        case rel => exact ⟨k + 1, by omega, by go_num, HX.out, hb0, HO.out⟩
        case measure => simp [intOf]; omega
      · have hb := hb hn
        unfold dVal dAt dStep at hz'
        unfold dAt dStep at hb
        simp only [if_neg hn, Bool.false_eq_true, if_false, if_true] at hz' hb
        clear hsame
        obtain ⟨q, hq⟩ : ∃ q, k / n = q := ⟨_, rfl⟩
        obtain ⟨q', hq'⟩ : ∃ q, k % n = q := ⟨_, rfl⟩
        rw [hq] at hz' hb
        rw [hq'] at ht hq1
        rw [hq] at htd hq2
        clear hq hq'
        by_cases ha : q < n - 1
        · rw [if_pos ha] at hz'
          have hbb := hb.1 ha
          clear hb hown
          obtain ⟨b, off, rfl, hb1, hb2, hc⟩ := HU.at (k := k) (by omega)
          obtain ⟨b', off', e', _, _, hc'⟩ := HU.at (k := k + n) (by omega)
          simp only [Option.some.injEq, Addr.mk.injEq, and_true] at e'
          obtain ⟨rfl, rfl⟩ := e'
          rw [← hx.cells.1 b _ (by omega)] at hc hc'
          have g1 := getD_at xs k (by omega)
          have g2 := getD_at xs (k + n) (by omega)
          rw [g1, g2] at hz'
          have q9 := hx9 _ (List.getElem_mem (show k < xs.length by omega))
          have q9' := hx9 _ (List.getElem_mem (show k + n < xs.length by omega))
          obtain ⟨x, hxx⟩ : ∃ x, xs[k]'(by omega) = x := ⟨_, rfl⟩
          obtain ⟨y, hyy⟩ : ∃ x, xs[k + n]'(by omega) = x := ⟨_, rfl⟩
          rw [hxx] at hc q9 hz'
          rw [hyy] at hc' q9' hz'
          have HZ := hid hz'.symm
          obtain ⟨q1, q2⟩ := q9
          obtain ⟨q3, q4⟩ := q9'
          have hbw : b < wr.heap.size := by omega
          clear hxx hyy hz' g1 g2 hx
          go_wp2_with fail
          refine wp_region_stages [([0, 1, 2, 3, 4, 5, 6, 7, 8, 9, 10, 11, 12], 13), ([14], 15)] 15 wr.heap.size (by kernel_rfl) (by kernel_rfl) ?_
          refine wpStages_cons ?_
          simp only [List.filterMap_cons, List.filterMap_nil, List.getElem?_toArray, List.getElem?_cons_zero, List.getElem?_cons_succ]
          show wpQuiet _ _ _ _ [_, _, _, _, _, _, _, _, _, _, _, _, _] _
          repeat (go_big_quiet_step (fail))
          refine wpQuiet_nil ⟨_, rfl, fun K hK => ?_⟩
          go_wp2_with fail
          refine (iSaturate_val HZ.out _).mono ?_
          rintro e w1 ⟨rfl, rfl⟩
          go_wp2_with fail
          refine hK _ _ (.inr (fun k _ hk => Ext.block (by repeat (with_reducible (first | assumption | exact Ext.refl _ | apply Ext.alloc | apply Ext.drew | apply Ext.drewN))) (by first | omega | (simp; omega)))) ?_
          clear hK K
          refine wpStages_cons ?_
          simp only [List.filterMap_cons, List.filterMap_nil, List.getElem?_toArray, List.getElem?_cons_zero, List.getElem?_cons_succ]
          show wpQuiet _ _ _ _ [_] _
          try simp only [Act.put, List.setIfInBounds_toArray, List.set_cons_succ, List.set_cons_zero]
          repeat (go_big_quiet_step (fail))
          refine wpQuiet_nil ⟨_, rfl, fun K hK => ?_⟩
          go_wp2_with fail
          refine hK _ _ (.inl (by trivial)) (wpStages_nil ?_)
          clear hK K
          go_wp2
          go_roundw
          case rel => exact ⟨k + 1, by omega, by go_num, H2.out.drew, by simpa using hb0, H1.out.drew⟩
          case measure => simp [intOf]; omega
        · rw [if_neg ha] at hz'
          have hbb := hb.2 ha
          clear hb hown
          obtain ⟨b, off, rfl, hb1, hb2, hc⟩ := HU.at (k := k) (by omega)
          obtain ⟨b', off', e', _, _, hc'⟩ := HU.at (k := k - n) (by omega)
          simp only [Option.some.injEq, Addr.mk.injEq, and_true] at e'
          obtain ⟨rfl, rfl⟩ := e'
          rw [← hx.cells.1 b _ (by omega)] at hc hc'
          have g1 := getD_at xs k (by omega)
          have g2 := getD_at xs (k - n) (by omega)
          rw [g1, g2] at hz'
          have q9 := hx9 _ (List.getElem_mem (show k < xs.length by omega))
          have q9' := hx9 _ (List.getElem_mem (show k - n < xs.length by omega))
          obtain ⟨x, hxx⟩ : ∃ x, xs[k]'(by omega) = x := ⟨_, rfl⟩
          obtain ⟨y, hyy⟩ : ∃ x, xs[k - n]'(by omega) = x := ⟨_, rfl⟩
          rw [hxx] at hc q9 hz'
          rw [hyy] at hc' q9' hz'
          have HZ := hid hz'.symm
          obtain ⟨q1, q2⟩ := q9
          obtain ⟨q3, q4⟩ := q9'
          have hbw : b < wr.heap.size := by omega
          clear hxx hyy hz' g1 g2 hx
          go_wp2_with fail
          refine wp_region_stages [([0, 1, 2, 3, 4, 5, 6, 7, 8, 9, 10, 11, 12], 13), ([14], 15)] 15 wr.heap.size (by kernel_rfl) (by kernel_rfl) ?_
          refine wpStages_cons ?_
          simp only [List.filterMap_cons, List.filterMap_nil, List.getElem?_toArray, List.getElem?_cons_zero, List.getElem?_cons_succ]
          show wpQuiet _ _ _ _ [_, _, _, _, _, _, _, _, _, _, _, _, _] _
          repeat (go_big_quiet_step (fail))
          refine wpQuiet_nil ⟨_, rfl, fun K hK => ?_⟩
          go_wp2_with fail
          refine (iSaturate_val HZ.out _).mono ?_
          rintro e w1 ⟨rfl, rfl⟩
          go_wp2_with fail
          refine hK _ _ (.inr (fun k _ hk => Ext.block (by repeat (with_reducible (first | assumption | exact Ext.refl _ | apply Ext.alloc | apply Ext.drew | apply Ext.drewN))) (by first | omega | (simp; omega)))) ?_
          clear hK K
          refine wpStages_cons ?_
          simp only [List.filterMap_cons, List.filterMap_nil, List.getElem?_toArray, List.getElem?_cons_zero, List.getElem?_cons_succ]
          show wpQuiet _ _ _ _ [_] _
          try simp only [Act.put, List.setIfInBounds_toArray, List.set_cons_succ, List.set_cons_zero]
          repeat (go_big_quiet_step (fail))
          refine wpQuiet_nil ⟨_, rfl, fun K hK => ?_⟩
          go_wp2_with fail
          refine hK _ _ (.inl (by trivial)) (wpStages_nil ?_)
          clear hK K
          go_wp2
          go_roundw
          case rel => exact ⟨k + 1, by omega, by go_num, H2.out.drew, by simpa using hb0, H1.out.drew⟩
          case measure => simp [intOf]; omega
    · go_wp2
      go_ret
      obtain rfl : k = m := by omega
      have hown' : OwnInts w.heap.size wr (.slice (some ⟨w.heap.size, 0, none⟩) k k) zs := ⟨by rw [← hzl, fillTo_all] at hown; rw [← hzl]; exact hown, HZ9.out⟩
      exact ⟨_, rfl, hown', hx⟩
end Go.Proofs.YtaegmenjgjdimaaGreat
