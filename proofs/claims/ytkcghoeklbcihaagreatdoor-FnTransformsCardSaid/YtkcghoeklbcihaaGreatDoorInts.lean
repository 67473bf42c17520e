/- This text proves what the program's ParseInts hands back for every string, and FormatInts for numbers of nine digits and one at most. -/
import Derived.Test.YtkcghoeklbcihaaGreatDoorImgI
namespace Go.Proofs.YtkcghoeklbcihaaGreatDoor
open Go.RowKit

def comB : ByteArray := ⟨#[44]⟩
def dashB : ByteArray := ⟨#[45]⟩
open Classical in
/-- the numbers that s spells, separated by commas -/
noncomputable def intsO (s : ByteArray) : Option (List Int) :=
  if s = dashB then some [] else if (splitB (inSep comB) s).all (fun y => (parseO y).isSome) = true then some ((splitB (inSep comB) s).map fun y => (parseO y).getD 0) else none
theorem fmtT_clean44 (n : Int) : ∀ c ∈ (fmtT n).data.toList, inSep ⟨#[44]⟩ c = false := fmtT_noSep n ⟨by decide, by decide⟩
theorem parse_fmt {n : Int} (h : inB n (-1000000000) 1000000000 = true) : parseO (fmtT n) = some n := by rw [fmtT_of h]; exact parseO_fmt h
theorem intsO_text {xs : List Int} (hne : xs ≠ []) (h : ∀ x ∈ xs, inB x (-1000000000) 1000000000 = true) : intsO (joinB (xs.map fmtT) comB) = some xs := by
  have e := splitB_joined (d := 44) (xs.map fmtT) (by simpa using hne) (fun x hx => by
    obtain ⟨n, _, rfl⟩ := List.mem_map.1 hx
    exact fmtT_clean44 n)
  have hd : joinB (xs.map fmtT) comB ≠ dashB := by
    intro e0
    have h0 := e
    rw [show (⟨#[44]⟩ : ByteArray) = comB from rfl, e0] at h0
    have h1 : splitB (inSep comB) dashB = [dashB] := by
      unfold splitB
      rw [show dashB.data.toList = [45] from rfl, splitL_one _ _ (by intro c hc; simp at hc; subst hc; decide)]
      rfl
    rw [h1] at h0
    cases xs with
    | nil => exact hne rfl
    | cons x r =>
      simp only [List.map_cons, List.cons.injEq] at h0
      have h2 := congrArg parseO h0.1
      rw [parse_fmt (h x (by simp))] at h2
      have h3 := parseO_atoi h2
      have h4 : Lib.atoi dashB.data.toList = none := by rfl
      rw [h4] at h3
      cases h3
  unfold intsO
  rw [if_neg hd, show comB = ⟨#[44]⟩ from rfl, e, if_pos, List.map_map]
  · congr 1
    conv => rhs; rw [← List.map_id xs]
    refine List.map_congr_left fun x hx => ?_
    show (parseO (fmtT x)).getD 0 = x
    rw [parse_fmt (h x hx)]
    rfl
  · rw [List.all_eq_true]
    intro y hy
    obtain ⟨x, hx, rfl⟩ := List.mem_map.1 hy
    rw [parse_fmt (h x hx)]
    rfl

set_option maxHeartbeats 1600000 in
theorem iParseInts_any (s : ByteArray) (w : World) (hs : s.size ≤ 100000000) (ht : Laid w) :
    Calls Tryz.prog 24 #[.string s] w fun e w' => ∃ v, e = .returned (.tuple #[v, .bool (intsO s).isSome]) ∧ OwnInts w.heap.size w' v ((intsO s).getD []) ∧ Ext w w' := by
  have HT := hid ht
  clear ht
  by_cases hd : s = dashB
  · have e : intsO s = some [] := by unfold intsO; rw [if_pos hd]
    rw [e]
    clear e
    subst hd
    have hdt : (dashB.toList == [45]) = true := by rw [ByteArray.toList_eq]; rfl
    go_enter Tryz.func24, Tryz.ntmps24
    go_wp2
    go_ret2
    exact ⟨_, rfl, OwnInts.fresh0 (Nat.le_refl _) (Blk.new w 3 []), (by repeat (with_reducible (first | assumption | exact Ext.refl _ | apply Ext.alloc | apply Ext.drew | apply Ext.drewN)))⟩
  · obtain ⟨Q, hQ⟩ : ∃ Q, splitB (inSep comB) s = Q := ⟨_, rfl⟩
    have hO : intsO s = if Q.all (fun y => (parseO y).isSome) = true then some (Q.map fun y => (parseO y).getD 0) else none := by unfold intsO; rw [if_neg hd, hQ]
    have hQz : ∀ y ∈ Q, y.size ≤ 100000000 := fun y hy => by have := splitB_size (inSep comB) s y (by rw [hQ]; exact hy); omega
    have hQl := splitB_length (inSep comB) s
    have hsp := fun (w : World) => iSplitAny_any s comB w hs
    rw [hQ] at hsp hQl
    obtain ⟨q, hq⟩ : ∃ q, Q.length = q := ⟨_, rfl⟩
    rw [hq] at hQl
    have HS := hid hsp
    have HZ := hid hQz
    have HQ := hid hq
    have HO := hid hO
    have hdash := str_other hd
    have hdl : dashB.toList = [45] := by rw [ByteArray.toList_eq]; rfl
    rw [hdl] at hdash
    clear hQ hQz hsp hq hO hd hdl
    go_enter Tryz.func24, Tryz.ntmps24
    go_wp2_with fail
    refine (HS.out _).mono ?_
    rintro e w1 ⟨v, rfl, ho, x1⟩
    obtain ⟨a, c, e0, -⟩ := ho.form
    rw [HQ.out] at e0
    subst e0
    have N1 := hid (OwnInts.fresh0 (lo := w.heap.size) (Nat.le_refl _) ((Blk.new w 3 []).ext x1))
    have X1 := hid (show Ext w w1 from Ext.trans (by repeat (with_reducible (first | assumption | exact Ext.refl _ | apply Ext.alloc | apply Ext.drew | apply Ext.drewN))) x1)
    have HOW := hid (ho.low (lo' := w.heap.size) (by simp))
    clear ho x1
    go_wp2
    go_loopw [4, 16] (fun v i wr => ∃ k : Nat, k ≤ q ∧ i = .int .i64 k ∧ OwnInts w.heap.size wr v ((Q.take k).map fun y => (parseO y).getD 0) ∧ (∀ y ∈ Q.take k, (parseO y).isSome = true) ∧ OwnStrs w.heap.size wr (.slice a q c) Q ∧ Ext w wr) (fun _ i _ => q - (intOf i).toNat)
    case atStart => exact ⟨0, by omega, rfl, N1.out, fun y hy => by simp at hy, HOW.out, X1.out⟩
    case round =>
      clear N1 HOW X1
      obtain ⟨k, hk, rfl, hown, hall, ho, hx⟩ := hrel
      obtain ⟨a', c', e0, -⟩ := hown.form
      rw [List.length_map, List.length_take, Nat.min_eq_left (by rw [HQ.out]; exact hk)] at e0
      subst e0
      have HOW := hid hown
      have HOS := hid ho
      have HX := hid hx
      have HA := hid hall
      have sz := hx.size
      by_cases hlt : k < q
      · obtain ⟨a6, c6, e6, H6⟩ := ho.strs.open
        simp only [Value.slice.injEq] at e6
        obtain ⟨rfl, -, rfl⟩ := e6
        obtain ⟨y, hy⟩ : ∃ y, Q[k]? = some y := ⟨Q[k]'(by rw [HQ.out]; exact hlt), List.getElem?_eq_getElem (by rw [HQ.out]; exact hlt)⟩
        obtain ⟨b6, off6, rfl, hb6, hb7, hcy⟩ := H6.cell k y hy
        have hys := HZ.out y (List.mem_of_getElem? hy)
        have hyQ := hid hy
        clear hown ho hx H6 hy hall
        cases hp : parseO y with
        | none =>
          have eo : intsO s = none := by
            rw [HO.out, if_neg]
            intro h
            have := List.all_eq_true.1 h y (List.mem_of_getElem? hyQ.out)
            rw [hp] at this
            cases this
          replace eo := hid eo
          have hip := fun w ht => hp ▸ iParseInt_any y w (by omega) ht
          have HIP := hid hip
          clear hp hip
          go_wp2_with fail
          refine (HIP.out _ (HT.out.ext HX.out)).mono ?_
          rintro e w6 ⟨rfl, x6⟩
          go_wp2
          go_ret2
          exact ⟨_, by rw [eo.out]; rfl, by rw [eo.out]; exact OwnInts.nil _ _, HX.out.trans x6⟩
        | some r =>
          have hir : I64 r := by have := parseO_i64 y; rw [hp] at this; exact this
          have hnext : ((Q.take k).map fun y => (parseO y).getD 0) ++ [r] = (Q.take (k + 1)).map fun y => (parseO y).getD 0 := by
            rw [List.take_add_one, hyQ.out, List.map_append]
            simp [hp]
          have hall2 : ∀ y ∈ Q.take (k + 1), (parseO y).isSome = true := by
            intro z hz
            rw [List.take_add_one, hyQ.out] at hz
            rcases List.mem_append.1 hz with h | h
            · exact HA.out z h
            · simp at h; subst h; rw [hp]; rfl
          have hip := fun w ht => hp ▸ iParseInt_any y w (by omega) ht
          have HIP := hid hip
          have HN := hid hnext
          have HI := hid hir
          have HA2 := hid hall2
          have hl : ((Q.take k).map fun y => (parseO y).getD 0).length < 1000000000 := by rw [List.length_map, List.length_take, HQ.out]; omega
          have HL := hid hl
          clear hp hip hnext hir hall2 hl
          go_wp2_with fail
          refine (HIP.out _ (HT.out.ext HX.out)).mono ?_
          rintro e w6 ⟨rfl, x6⟩
          have HOW6 := hid (HOW.out.ext x6)
          have HO6 := hid (HOS.out.ext x6)
          have HX6 := hid (HX.out.trans x6)
          have sz6 := x6.size
          clear x6 HOW HOS HX hcy
          go_wp2_with (at_builtin; refine wpList_append1 _ rfl _ _ rfl w.heap.size _ _ rfl (HOW6.out.alloc _) r HI.out w6.heap.size rfl (by simp [go_sem]) HL.out (by simp; omega) ?_; intro v' w7 hown hg; rw [HN.out] at hown; have HOW7 := hid hown; have HX7 := hid (show Ext w w7 from Ext.grown (HX6.out.alloc _) hg (fun g e => (HOW6.out.lt g e).1)); have HO7 := hid ((HO6.out.ext (show Ext w6 (w6.alloc (.cells #[.int .i64 r] 3)) from (by repeat (with_reducible (first | assumption | exact Ext.refl _ | apply Ext.alloc | apply Ext.drew | apply Ext.drewN))))).grown hg (fun g e => strs_not_ints HO6.out HOW6.out g e)); clear hown hg)
          go_wp2
          go_roundw
          case rel => exact ⟨k + 1, by omega, by go_num, HOW7.out, HA2.out, HO7.out, HX7.out⟩
          case measure => simp [intOf]; omega
      · obtain rfl : k = q := by omega
        rw [List.take_of_length_le (by rw [HQ.out]; exact Nat.le_refl _)] at HOW HA
        have eo : intsO s = some (Q.map fun y => (parseO y).getD 0) := by rw [HO.out, if_pos (List.all_eq_true.2 HA.out)]
        have HE := hid eo
        clear hown ho hx hall eo
        go_wp2
        go_ret2
        exact ⟨_, by rw [HE.out]; rfl, by rw [HE.out]; exact HOW.out, HX.out⟩
end Go.Proofs.YtkcghoeklbcihaaGreatDoor
