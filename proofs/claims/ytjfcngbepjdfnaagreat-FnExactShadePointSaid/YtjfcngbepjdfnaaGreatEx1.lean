/- This text proves what the law's helper functions over integer slices compute. -/
import Derived.Test.YtjfcngbepjdfnaaGreatBase
import Derived.Test.YtjfcngbepjdfnaaGreatRows
namespace Go.Proofs.YtjfcngbepjdfnaaGreat
open Go.RowKit

set_option maxHeartbeats 400000 in
theorem eqIntS_any (lo hi lo' hi' : Nat) (u v : Value) (xs ys : List Int) (w : World) (hu : Ints lo hi w u xs) (hv : Ints lo' hi' w v ys) :
    Calls Tryz.prog 57 #[u, v] w fun e w' => e = .returned (.bool (decide (xs = ys))) ∧ ∃ n, w' = w.drewN n := by
  obtain ⟨a, cap, rfl, HU⟩ := hu.open
  obtain ⟨a', cap', rfl, HV⟩ := hv.open
  have h1 := HU.le
  have h2 := HU.cap
  have h1' := HV.le
  have h2' := HV.cap
  by_cases hl : xs.length = ys.length
  · have hl' : ((xs.length : Int) != (ys.length : Int)) = false := by simp [hl]
    have HL := Lib.hid hl
    clear hl
    go_enter Tryz.func57, Tryz.ntmps57
    go_wp2
    go_loopw [5] (fun i wr => ∃ k : Nat, k ≤ xs.length ∧ i = .int .i64 k ∧ SameUpTo xs ys k ∧ ∃ n, wr = w.drewN n) (fun i _ => xs.length - (intOf i).toNat)
    case atStart => exact ⟨0, by omega, rfl, SameUpTo.zero _ _, 0, rfl⟩
    case round =>
      obtain ⟨k, hk, rfl, hsame, n, rfl⟩ := hrel
      by_cases hlt : k < xs.length
      · have hlt' : k < ys.length := by rw [← HL.out]; exact hlt
        obtain ⟨b, off, rfl, hb1, hb2, hc⟩ := HU.at hlt
        obtain ⟨b', off', rfl, hb1', hb2', hc'⟩ := HV.at hlt'
        by_cases he : xs[k] = ys[k]
        · have he' : (xs[k] != ys[k]) = false := by simp [he]
          have HE := Lib.hid he
          clear he
          go_wp2
          go_quiet (fail)
          go_wp2
          go_roundw
          case rel => exact ⟨k + 1, by omega, by go_num, hsame.succ hlt hlt' HE.out, _, rfl⟩
          case measure => simp [intOf]; omega
        · have he' : (xs[k] != ys[k]) = true := by simp [he]
          go_wp2
          go_quiet (fail)
          go_wp2
          go_ret
          exact ⟨ret_bool (decide_eq_false (fun h => he (by subst h; rfl))).symm, _, World.drewN_drewN _ _ _⟩
      · go_wp2
        go_ret
        exact ⟨ret_bool (decide_eq_true (hsame.all HL.out (by omega))).symm, _, rfl⟩
  · have hl' : ((xs.length : Int) != (ys.length : Int)) = true := by simp; omega
    go_enter Tryz.func57, Tryz.ntmps57
    go_wp2
    go_ret
    exact ⟨ret_bool (decide_eq_false (fun h => hl (by rw [h]))).symm, 0, rfl⟩

set_option maxHeartbeats 400000 in
theorem szIntS_any (lo hi : Nat) (u : Value) (xs : List Int) (left : Int) (w : World) (hu : Ints lo hi w u xs) (h1 : 0 ≤ left) (h2 : left ≤ 1048576) :
    Calls Tryz.prog 38 #[u, .int .i64 left] w fun e w' => e = .returned (.int .i64 (if left - xs.length < 0 then -1 else left - xs.length)) ∧ w = w' := by
  have hl := hu.len
  obtain ⟨a, cap, rfl, HU⟩ := hu.open
  go_enter Tryz.func38, Tryz.ntmps38
  go_wp2
  all_goals go_ret
  all_goals exact ⟨rfl, rfl⟩

theorem info_int : (Tryz.prog.info? 3).map (fun i => (i.zero, i.size, i.bytes)) = some (some (.int .i64 0), 1, 8) := by kernel_rfl

theorem made_ints (n : Nat) : (madeCells #[Value.int .i64 0] n).toList = (List.replicate n (0 : Int)).map (Value.int .i64) := by
  apply List.ext_getElem?
  intro i
  by_cases h : i < n
  · simp [madeCells, h]
    rw [Nat.mod_one]
    rfl
  · simp [madeCells, h]

/-- the first k of xs, then zeros: what a copy of xs holds after k rounds -/
def fillTo (xs : List Int) (k : Nat) : List Int := xs.take k ++ List.replicate (xs.length - k) 0
theorem fillTo_length (xs : List Int) (k : Nat) (h : k ≤ xs.length) : (fillTo xs k).length = xs.length := by simp [fillTo]; omega
theorem fillTo_zero (xs : List Int) : fillTo xs 0 = List.replicate xs.length 0 := by simp [fillTo]
theorem fillTo_all (xs : List Int) : fillTo xs xs.length = xs := by simp [fillTo]
theorem fillTo_succ (xs : List Int) (k : Nat) (h : k < xs.length) : (fillTo xs k).set k xs[k] = fillTo xs (k + 1) := by
  unfold fillTo
  rw [show xs.length - k = (xs.length - (k + 1)) + 1 from by omega, List.replicate_succ, List.set_append_right _ _ (by rw [List.length_take]; omega), List.length_take, Nat.min_eq_left (Nat.le_of_lt h), Nat.sub_self, List.set_cons_zero, List.take_succ_eq_append_getElem h, List.append_assoc]
  rfl

set_option maxHeartbeats 400000 in
theorem toIntS_any (lo hi : Nat) (u : Value) (xs : List Int) (w : World) (hu : Ints lo hi w u xs) (hh : hi ≤ w.heap.size) (hsz : xs.length ≤ 1048576) :
    Calls Tryz.prog 45 #[u] w fun e w' => ∃ v, e = .returned v ∧ OwnInts w.heap.size w' v xs ∧ Ext w w' := by
  obtain ⟨i0, hi0, hz0, hz1, hz2⟩ := info_parts info_int
  obtain ⟨a, cap, rfl, HU⟩ := hu.open
  clear hu
  go_enter Tryz.func45, Tryz.ntmps45
  go_wp2_with (at_make; refine wpList_make_full _ rfl _ _ 27 rfl w.heap.size 3 i0 (.int .i64 0) 1 Tryz.underlying27 hi0 hz0 hz1 _ _ _ _ xs.length rfl rfl rfl rfl (by rw [hz2]; omega) (by unfold maxLen; omega) (Nat.le_refl _) ?_)
  intro w1 hown hgrow
  rw [made_ints, ← fillTo_zero] at hown
  have hx : Ext w w1 := (Ext.refl w).grown hgrow (fun k h => by cases h)
  clear hgrow hi0 hz0 hz1 hz2
  go_wp2
  go_loopw [4] (fun i wr => ∃ k : Nat, k ≤ xs.length ∧ i = .int .i64 k ∧ Ext w wr ∧ wr.ownsRow w.heap.size 3 1 (.slice (some ⟨w.heap.size, 0, none⟩) xs.length xs.length) xs.length ((fillTo xs k).map (Value.int .i64)))
    (fun i _ => xs.length - (intOf i).toNat)
  case atStart => exact ⟨0, by omega, rfl, hx, hown⟩
  case round =>
    clear hown hx
    obtain ⟨k, hk, rfl, hx, hown⟩ := hrel
    by_cases hlt : k < xs.length
    · obtain ⟨b, off, rfl, hb1, hb2, hc⟩ := HU.at hlt
      rw [← hx.cells.1 b _ (by omega)] at hc
      have hs := hown.cellAt k (by omega)
      have hf := hown.frozenAt k
      have hst := (hown.stored k (.int .i64 xs[k])).1
      have hx' := hx.setCell (p := ⟨w.heap.size, k, none⟩) (Nat.le_refl _) (.int .i64 xs[k])
      have hs' : wr.cell? ⟨w.heap.size, k, none⟩ = some (.int .i64 ((fillTo xs k)[k]'(by rw [fillTo_length _ _ hk]; exact hlt))) := by
        rw [hs]; simp
      rw [← List.map_set, fillTo_succ _ _ hlt] at hst
      have H1 := hid hst
      have H2 := hid hx'
      clear hst hx' hs hown hx
      go_wp2
      go_roundw
      case rel => exact ⟨k + 1, by omega, by go_num, H2.out, H1.out⟩
      case measure => simp [intOf]; omega
    · go_wp2
      go_ret
      obtain rfl : k = xs.length := by omega
      rw [fillTo_all] at hown
      exact ⟨_, rfl, ⟨by simpa using hown, fun x hx => by
        obtain ⟨i, hi, rfl⟩ := List.getElem_of_mem hx
        exact HU.i64 hi⟩, hx⟩

/-- the numbers k, k+1, .. -/
def upFrom (k : Int) (n : Nat) : List Int := (List.range n).map (fun i : Nat => k + (i : Int))

/-- what held answers at a list that should hold k, k+1, .. -/
def heldRes (xs : List Int) (k : Int) : Int := if xs = upFrom k xs.length then k + xs.length else -1

theorem upFrom_length (k : Int) (n : Nat) : (upFrom k n).length = n := by simp [upFrom]
theorem upFrom_succ (k : Int) (n : Nat) : upFrom k (n + 1) = upFrom k n ++ [k + n] := by simp [upFrom, List.range_succ]
theorem mark_step (k0 : Int) (xs : List Int) (k : Nat) (h : k < xs.length) : (upFrom k0 k ++ xs.drop k).set k (k0 + k) = upFrom k0 (k + 1) ++ xs.drop (k + 1) := by
  rw [List.set_append_right _ _ (by rw [upFrom_length]; omega), upFrom_length, Nat.sub_self, List.drop_eq_getElem_cons h, List.set_cons_zero, upFrom_succ, List.append_assoc]
  rfl

/-- append of one integer to an owned row -/
theorem wpList_append1 (w : World) {ops : Array Oper} {rest : List Oper} {o : Oper} {a : Act} {Q : Exit → Act → World → Prop} (hg : o.guard = none) (s x : Operand)
    (hop : o.op = Op.call { callee := Callee.builtin Builtin.append, args := #[s, x], argTypes := #[27, 27] }) (lo : Nat) (v : Value) (xs : List Int) (hs : a.eval s = v) (hown : OwnInts lo w v xs)
    (y : Int) (hy : I64 y) (b : Nat) (hx : a.eval x = .slice (some ⟨b, 0, none⟩) 1 1) (hcell : w.cell? ⟨b, 0, none⟩ = some (.int .i64 y)) (hlen : xs.length < 1000000000) (hlo : lo ≤ w.heap.size)
    (hK : ∀ v' w', OwnInts lo w' v' (xs ++ [y]) → w.grownBy w' v.ownBlock → wpList Tryz.prog ops Q rest (a.put o.dst v') w') : wpList Tryz.prog ops Q (o :: rest) a w := by
  obtain ⟨i0, hi0, hz0, hz1, hz2⟩ := info_parts info_int
  refine wpList_append_own w hg s x 27 hop lo 3 i0 (.int .i64 0) 1 8 Tryz.underlying27 hi0 hz0 hz1 hz2 rfl (by decide) v xs.length _ hs hown.1 ⟨b, 0, none⟩ 1 1 [.int .i64 y] hx rfl ?_ ?_ ?_ ?_ hlo ?_
  · intro j u hj
    match j, hj with
    | 0, hj => simp at hj; subst hj; exact hcell
  · intro u hu; simp at hu; subst hu; rfl
  · unfold maxLen; omega
  · omega
  · intro v' w1 hown' hgrow _
    refine hK v' w1 ⟨by simpa using hown', fun z hz => ?_⟩ hgrow
    rcases List.mem_append.1 hz with h | h
    · exact hown.2 z h
    · simp at h; rw [h]; exact hy

end Go.Proofs.YtjfcngbepjdfnaaGreat
