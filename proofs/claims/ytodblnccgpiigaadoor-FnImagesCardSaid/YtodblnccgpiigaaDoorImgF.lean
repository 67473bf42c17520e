/- This text proves what the program's ImageDigest, SameImage and CompareImages hand back for one valid image. -/
import Derived.Test.YtodblnccgpiigaaDoorImgL
import Derived.Test.YtodblnccgpiigaaDoorBlk
namespace Go.Proofs.YtodblnccgpiigaaDoor
open Go.RowKit

def hashStep (h x : Int) : Int := fmod (31 * h + clampI x (-1000000000) 1000000000) 1000003
def hashI (xs : List Int) : Int := xs.foldl hashStep 17
theorem clamp_big (x : Int) : -1000000000 ≤ clampI x (-1000000000) 1000000000 ∧ clampI x (-1000000000) 1000000000 ≤ 1000000000 := by
  unfold clampI
  split
  · omega
  · split <;> omega
theorem fmod_hash (a : Int) : 0 ≤ fmod a 1000003 ∧ fmod a 1000003 < 1000003 := by
  obtain ⟨k, hk, h⟩ := fmod_nat a (n := 1000003) (by decide)
  have e : fmod a 1000003 = fmod a ((1000003 : Nat) : Int) := rfl
  rw [e, hk]
  omega
theorem hash_range : ∀ (xs : List Int) (h : Int), (0 ≤ h ∧ h < 1000003) → 0 ≤ xs.foldl hashStep h ∧ xs.foldl hashStep h < 1000003
  | [], _, h => h
  | _ :: r, _, _ => hash_range r _ (fmod_hash _)
theorem hashI_range (xs : List Int) : 0 ≤ hashI xs ∧ hashI xs < 1000003 := hash_range xs 17 (by decide)
theorem hashI_snoc (xs : List Int) (k : Nat) (x : Int) (h : xs[k]? = some x) : hashI (xs.take (k + 1)) = hashStep (hashI (xs.take k)) x := by
  unfold hashI
  rw [List.take_add_one, h, List.foldl_append]
  rfl

set_option maxHeartbeats 800000 in
theorem HashInts_any (lo hi : Nat) (u : Value) (xs : List Int) (w : World) (hu : Ints lo hi w u xs) :
    Calls Tryd.prog 39 #[u] w fun e w' => e = .returned (.int .i64 (hashI xs)) ∧ w = w' := by
  obtain ⟨a, cap, rfl, HU⟩ := hu.open
  have l1 := HU.le
  have l2 := HU.cap
  clear hu
  go_enter Tryd.func39, Tryd.ntmps39
  go_wp2
  go_loopw [3, 8] (fun h i wr => ∃ k : Nat, k ≤ xs.length ∧ i = .int .i64 k ∧ h = .int .i64 (hashI (xs.take k)) ∧ w = wr) (fun _ i _ => xs.length - (intOf i).toNat)
  case atStart => exact ⟨0, by omega, rfl, by rw [List.take_zero]; rfl, rfl⟩
  case round =>
    obtain ⟨k, hk, rfl, rfl, rfl⟩ := hrel
    by_cases hlt : k < xs.length
    · obtain ⟨b, off, rfl, hb1, hb2, hc⟩ := HU.at hlt
      obtain ⟨x, hx⟩ : ∃ x, xs[k] = x := ⟨_, rfl⟩
      have hs := hashI_snoc xs k x (by rw [List.getElem?_eq_getElem hlt, hx])
      obtain ⟨h, hh⟩ : ∃ h, hashI (xs.take k) = h := ⟨_, rfl⟩
      have hr := hashI_range (xs.take k)
      rw [hh] at hr hs ⊢
      rw [hx] at hc
      have HS := hid hs
      have hcl := clamp_big x
      obtain ⟨c, hcx⟩ : ∃ c, clampI x (-1000000000) 1000000000 = c := ⟨_, rfl⟩
      have HC := hid hcx
      rw [hcx] at hcl
      clear hs hh hx hcx
      have hcc : ∀ w, Calls Tryd.prog 21 #[.int .i64 x, .int .i64 (-1000000000), .int .i64 1000000000] w fun e w' => e = .returned (.int .i64 c) ∧ w = w' := fun w => iClamp_val HC.out w
      have HCC := hid hcc
      clear hcc
      go_wp2_with fail
      refine (HCC.out _).mono ?_
      rintro e w1 ⟨rfl, rfl⟩
      go_wp2_with fail
      refine (floorMod_any (31 * h + c) 1000003 _ ⟨by omega, by omega⟩ ⟨by decide, by decide⟩).mono ?_
      rintro e w1 ⟨rfl, rfl⟩
      go_wp2
      go_roundw
      case rel => exact ⟨k + 1, by omega, by go_num, by rw [HS.out, hashStep, HC.out], by trivial⟩
      case measure => simp [intOf]; omega
    · obtain rfl : k = xs.length := by omega
      rw [List.take_length]
      go_wp2
      go_ret
      exact ⟨rfl, rfl⟩

/-- append of the elements of a slice to an owned row -/
theorem wpList_appendN (w : World) {ops : Array Oper} {rest : List Oper} {o : Oper} {a : Act} {Q : Exit → Act → World → Prop} (hg : o.guard = none) (s x : Operand)
    (hop : o.op = Op.call { callee := Callee.builtin Builtin.append, args := #[s, x], argTypes := #[23, 23] }) (lo : Nat) (v : Value) (xs : List Int) (hs : a.eval s = v) (hown : OwnInts lo w v xs)
    (ys : List Int) (b off c : Nat) (hx : a.eval x = .slice (some ⟨b, off, none⟩) ys.length c) (hy : ∀ y ∈ ys, I64 y) (hcell : ∀ j y, ys[j]? = some y → w.cell? ⟨b, off + j, none⟩ = some (.int .i64 y)) (hlen : xs.length + ys.length < 1000000000) (hlo : lo ≤ w.heap.size)
    (hK : ∀ v' w', OwnInts lo w' v' (xs ++ ys) → w.grownBy w' v.ownBlock → wpList Tryd.prog ops Q rest (a.put o.dst v') w') : wpList Tryd.prog ops Q (o :: rest) a w := by
  obtain ⟨i0, hi0, hz0, hz1, hz2⟩ := info_parts info_int
  refine wpList_append_own w hg s x 23 hop lo 3 i0 (.int .i64 0) 1 8 Tryd.underlying23 hi0 hz0 hz1 hz2 rfl (by decide) v xs.length _ hs hown.1 ⟨b, off, none⟩ ys.length c (ys.map (Value.int .i64)) hx (by simp) ?_ ?_ ?_ ?_ hlo ?_
  · intro j u hj
    rw [List.getElem?_map] at hj
    cases hy' : ys[j]? with
    | none => rw [hy'] at hj; cases hj
    | some y =>
      rw [hy'] at hj
      simp only [Option.map_some, Option.some.injEq] at hj
      subst hj
      have hq := hcell j y hy'
      unfold Addr.add
      split
      · rename_i h0; subst h0; simpa using hq
      · exact hq
  · intro u hu
    obtain ⟨y, _, rfl⟩ := List.mem_map.1 hu
    rfl
  · unfold maxLen; omega
  · omega
  · intro v' w1 hown' hgrow _
    refine hK v' w1 ⟨by simpa using hown', fun z hz => ?_⟩ hgrow
    rcases List.mem_append.1 hz with h | h
    · exact hown.2 z h
    · exact hy z h

theorem Pic.R.shape {I : Pic} {lo hi : Nat} {w : World} {v : Value} (h : I.R lo hi w v) (hok : I.okB = true) :
    ∃ W H b off c, W ≤ 12 ∧ H ≤ 12 ∧ 1 ≤ W ∧ 1 ≤ H ∧ I.w = (W : Nat) ∧ I.h = (H : Nat) ∧ I.px.length = H * W ∧ v = .agg #[.int .i64 (W : Nat), .int .i64 (H : Nat), .slice (some ⟨b, off, none⟩) (H * W) c] ∧ lo ≤ b ∧ b < hi ∧ IntsAt lo hi w (some ⟨b, off, none⟩) c I.px := by
  obtain ⟨W, H, e, h1, h2, h3⟩ := Pic.ok_shape hok
  obtain ⟨u, rfl, i1, i2, hu⟩ := h
  obtain ⟨a, c, rfl, HU⟩ := hu.open
  have hp : 1 ≤ H * W := Nat.mul_le_mul h2.1 h1.1
  obtain ⟨b, off, rfl, hb1, hb2, _⟩ := HU.at (k := 0) (by omega)
  have e1 : I.w = (W : Nat) := by rw [e]
  have e2 : I.h = (H : Nat) := by rw [e]
  exact ⟨W, H, b, off, c, h1.2, h2.2, h1.1, h2.1, e1, e2, h3, by rw [e1, e2, h3], hb1, hb2, HU⟩

set_option maxHeartbeats 800000 in
theorem ImageDigest_any (lo hi : Nat) (v : Value) (I : Pic) (w : World) (hv : I.R lo hi w v) (hh : hi ≤ w.heap.size) (hok : I.okB = true) :
    Calls Tryd.prog 13 #[v] w fun e w' => e = .returned (.int .i64 (hashI ([I.w, I.h] ++ I.px))) ∧ Ext w w' := by
  have HV := hid hv
  have HK := hid hok
  obtain ⟨W, H, b, off, c, hW, hH, hW1, hH1, eW, eH, hl, rfl, hb1, hb2, HU⟩ := hv.shape hok
  have l1 := HU.le
  have l2 := HU.cap
  have hm : H * W ≤ 12 * 12 := Nat.mul_le_mul hH hW
  obtain ⟨n, hn⟩ : ∃ n, H * W = n := ⟨_, rfl⟩
  rw [hn] at hl hm HV ⊢
  rw [hl] at l1
  have hl := hid hl
  replace hn := hid hn
  rw [eW, eH]
  clear hv hok eW eH
  go_enter Tryd.func13, Tryd.ntmps13
  go_wp2_with fail
  refine (iIsValidImage_any lo hi _ _ _ (HV.out.ext hh (by repeat (with_reducible (first | assumption | exact Ext.refl _ | apply Ext.alloc | apply Ext.drew | apply Ext.drewN)))) (by simp; omega)).mono ?_
  rw [HK.out]
  rintro e w1 ⟨rfl, x1⟩
  have B1 := (Blk.new w 25 [.int .i64 (W : Nat), .int .i64 (H : Nat), .slice (some ⟨b, off, none⟩) n c]).ext x1
  have X1 : Ext w w1 := Ext.trans (by repeat (with_reducible (first | assumption | exact Ext.refl _ | apply Ext.alloc | apply Ext.drew | apply Ext.drewN))) x1
  have c0 := B1.cell 0 rfl
  have c1 := B1.cell 1 rfl
  have c2 := B1.cell 2 rfl
  have z1 := B1.lt
  have O1 : OwnInts w1.heap.size (w1.alloc (.cells #[.int .i64 (W : Nat), .int .i64 (H : Nat)] 3)) (.slice (some ⟨w1.heap.size, 0, none⟩) 2 2) [(W : Int), (H : Int)] :=
    ⟨⟨rfl, .inr ⟨w1.heap.size, 2, _, rfl, Nat.le_refl _, heap_new w1 _, by simp, by unfold maxLen; omega, rfl, rfl⟩⟩, fun x hx => by
      simp only [List.mem_cons, List.not_mem_nil, or_false] at hx
      rcases hx with rfl | rfl <;> exact ⟨by omega, by omega⟩⟩
  have HO := hid O1
  have HI := hid (fun y (hy : y ∈ I.px) => by
    obtain ⟨i, hi, rfl⟩ := List.getElem_of_mem hy
    exact HU.i64 hi : ∀ y ∈ I.px, I64 y)
  have HC := hid (fun j y (hy : I.px[j]? = some y) => by
    obtain ⟨_, b', off', e, _, h2, h3⟩ := HU.cell j y hy
    simp only [Option.some.injEq, Addr.mk.injEq, and_true] at e
    obtain ⟨rfl, rfl⟩ := e
    exact ((X1.trans (by repeat (with_reducible (first | assumption | exact Ext.refl _ | apply Ext.alloc | apply Ext.drew | apply Ext.drewN)))).cells.1 b (off + j) (by omega)).trans h3 : ∀ j y, I.px[j]? = some y → (w1.alloc (.cells #[.int .i64 (W : Nat), .int .i64 (H : Nat)] 3)).cell? ⟨b, off + j, none⟩ = some (.int .i64 y))
  clear O1 HU
  go_wp2_with (at_builtin; refine wpList_appendN _ rfl _ _ rfl w1.heap.size _ _ rfl HO.out I.px b off c (by rw [hl.out]; rfl) HI.out HC.out (by rw [hl.out]; simp; omega) (by simp) ?_; intro v' w2 hown hg)
  obtain ⟨a2, c2', e2, -⟩ := hown.form
  have R2 := hown.ints
  rw [e2] at R2
  subst e2
  have X2 : Ext w w2 := Ext.grown (X1.trans (by repeat (with_reducible (first | assumption | exact Ext.refl _ | apply Ext.alloc | apply Ext.drew | apply Ext.drewN)))) hg (fun k hk => by have := X1.size; have := (HO.out.lt k hk).1; omega)
  go_wp2_with fail
  refine (HashInts_any _ _ _ _ _ R2).mono ?_
  rintro e w3 ⟨rfl, rfl⟩
  go_wp2
  go_ret
  exact ⟨rfl, X2⟩
end Go.Proofs.YtodblnccgpiigaaDoor
