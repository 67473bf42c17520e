/- Texts of this claim, one behind another: TexB, LawTex, LiftTex, LiftNum, LiftByt, LiftShp, P14. -/
import Derived.Test.YtodblnccgpiigaaDoorL15j
import Derived.Test.YtodblnccgpiigaaDoorDrawT
import Derived.Test.YtodblnccgpiigaaDoorTexP
import Derived.Test.YtodblnccgpiigaaDoorEx2
import Derived.OpenShut
import Derived.ShutString
import Derived.ChangeOld
import Derived.Below
import Derived.Carry
import Derived.Lib.SmallJoins
import Derived.Test.YtodblnccgpiigaaDoorNum2
import Derived.Test.YtodblnccgpiigaaDoorRows
import Derived.Stop.LaidErr
import Derived.LaidLaws
import Derived.ChangeMaps5
import Derived.Test.YtodblnccgpiigaaDoorDraw
import Derived.Handed
import Derived.ProofKit
import Derived.Test.YtodblnccgpiigaaDoorCards
import Derived.Test.YtodblnccgpiigaaDoorTie
import Derived.LaidMore
import Derived.MakeChecks
import Derived.Stop.Joined
import Derived.Lib.LaidTab
import Derived.SevenTiedAt
section
/- This text proves that an interpolated texture value lies between the bounds of the texels. -/
namespace Go.Proofs.YtodblnccgpiigaaDoor
open Go.RowKit

def Tex.In (t : Tex) (lo hi : Int) : Prop := ∀ p ∈ t.px, lo ≤ p ∧ p ≤ hi
theorem Tex.Ok.at_in {t : Tex} (h : t.Ok) {lo hi : Int} (hb : t.In lo hi) (x y : Int) : lo ≤ t.at x y ∧ t.at x y ≤ hi := by
  obtain ⟨i, hi', h1⟩ := fmod_nat x h.n_pos
  obtain ⟨j, hj, h2⟩ := fmod_nat y h.n_pos
  have hlt := texel_nat h2 h1
  unfold Tex.at
  rw [hi', hj, Int.toNat_natCast, Int.toNat_natCast]
  have hl : j * t.n + i < t.px.length := by rw [h.len]; exact hlt
  rw [List.getD_eq_getElem?_getD, List.getElem?_eq_getElem hl, Option.getD_some]
  exact hb _ (List.getElem_mem hl)
theorem Tex.Ok.half_in {t : Tex} (h : t.Ok) {lo hi : Int} (hb : t.In lo hi) : t.half.In lo hi := by
  intro p hp
  unfold Tex.half Tex.halfPx at hp
  obtain ⟨k, _, rfl⟩ := List.mem_map.1 hp
  unfold Tex.avgK Tex.avg
  have h1 := h.at_in hb (2 * (k % 2 ^ (t.log - 1).toNat : Nat)) (2 * (k / 2 ^ (t.log - 1).toNat : Nat))
  have h2 := h.at_in hb (2 * (k % 2 ^ (t.log - 1).toNat : Nat) + 1) (2 * (k / 2 ^ (t.log - 1).toNat : Nat))
  have h3 := h.at_in hb (2 * (k % 2 ^ (t.log - 1).toNat : Nat)) (2 * (k / 2 ^ (t.log - 1).toNat : Nat) + 1)
  have h4 := h.at_in hb (2 * (k % 2 ^ (t.log - 1).toNat : Nat) + 1) (2 * (k / 2 ^ (t.log - 1).toNat : Nat) + 1)
  omega
theorem Tex.Ok.mip_in {t : Tex} (h : t.Ok) {lo hi : Int} (hb : t.In lo hi) : ∀ k : Nat, k ≤ t.log → (t.mip k).In lo hi
  | 0, _ => hb
  | k + 1, hk => by
    have h1 := h.mip k (by omega)
    exact h1.1.half_in (h.mip_in hb k (by omega))
theorem mix_in {a b f lo hi : Int} (ha : lo ≤ a ∧ a ≤ hi) (hb : lo ≤ b ∧ b ≤ hi) (hf : 0 ≤ f ∧ f ≤ 256) : 256 * lo ≤ a * (256 - f) + b * f ∧ a * (256 - f) + b * f ≤ 256 * hi := by
  have h1 := Int.mul_nonneg (show 0 ≤ a - lo by omega) (show 0 ≤ 256 - f by omega)
  have h2 := Int.mul_nonneg (show 0 ≤ b - lo by omega) hf.1
  have h3 := Int.mul_nonneg (show 0 ≤ hi - a by omega) (show 0 ≤ 256 - f by omega)
  have h4 := Int.mul_nonneg (show 0 ≤ hi - b by omega) hf.1
  simp only [Int.sub_mul, Int.mul_sub] at *
  omega
theorem Tex.Ok.look_in {m : Tex} (h : m.Ok) {lo hi : Int} (hb : m.In lo hi) (u v : Int) : lo ≤ m.look u v ∧ m.look u v ≤ hi := by
  unfold Tex.look Tex.look4
  have fx := posF_bd u m.n
  have fy := posF_bd v m.n
  have t1 := mix_in (h.at_in hb (posX u m.n) (posX v m.n)) (h.at_in hb (posX u m.n + 1) (posX v m.n)) (f := posF u m.n) ⟨fx.1, by omega⟩
  have t2 := mix_in (h.at_in hb (posX u m.n) (posX v m.n + 1)) (h.at_in hb (posX u m.n + 1) (posX v m.n + 1)) (f := posF u m.n) ⟨fx.1, by omega⟩
  have t3 := mix_in t1 t2 (f := posF v m.n) ⟨fy.1, by omega⟩
  omega
theorem Tex.lookR_in {t : Tex} (h : t.okB = true) {lo hi : Int} (hb : t.In lo hi) (u v l : Int) : lo ≤ t.lookR u v l ∧ t.lookR u v l ≤ hi := by
  have hk := Tex.okB_iff.1 h
  unfold Tex.lookR
  rw [if_pos h]
  have hc := clampI_bd (l := l) hk.log0
  exact (hk.mip _ (by omega)).1.look_in (hk.mip_in hb _ (by omega)) u v
end Go.Proofs.YtodblnccgpiigaaDoor
end

section
/- This text walks the law FnTexture. -/
namespace Go.Proofs.YtodblnccgpiigaaDoor
open Go.RowKit

theorem clamp_lo {lo n : Int} (h : 0 ≤ n) : clampI lo 0 n ≤ n ∧ (0 ≤ lo → clampI lo 0 n ≤ lo ∧ 0 ≤ clampI lo 0 n) := by
  unfold clampI
  split
  · omega
  · split <;> omega
theorem clamp_hi {n hi : Int} (h : hi ≤ 256) (hn : n ≤ 256) : n ≤ clampI n hi 256 ∧ hi ≤ clampI n hi 256 ∧ clampI n hi 256 ≤ 256 := by
  unfold clampI
  split
  · omega
  · split <;> omega

set_option maxRecDepth 10000 in
set_option maxHeartbeats 4000000 in
theorem lawTex (v : Value) (n : Nat) (W : World) (hv : Byts W.heap.size W v n) (hcv : Cuts W) (ht : Laid W) :
    Calls Tryd.prog 5 #[v] W fun e w' => e = .returned (.bool true) ∧ Ext W w' := by
  have HT := hid ht
  have HC := hid hcv
  have HV := hid hv
  obtain ⟨a, cap, rfl, k1, k2⟩ := hv.open
  clear hv ht hcv
  by_cases hn : n ≤ 1048576
  · go_enter Tryd.func5, Tryd.ntmps5
    go_wp2_with fail
    refine (MakeTexture_any W.heap.size _ n _ HV.out (Nat.le_refl _) hn).mono ?_
    rintro e w1 ⟨v1, t, rfl, O1, hok, x1⟩
    have R0 := O1.tex
    obtain ⟨u, rfl, hlog, o1⟩ := O1
    obtain ⟨a1, c1, rfl, -⟩ := o1.form
    have HOK := hid hok
    have hlen := hok.len256
    obtain ⟨m, hm⟩ : ∃ m, t.px.length = m := ⟨_, rfl⟩
    rw [hm] at R0 hlen ⊢
    have y1 : Ext w1 (w1.alloc (.cells #[.int .i64 t.log, .slice a1 m c1] 42)) := (by repeat (with_reducible (first | assumption | exact Ext.refl _ | apply Ext.alloc | apply Ext.drew | apply Ext.drewN)))
    have A1 := Blk.new w1 42 [.int .i64 t.log, .slice a1 m c1]
    have R1 := R0.ext (Nat.le_refl _) y1
    have E1 := x1.trans y1
    have HM := hid hm
    clear o1 hok x1 R0 hm hlog
    have p0 := A1.cell 0 rfl
    have p1 := A1.cell 1 rfl
    have pz := A1.lt
    go_wp2_with fail
    refine (iFormatTexture_ok _ _ _ t _ R1 y1.size HOK.out (HT.out.1.ext E1)).mono ?_
    rintro e w2 ⟨rfl, x2⟩
    go_wp2_with fail
    refine (iParseTexture_text t _ HOK.out (HT.out.ext (E1.trans x2)) (HC.out.ext (E1.trans x2))).mono ?_
    rintro e w3 ⟨v3, rfl, O3, x3⟩
    have Q0 := O3.tex
    obtain ⟨u3, rfl, _, o3⟩ := O3
    obtain ⟨a3, c3, rfl, -⟩ := o3.form
    rw [HM.out] at Q0 ⊢
    have y3 : Ext w3 (w3.alloc (.cells #[.int .i64 t.log, .slice a3 m c3] 42)) := (by repeat (with_reducible (first | assumption | exact Ext.refl _ | apply Ext.alloc | apply Ext.drew | apply Ext.drewN)))
    have z23 := (x2.trans x3).size
    rw [World.size_alloc] at z23
    have A3 := (A1.ext (x2.trans x3)).ext y3
    have B3 := Blk.new w3 42 [.int .i64 t.log, .slice a3 m c3]
    have R3 := (R1.ext y1.size (x2.trans x3)).ext (by omega) y3
    have Q3 := Q0.ext (Nat.le_refl _) y3
    have E3 := (E1.trans (x2.trans x3)).trans y3
    obtain ⟨u4, e4, i4, I4⟩ := R3
    have e4' := e4
    simp only [Value.agg.injEq] at e4'
    obtain rfl : Value.slice a1 m c1 = u4 := by simpa using e4'
    have HR3 := hid (show TexR _ _ _ _ t from ⟨_, e4, i4, I4⟩)
    obtain ⟨_, _, e5, HU⟩ := I4.open
    rw [HM.out] at e5
    simp only [Value.slice.injEq] at e5
    obtain ⟨rfl, -, rfl⟩ := e5
    clear p0 p1 pz A1 R1 E1 Q0 o3 x2 x3 y1 y3 e4 e4'
    have p0 := A3.cell 0 rfl
    have p1 := A3.cell 1 rfl
    have pz := A3.lt
    obtain ⟨w5, hw5⟩ : ∃ w5, w3.alloc (.cells #[.int .i64 t.log, .slice a3 m c3] 42) = w5 := ⟨_, rfl⟩
    have hz5 : w3.heap.size + 1 = w5.heap.size := by rw [← hw5]; simp
    rw [hw5] at A3 B3 Q3 E3 HR3 HU I4 p0 p1 pz
    go_wp2
    first | rw [hw5] | skip
    clear hw5
    have hall := hid HOK.out.all
    have HM2 := HM
    go_loopw [6, 7, 25] (fun lo hi i wr => ∃ (l h : Int) (k : Nat), lo = .int .i64 l ∧ hi = .int .i64 h ∧ i = .int .i64 k ∧ k ≤ m ∧ (0 ≤ l ∧ l ≤ 256) ∧ (0 ≤ h ∧ h ≤ 256) ∧ (∀ p ∈ t.px.take k, l ≤ p ∧ p ≤ h) ∧ w5 = wr) (fun _ _ i _ => m - (intOf i).toNat)
    case atStart => exact ⟨256, 0, 0, rfl, rfl, rfl, by omega, ⟨by decide, by decide⟩, ⟨by decide, by decide⟩, fun p hp => by simp at hp, rfl⟩
    case round =>
      obtain ⟨l, h, k, rfl, rfl, rfl, hk, ⟨l0, l1⟩, ⟨h0, h1⟩, hb, rfl⟩ := hrel
      have HB := hid hb
      clear hb
      by_cases hlt : k < m
      · obtain ⟨b, off, rfl, -, hb2, hcx⟩ := HU.at (k := k) (by rw [HM.out]; exact hlt)
        obtain ⟨p, hp⟩ : ∃ p, t.px[k]? = some p := ⟨t.px[k]'(by rw [HM.out]; exact hlt), List.getElem?_eq_getElem (by rw [HM.out]; exact hlt)⟩
        have hpe : t.px[k]'(by rw [HM.out]; exact hlt) = p := (List.getElem?_eq_some_iff.1 hp).2
        rw [hpe] at hcx
        have hp2 := hall.out p (List.mem_of_getElem? hp)
        have hb3 : b < w5.heap.size := by omega
        obtain ⟨l', hl'⟩ : ∃ l', clampI l 0 p = l' := ⟨_, rfl⟩
        obtain ⟨h', hh'⟩ : ∃ h', clampI p h 256 = h' := ⟨_, rfl⟩
        have q1 := clamp_lo (lo := l) hp2.1
        have q2 := clamp_hi (n := p) h1 hp2.2
        rw [hl'] at q1
        rw [hh'] at q2
        have c1' := hid (fun w => iClamp_val hl' w)
        have c2' := hid (fun w => iClamp_val hh' w)
        have HP := hid hp
        have q3 := q1.2 l0
        clear hl' hh' hp hpe
        go_wp2_with fail
        refine (c1'.out _).mono ?_
        rintro e w6 ⟨rfl, rfl⟩
        go_wp2_with fail
        refine (c2'.out _).mono ?_
        rintro e w6 ⟨rfl, rfl⟩
        go_wp2
        go_roundw
        case rel => exact ⟨l', h', k + 1, rfl, rfl, by go_num, by omega, ⟨by omega, by omega⟩, ⟨by omega, by omega⟩, fun x hx => by
          rw [List.take_add_one, HP.out] at hx
          rcases List.mem_append.1 hx with hx | hx
          · have := HB.out x hx; omega
          · simp at hx; subst hx; omega, by trivial⟩
        case measure => simp [intOf]; omega
      · obtain rfl : k = m := by omega
        have hIn : t.In l h := by
          intro p hp
          exact HB.out p (by rw [List.take_of_length_le (by rw [HM.out]; exact Nat.le_refl _)]; exact hp)
        have HIN := hid hIn
        clear hIn
        go_wp2
        refine wp_region_stages [([0, 1, 4, 7], 2), ([3], 5), ([6], 8), ([9], 10), ([], 11)] 99 w5.heap.size (by kernel_rfl) (by kernel_rfl) ?_
        refine wpStages_cons ?_
        simp only [List.filterMap_cons, List.filterMap_nil, List.getElem?_toArray, List.getElem?_cons_zero, List.getElem?_cons_succ]
        show wpQuiet _ _ _ _ [_, _, _, _] _
        try simp only [Act.put, List.getElem_toArray, List.getElem_cons_succ, List.getElem_cons_zero, List.setIfInBounds_toArray, List.set_cons_succ, List.set_cons_zero]
        repeat (go_big_quiet_step (fail))
        refine wpQuiet_nil ⟨_, rfl, fun K hK => ?_⟩
        go_wp2_with fail
        refine (MakeNum_any W.heap.size _ n 1 _ (HV.out.ext (Nat.le_refl _) (E3.trans (by repeat (with_reducible (first | assumption | exact Ext.refl _ | apply Ext.alloc | apply Ext.drew | apply Ext.drewN))))) (E3.trans (show Ext w5 w5.drew from (by repeat (with_reducible (first | assumption | exact Ext.refl _ | apply Ext.alloc | apply Ext.drew | apply Ext.drewN))))).size hn (by decide)).mono ?_
        rintro e w6 ⟨x1, rfl, ⟨x10, x11⟩, x6⟩
        have y6 : Ext w5 w6 := Ext.trans (by repeat (with_reducible (first | assumption | exact Ext.refl _ | apply Ext.alloc | apply Ext.drew | apply Ext.drewN))) x6
        go_wp2_with fail
        refine hK _ _ (.inr (y6.same (Nat.le_refl _))) ?_
        clear hK K
        refine wpStages_cons ?_
        simp only [List.filterMap_cons, List.filterMap_nil, List.getElem?_toArray, List.getElem?_cons_zero, List.getElem?_cons_succ]
        show wpQuiet _ _ _ _ [_] _
        try simp only [Act.put, List.getElem_toArray, List.getElem_cons_succ, List.getElem_cons_zero, List.setIfInBounds_toArray, List.set_cons_succ, List.set_cons_zero]
        repeat (go_big_quiet_step (fail))
        refine wpQuiet_nil ⟨_, rfl, fun K hK => ?_⟩
        go_wp2_with fail
        refine (MakeNum_any W.heap.size _ n 2 _ (HV.out.ext (Nat.le_refl _) (E3.trans y6)) (E3.trans y6).size hn (by decide)).mono ?_
        rintro e w7 ⟨x2, rfl, ⟨x20, x21⟩, x7⟩
        have y7 : Ext w5 w7 := y6.trans x7
        go_wp2_with fail
        refine hK _ _ (.inr (y7.same (Nat.le_refl _))) ?_
        clear hK K
        refine wpStages_cons ?_
        simp only [List.filterMap_cons, List.filterMap_nil, List.getElem?_toArray, List.getElem?_cons_zero, List.getElem?_cons_succ]
        show wpQuiet _ _ _ _ [_] _
        try simp only [Act.put, List.getElem_toArray, List.getElem_cons_succ, List.getElem_cons_zero, List.setIfInBounds_toArray, List.set_cons_succ, List.set_cons_zero]
        repeat (go_big_quiet_step (fail))
        refine wpQuiet_nil ⟨_, rfl, fun K hK => ?_⟩
        go_wp2_with fail
        refine (MakeNum_any W.heap.size _ n 3 _ (HV.out.ext (Nat.le_refl _) (E3.trans y7)) (E3.trans y7).size hn (by decide)).mono ?_
        rintro e w8 ⟨x3, rfl, ⟨x30, x31⟩, x8⟩
        have y8 : Ext w5 w8 := y7.trans x8
        go_wp2_with fail
        refine hK _ _ (.inr (y8.same (Nat.le_refl _))) ?_
        clear hK K
        refine wpStages_cons ?_
        simp only [List.filterMap_cons, List.filterMap_nil, List.getElem?_toArray, List.getElem?_cons_zero, List.getElem?_cons_succ]
        show wpQuiet _ _ _ _ [_] _
        try simp only [Act.put, List.getElem_toArray, List.getElem_cons_succ, List.getElem_cons_zero, List.setIfInBounds_toArray, List.set_cons_succ, List.set_cons_zero]
        repeat (go_big_quiet_step (fail))
        refine wpQuiet_nil ⟨_, rfl, fun K hK => ?_⟩
        go_wp2_with fail
        refine (iLookup_any _ _ _ t (x1 - 9000) (x2 - 9000) (x3 % 6) _ (HR3.out.ext (by omega) y8) (by have := y8.size; omega)).mono ?_
        have hlk := Tex.lookR_in (Tex.okB_iff.2 HOK.out) HIN.out (x1 - 9000) (x2 - 9000) (x3 % 6)
        obtain ⟨r, hr⟩ : ∃ r, t.lookR (x1 - 9000) (x2 - 9000) (x3 % 6) = r := ⟨_, rfl⟩
        rw [hr] at hlk ⊢
        obtain ⟨r0, r1⟩ := hlk
        rintro e w9 ⟨rfl, x9⟩
        have y9 : Ext w5 w9 := y8.trans x9
        clear hr
        go_wp2_with fail
        refine hK _ _ (.inr (y9.same (Nat.le_refl _))) ?_
        clear hK K
        refine wpStages_cons ?_
        simp only [List.filterMap_nil]
        show wpQuiet _ _ _ _ [] _
        try simp only [Act.put, List.getElem_toArray, List.getElem_cons_succ, List.getElem_cons_zero, List.setIfInBounds_toArray, List.set_cons_succ, List.set_cons_zero]
        refine wpQuiet_nil ⟨_, rfl, fun K hK => ?_⟩
        go_wp2_with fail
        refine hK _ _ (.inr (y9.same (Nat.le_refl _))) ?_
        clear hK K
        refine wpStages_nil ?_
        have A9 := A3.ext y9
        have B9 := B3.ext y9
        have p0 := A9.cell 0 rfl
        have p1 := A9.cell 1 rfl
        have pz := A9.lt
        have q0 := B9.cell 0 rfl
        have q1 := B9.cell 1 rfl
        have qz := B9.lt
        obtain ⟨u5, e5, i5, I5⟩ := Q3
        simp only [Value.agg.injEq] at e5
        obtain rfl : Value.slice a3 k c3 = u5 := by simpa using e5
        have J3 := I5.ext (by omega) y9
        have J1 := I4.ext (by omega) y9
        clear e5 I5
        go_wp2_with fail
        refine (sameInts_one _ _ _ _ _ _ t.px _ J3 J1).mono ?_
        rintro e w10 ⟨rfl, x10⟩
        go_wp2
        go_ret
        exact ⟨rfl, (E3.trans y9).trans x10⟩
  · go_enter Tryd.func5, Tryd.ntmps5
    go_wp2
    go_ret
    exact ⟨rfl, Ext.refl _⟩
end Go.Proofs.YtodblnccgpiigaaDoor
end

section
/- This text reads the laws' arguments off the data that the row speaks of: integers, slices of integers, textures. -/
namespace Go.Proofs.YtodblnccgpiigaaDoor
open Go.ChangeShapes Go.WideShapes Go.ChangeAt Go.RowKit

theorem laidOut : laidOutB Tryd.prog = true := by kernel_rfl

section
variable {H : Type} {enc : TypeId × Value → H} {W : World} {base b0 : Nat} {sp : Nat → Bool} {held : Bool}

theorem wf_I64 {n : Int} (h : (Lit.int .i64 n).wf = true) : I64 n := by
  simp [Lit.wf, IntKind.min, IntKind.max, IntKind.signed, IntKind.bits] at h
  exact ⟨by omega, by omega⟩
set_option maxRecDepth 100000 in
theorem argInt {v : Value} {d : DataW H} {p : List MemPlace} (hv : Value.okWide Tryd.prog W .any b0 3 v) (h : DataW.Trod enc Tryd.prog W base sp held 3 v d p) : ∃ n, v = .int .i64 n ∧ I64 n := by
  obtain ⟨n, rfl, _, _, hw⟩ := open_int Tryd.underlying3 hv h
  exact ⟨n, rfl, wf_I64 hw⟩
set_option maxRecDepth 100000 in
/-- what lies behind the cell of a slice of integers -/
theorem cellInts {fuel : Nat} {c : Value} {y : DataW H × List MemPlace} (h : DataW.trod enc Tryd.prog W base sp held fuel 23 [c] = some y) : ∃ xs, Ints 0 W.heap.size W c xs := by
  rcases open_ints Tryd.underlying23 Tryd.underlying3 (by kernel_rfl) h with ⟨hcs, _⟩ | ⟨a, len, cap, zs, hcs, _, hl, hm, hz, _, hcell, hwz⟩
  · obtain rfl : c = .slice none 0 0 := by simpa using hcs
    exact ⟨[], none, 0, rfl, Nat.le_refl _, by unfold maxLen; omega, fun i x hx => by simp at hx⟩
  · obtain rfl : c = .slice (some a) len cap := by simpa using hcs
    have hlen : (zs.take len).length = len := by
      rw [List.length_take, hz]
      split <;> omega
    refine ⟨zs.take len, some a, cap, by rw [hlen], by omega, hm, fun i x hx => ?_⟩
    have hi : i < len := by have := (List.getElem?_eq_some_iff.1 hx).1; omega
    rw [List.getElem?_take, if_pos hi] at hx
    have hzi := (List.getElem?_eq_some_iff.1 hx).1
    have hxx : zs.getD i 0 = x := by simp [List.getD, hx]
    obtain ⟨b, o, s⟩ := a
    obtain rfl : s = none := by
      cases s with
      | none => rfl
      | some s =>
        have h0 := hcell 0 (by omega)
        simp only [World.cell?, Addr.add, if_true] at h0
        split at h0 <;> simp at h0
    have hc := hcell i hzi
    rw [hxx] at hc
    have ha : (⟨b, o, none⟩ : Addr).add i = ⟨b, o + i, none⟩ := by
      unfold Addr.add
      split
      · rename_i e; subst e; rfl
      · rfl
    rw [ha] at hc
    refine ⟨wf_I64 (hwz x (List.mem_of_getElem? hx)), b, o, rfl, Nat.zero_le _, ?_, hc⟩
    simp only [World.cell?] at hc
    split at hc
    · rename_i e; exact (Array.getElem?_eq_some_iff.1 e).1
    · cases hc
end

end Go.Proofs.YtodblnccgpiigaaDoor
end

section
/- This text reads the two sentinel errors of strconv out of what a card lists, and arguments that are strings. -/
namespace Go.Proofs.YtodblnccgpiigaaDoor
open Go.ChangeShapes Go.WideShapes Go.ChangeAt Go.RowKit

theorem starErr : "*" ++ "errors.errorString" = "*errors.errorString" := by decide
theorem rowErr (u : TypeId) (h : Tryd.prog.typeName? 3 u = some "*errors.errorString") : u = 133 :=
  typeName_ptr_named (nm := "errors.errorString") (by rw [starErr]; kernel_rfl) (by kernel_rfl) (by decide) u (by rw [starErr]; exact h)
theorem cellsErr : Tryd.prog.cellsOf 135 = 1 := by kernel_rfl
theorem cellsStr : Tryd.prog.cellsOf 9 = 1 := by kernel_rfl
theorem globRan : Tryd.prog.globalNamed "strconv.ErrRange" = some 2 := by kernel_rfl
theorem globSyn : Tryd.prog.globalNamed "strconv.ErrSyntax" = some 1 := by kernel_rfl
theorem typeRan : (Tryd.prog.globals[2]?).map (·.type) = some 88 := by kernel_rfl
theorem typeSyn : (Tryd.prog.globals[1]?).map (·.type) = some 88 := by kernel_rfl
theorem errs_of {r : List (String × DataW Unit)} {W : World} (h : laidMet Tryd.prog (("strconv.ErrRange", Rows.laid_strconv_ErrRange) :: ("strconv.ErrSyntax", Rows.laid_strconv_ErrSyntax) :: r) W) : Errs W := by
  obtain ⟨a0, s0, hv0, -, -, -⟩ := laid_sentinel h globRan typeRan Tryd.underlying88 rowErr Tryd.underlying133 Tryd.underlying135 rfl rfl Tryd.underlying9 cellsErr cellsStr
  obtain ⟨a1, s1, hv1, -, -, -⟩ := laid_sentinel h.tail globSyn typeSyn Tryd.underlying88 rowErr Tryd.underlying133 Tryd.underlying135 rfl rfl Tryd.underlying9 cellsErr cellsStr
  exact ⟨⟨_, _, hv1⟩, _, _, hv0⟩
section
variable {H : Type} {enc : TypeId × Value → H} {W : World} {base b0 : Nat} {sp : Nat → Bool} {held : Bool}
set_option maxRecDepth 100000 in
theorem argStr {v : Value} {d : DataW H} {p : List MemPlace} (hv : Value.okWide Tryd.prog W .any b0 9 v) (h : DataW.Trod enc Tryd.prog W base sp held 9 v d p) :
    ∃ s : ByteArray, v = .string s ∧ s.size ≤ maxLen := by
  obtain ⟨s, rfl, _, _, hs⟩ := Go.ChangeMaps.open_string Tryd.underlying9 hv h
  exact ⟨s, rfl, hs⟩
end
end Go.Proofs.YtodblnccgpiigaaDoor
end

section
/- This text reads the laws' arguments that are slices of bytes. -/
namespace Go.Proofs.YtodblnccgpiigaaDoor
open Go.ChangeShapes Go.WideShapes Go.ChangeAt Go.RowKit
section
variable {H : Type} {enc : TypeId × Value → H} {W : World} {base b0 : Nat} {sp : Nat → Bool} {held : Bool}

theorem wf_U8 {n : Int} (h : (Lit.int .u8 n).wf = true) : 0 ≤ n ∧ n ≤ 255 := by
  simp [Lit.wf, IntKind.min, IntKind.max, IntKind.signed, IntKind.bits] at h
  omega
set_option maxRecDepth 100000 in
theorem cellByts {fuel : Nat} {c : Value} {y : DataW H × List MemPlace} (h : DataW.trod enc Tryd.prog W base sp held fuel 22 [c] = some y) : ∃ n, Byts W.heap.size W c n := by
  rcases open_ints Tryd.underlying22 Tryd.underlying5 (by kernel_rfl) h with ⟨hcs, _⟩ | ⟨a, len, cap, zs, hcs, _, hl, hm, hz, _, hcell, hwz⟩
  · obtain rfl : c = .slice none 0 0 := by simpa using hcs
    exact ⟨0, none, 0, rfl, Nat.le_refl _, by unfold maxLen; omega, fun i hx => by omega⟩
  · obtain rfl : c = .slice (some a) len cap := by simpa using hcs
    refine ⟨len, some a, cap, rfl, by omega, hm, fun i hi => ?_⟩
    have hlz : len ≤ zs.length := by rw [hz]; split <;> omega
    have hzi : i < zs.length := by omega
    obtain ⟨b, o, s⟩ := a
    obtain rfl : s = none := by
      cases s with
      | none => rfl
      | some s =>
        have h0 := hcell 0 (by omega)
        simp only [World.cell?, Addr.add, if_true] at h0
        split at h0 <;> simp at h0
    have hc := hcell i hzi
    have ha : (⟨b, o, none⟩ : Addr).add i = ⟨b, o + i, none⟩ := by
      unfold Addr.add
      split
      · rename_i e; subst e; rfl
      · rfl
    rw [ha] at hc
    have hw := wf_U8 (hwz (zs.getD i 0) (by rw [List.getD_eq_getElem?_getD, List.getElem?_eq_getElem hzi]; exact List.getElem_mem hzi))
    refine ⟨b, o, zs.getD i 0, rfl, ?_, hw.1, hw.2, hc⟩
    simp only [World.cell?] at hc
    split at hc
    · rename_i e; exact (Array.getElem?_eq_some_iff.1 e).1
    · cases hc
set_option maxRecDepth 100000 in
theorem argByts {v : Value} {d : DataW H} {p : List MemPlace} (hv : Value.okWide Tryd.prog W .any b0 22 v) (h : DataW.Trod enc Tryd.prog W base sp held 22 v d p) : ∃ n, Byts W.heap.size W v n := by
  obtain ⟨a, len, cap, rfl⟩ := okWide_slice Tryd.underlying22 hv
  obtain ⟨fuel, hf⟩ := h
  exact cellByts hf
end
end Go.Proofs.YtodblnccgpiigaaDoor
end

section
/- This text hands a law's walk both what its card lists and the shape of the world, and reads the variable of strings.Cut out of the shape. -/
namespace Go.Proofs.YtodblnccgpiigaaDoor
open Go.ChangeShapes Go.WideShapes Go.ChangeAt Go.RowKit

theorem cuts_of {W : World} (h : W.ShapedOpen Tryd.prog) : Cuts W := Tryd.laysM145.s1_3 W h

section
variable {H : Type} {enc : TypeId × Value → H}
theorem handed_shaped {a : Assume} {C : Checked} {os : Os} {f : FuncId} {fn : Func} {s : ChangeSpec} {conds : List PathCond} {apart fresh handsOn again : Bool} {X : World → Array Value → Prop}
    (hX : ∀ (w w' : World) (args : Array Value), w.heap = w'.heap → X w args → X w' args) (own : ownKnob C.prog.godebug = none) (started : os.Started) (noInit : C.prog.inits.idxOf? f = none) (hfn : C.prog.funcs[f]? = some fn)
    (wit : ∃ (w : World) (tape : Tape) (i : Input), w.os = os ∧ (w.forCall tape i).Shaped C.prog ∧ i.vars = [] ∧ Input.okWide C.prog (w.forCall tape i) .any w.heap.size f i ∧
      ((s.pre enc C.prog fn conds apart (w.forCall tape i).memory i.args ∧ X (w.forCall tape i).memory i.args) ∧ sizedMet enc C.prog fn (OpenSpec.ofChange s) apart (w.forCall tape i).memory i.args) ∧ a.holds C.prog (lone (Frame.enter C.prog f i.args .normal) [] (w.forCall tape i)))
    (walk : ∀ (W : World) (base : Nat) (args : Array Value) (ds gs : List (DataW H)) (before : List MemPlace), (∀ (j : Nat) t v, fn.params[j]? = some t → args[j]? = some v → Value.okWide C.prog W .any base t v) →
      DataW.Whole enc C.prog fn.params.toList s.vars apart W args.toList ds gs before → W.ShapedOpen C.prog → X W args →
      Calls C.prog f args W fun e W' => ∃ v, e = .returned v ∧ s.post enc C.prog fn apart fresh handsOn again W args v W') :
    ReturnsInHanded a C os f .any (fun w args => (s.pre enc C.prog fn conds apart w args ∧ X w args) ∧ sizedMet enc C.prog fn (OpenSpec.ofChange s) apart w args) (s.post enc C.prog fn apart fresh handsOn again) := by
  refine returnsInHanded_of_calls own started noInit wit fun w tape i _ hsh _ hok hpre _ => ?_
  obtain ⟨_, _, _, fn', h1, _, _, _, _, hval⟩ := hok
  obtain rfl : fn' = fn := Option.some.inj (h1.symm.trans hfn)
  obtain ⟨⟨⟨ds, gs, before, hw, _⟩, hx⟩, _⟩ := hpre
  refine (walk (w.forCall tape i) w.heap.size i.args ds gs before hval (DataW.Whole.of_heap (w' := w.forCall tape i) (by rfl) hw) hsh (hX _ _ _ (by rfl) hx)).mono ?_
  rintro e W' ⟨v, rfl, hp⟩
  exact ChangeSpec.post_blind hp
end
end Go.Proofs.YtodblnccgpiigaaDoor
end

section
/- This text lifts the walk of FnTexture to the given card: the tables that the row lists lie as the text of the library lays them (the given tie). -/
namespace Go.Proofs.YtodblnccgpiigaaDoor.fnTexture
open Go.ChangeShapes Go.WideShapes Go.ChangeAt Go.RowKit
set_option linter.unusedVariables false

theorem own : ownKnob Tryd.prog.godebug = none := by kernel_rfl
theorem laid : laidOutB Tryd.prog = true := by kernel_rfl

def laidL : List (String × DataW Unit) := [("math/bits.deBruijn32tab", Rows.laid_math_bits_deBruijn32tab), ("math/bits.deBruijn64tab", Rows.laid_math_bits_deBruijn64tab), ("internal/strconv.uint64pow10", Rows.laid_internal_strconv_uint64pow10), ("strconv.ErrRange", Rows.laid_strconv_ErrRange), ("strconv.ErrSyntax", Rows.laid_strconv_ErrSyntax)]
theorem door_met (os : Os) (args : Array Value) : laidMetH Tryd.prog laidL ((World.doorLaid Tryd.prog 400 os).forCall (fun _ _ => 0) ⟨#[], args, []⟩).memory :=
  laidMetH_of_parts3 (fuel := 8) (laidMet_of_run' 8 (by kernel_rfl) (by kernel_rfl)) (by kernel_rfl) (by kernel_rfl)
theorem tab_of {W : World} (h : laidMetH Tryd.prog laidL W) : Tab W := by
  rw [MakeChecks.laidMetH_plain _ _ _ (by kernel_rfl)] at h
  exact Lib.tabIs_of_head (rest := [("strconv.ErrRange", Rows.laid_strconv_ErrRange), ("strconv.ErrSyntax", Rows.laid_strconv_ErrSyntax)]) (t := 137) (e := 120) (n := 20) (g := 3) (by kernel_rfl) (by kernel_rfl) Tryd.underlying137 Tryd.underlying120 (by kernel_rfl) (by kernel_rfl) (show laidMet Tryd.prog _ W from h.tail.tail)
theorem laid_of {W : World} (h : laidMetH Tryd.prog laidL W) : Laid W := by
  have hT := tab_of h
  rw [MakeChecks.laidMetH_plain _ _ _ (by kernel_rfl)] at h
  exact ⟨hT, errs_of (show laidMet Tryd.prog _ W from h.tail.tail.tail)⟩

set_option maxRecDepth 100000 in
theorem lifted (os : Os) (started : os.Started) (H : Type) (enc : TypeId × Value → H) :
    ReturnsInHanded {} Tryd.checked os 5 .any (fun w args => (Rows.fnTextureSpec.pre enc Tryd.prog Tryd.f5 [] false w args ∧ laidMetH Tryd.prog laidL w) ∧ sizedMet enc Tryd.prog Tryd.f5 (OpenSpec.ofChange Rows.fnTextureSpec) false w args)
      (Rows.fnTextureSpec.post enc Tryd.prog Tryd.f5 false true false false) := by
  refine handed_shaped (C := Tryd.checked) (X := fun w _ => laidMetH Tryd.prog laidL w) (fun _ _ _ hh h => h.of_heap hh) own started (by kernel_rfl) Tryd.func5
    (ChangeSpec.witness_shaped (enc := enc) (C := Tryd.checked) (os := os) (X := fun w _ => laidMetH Tryd.prog laidL w) false (World.doorLaid Tryd.prog 400 os) #[.slice none 0 0] 8 rfl (World.shaped_of_RefB (by kernel_rfl) (by kernel_rfl)) (by kernel_rfl) (by kernel_rfl) (by kernel_rfl) (door_met os _)) ?_
  intro W base args ds gs before hval0 hW hsh hL
  have hT := laid_of hL
  have hC := cuts_of hsh
  have hval : ∀ (j : Nat) t v, Tryd.f5.params[j]? = some t → args[j]? = some v → Value.okWide Tryd.prog W .any base t v := hval0
  have hW' := hW
  obtain ⟨p, q, hA0, hV, rfl, hfz, hnd⟩ := hW
  have hA : DataW.TrodAll enc Tryd.prog W 0 (fun _ => true) true Tryd.f5.params.toList args.toList ds p := hA0
  rw [Tryd.params5] at hA hval
  obtain ⟨v0, vs0, d0, ds0, p0, q0, hargs, rfl, rfl, h0, r0⟩ := trodAll_cons hA
  obtain ⟨rfl, rfl, rfl⟩ := trodAll_nil r0
  obtain rfl : args = #[v0] := by cases args; simp_all
  obtain ⟨rfl, rfl⟩ := trodVars_none hV
  have k0 := h0
  have lt0 : ∀ x ∈ p0, x.block < W.heap.size := by obtain ⟨m, hm⟩ := k0; exact DataW.trod_lt m _ _ _ hm
  obtain ⟨n0, w0⟩ := argByts (hval 0 22 v0 rfl rfl) h0
  clear hA0 hval0
  refine (lawTex v0 n0 W w0 hC hT).mono fun e W' ⟨he, bel0⟩ => ?_
  have bel : Below W.heap.size W W' := bel0
  subst he
  exact ⟨_, rfl, _, _, _, [], _, [], hW', trodAll_mk1 (shut_bool Tryd.underlying4 _), (trodAll_cons_mk (Below.trod laid (by kernel_rfl) (of_decide_eq_true (by kernel_rfl)) k0 bel lt0) trodAll_mk0), rfl, bel.frame _, fun h => by cases h⟩

theorem over : Rows.fnTextureRow.holds Tryd.pinned (OpenSpec.ofChange Rows.fnTextureSpec) :=
  OpenClaim.holds_of_wide 5 Tryd.f5 rfl rfl rfl rfl rfl rfl rfl ⟨rfl, rfl, rfl, rfl, rfl⟩ rfl rfl rfl rfl rfl (by kernel_rfl) Tryd.func5 (by kernel_rfl)
    (of_decide_eq_true (by kernel_rfl)) (by unfold Func.isWrapper; first | (rw [if_pos (by decide +kernel)]; kernel_rfl) | (rw [if_neg (by decide +kernel)]; exact ⟨rfl, rfl⟩))
    (fun os started H enc _ => lifted os started H enc)

theorem proved : Rows.FnTextureCardSaid :=
  Claim7.holds_tied_plain_at .later [] [.data, .data, .data, .sentinel, .sentinel] true (true, "9f39c15167de47c6a0cc049db57585dd1863d7cef5159da7b16a1b2dd734685a") true
    over (fun _ h => by cases h) (by kernel_rfl) (fun _ h => by cases h) fnTexture_row_tie rfl ⟨rfl, rfl⟩ (by kernel_rfl) rfl
    (fun f fn hf hfn => by
      obtain rfl : f = 5 := Option.some.inj ((show Tryd.prog.funcNamed "loop.example/g00809/laws.FnTexture" = some 5 by kernel_rfl).symm.trans hf) |>.symm
      obtain rfl : fn = Tryd.f5 := (Option.some.inj (Tryd.func5.symm.trans hfn)).symm
      exact ⟨by kernel_rfl, fun j t ht => by
        rw [Tryd.params5] at ht
        have hm : t ∈ [22] := by simpa using Array.mem_of_getElem? ht
        have hall : ([22].all fun u => !Tryd.prog.wantsStandIn u) = true := by kernel_rfl
        exact (show Tryd.prog.wantsStandIn t = false by simpa using List.all_eq_true.1 hall t hm)⟩)
    (by kernel_rfl)
end Go.Proofs.YtodblnccgpiigaaDoor.fnTexture
end
