/- Texts of this claim, one behind another: Op2, Op3, Op4, Cp2, Draw, DrawT, Dr1, Dr2, L02a, L02b, L02c, L02d, L02e, Gd1, Gd2, Gd3, Gd4, Gd5, Gd6, LawOpt, LiftTex, LiftBy0, P24. -/
import Derived.Test.YtaegmenjgjdimaaGreatP24Y2
import Derived.Test.YtaegmenjgjdimaaGreatP24Y4
import Derived.Maps.AppendAt
import Derived.Test.YtaegmenjgjdimaaGreatP24Y3
import Derived.Test.YtaegmenjgjdimaaGreatP24Y1
import Derived.Test.YtaegmenjgjdimaaGreatL01
import Derived.Test.YtaegmenjgjdimaaGreatL15e
import Derived.Deep.LoopGhost
import Derived.Test.YtaegmenjgjdimaaGreatPlan
import Derived.Deep.Cut
import Derived.Deep.CutRange
import Derived.Laws.StructEq
import Derived.Test.YtaegmenjgjdimaaGreatFlat
import Derived.Test.YtaegmenjgjdimaaGreatGr1
import Derived.Test.YtaegmenjgjdimaaGreatL15g
import Derived.Test.YtaegmenjgjdimaaGreatEx2
import Derived.OpenShut
import Derived.ShutString
import Derived.ChangeOld
import Derived.Below
import Derived.Carry
import Derived.Lib.SmallJoins
import Derived.Test.YtaegmenjgjdimaaGreatRows
import Derived.ProofKit
set_option linter.unusedSimpArgs false
set_option linter.unusedVariables false
section
/- This text proves the program's copies of a code: slices.Clone of instructions and strings, copyCode. -/
namespace Go.Proofs.YtaegmenjgjdimaaGreat
open Go.RowKit Go.Maps

/-- append of a whole row to an owned empty one -/
theorem wpList_append_whole {α : Type} (cs : α → List Value) (e : TypeId) (sz bytes : Nat) (z : Value) (w : World) {ops : Array Oper} {rest : List Oper} {o : Oper} {a : Act} {Q : Exit → Act → World → Prop} (hg : o.guard = none) (s x : Operand) (t : TypeId)
    (hop : o.op = Op.call { callee := Callee.builtin Builtin.append, args := #[s, x], argTypes := #[t, t] }) (ht : Tryz.prog.underlying t = some (.slice e))
    (hinfo : (Tryz.prog.info? e).map (fun i => (i.zero, i.size, i.bytes)) = some (some z, sz, bytes)) (hzs : z.cells.size = sz) (hsz : 0 < sz) (hby : bytes ≤ 1000) (hc : ∀ x, (cs x).length = sz)
    (lo : Nat) (v : Value) (hs : a.eval s = v) (hown : OwnG cs lo e sz w v [])
    (ys : List α) (ad : Addr) (c : Nat) (hx : a.eval x = .slice (some ad) ys.length c) (hcell : ∀ j u, (ys.flatMap cs)[j]? = some u → w.cell? (ad.add j) = some u) (h1 : ∀ u ∈ ys.flatMap cs, u.oneCell' = true) (hlen : ys.length ≤ 10000000) (hlo : lo ≤ w.heap.size)
    (hK : ∀ v' w', OwnG cs lo e sz w' v' ys → w.grownBy w' v.ownBlock → wpList Tryz.prog ops Q rest (a.put o.dst v') w') : wpList Tryz.prog ops Q (o :: rest) a w := by
  obtain ⟨i0, hi0, hz0, hz1, hz2⟩ := info_parts hinfo
  refine wpList_append_own_at w hg s x t hop lo e i0 z sz bytes ht hi0 hz0 hz1 hz2 hzs hsz v 0 _ hs hown ad ys.length c (ys.flatMap cs) hx (flatMap_len hc ys) hcell h1 ?_ ?_ hlo ?_
  · unfold maxLen; omega
  · have : (0 + ys.length) * bytes ≤ 10000000 * 1000 := Nat.mul_le_mul (by omega) hby
    omega
  · intro v' w1 hown' hgrow _ _
    refine hK v' w1 ?_ hgrow
    unfold OwnG
    simpa using hown'
theorem run_eqNilI (a : Option Addr) (n c : Nat) (w : World) : (binOp .eql 41 (.slice a n c) (.slice none 0 0)).run Tryz.prog w = .ok (.bool a.isNone) w := by
  cases a <;> kernel_rfl
theorem run_eqNilS (a : Option Addr) (n c : Nat) (w : World) : (binOp .eql 42 (.slice a n c) (.slice none 0 0)).run Tryz.prog w = .ok (.bool a.isNone) w := by
  cases a <;> kernel_rfl
theorem add_off (b off j : Nat) : (⟨b, off, none⟩ : Addr).add j = ⟨b, off + j, none⟩ := by
  cases j <;> simp [Addr.add]
theorem OwnG.made {α : Type} (cs : α → List Value) (e : TypeId) (sz : Nat) (w : World) : OwnG cs w.heap.size e sz (w.alloc (.cells #[] e)) (.slice (some ⟨w.heap.size, 0, none⟩) 0 0) [] :=
  World.ownsRow_made w #[] 0 (Nat.le_refl _) (by decide) (by simp)
theorem InssAt.cells3 {lo hi : Nat} {w : World} {ad : Addr} {cap : Nat} {xs : List Ins} (h : InssAt lo hi w (some ad) cap xs) : ∀ j u, (xs.flatMap Ins.cs)[j]? = some u → w.cell? (ad.add j) = some u := by
  intro j u hj
  have hl := (List.getElem?_eq_some_iff.1 hj).1
  rw [flat3_len] at hl
  have hq : j / 3 < xs.length := Nat.div_lt_of_lt_mul (by omega)
  have hx : xs[j / 3]? = some xs[j / 3] := List.getElem?_eq_getElem hq
  obtain ⟨_, b, off, e1, _, _, c0, c1, c2⟩ := h.cell _ _ hx
  have e2 := flatMap_at (cs := Ins.cs) (sz := 3) (fun _ => rfl) hx (j % 3) (Nat.mod_lt _ (by decide))
  rw [show j / 3 * 3 + j % 3 = j by omega, hj] at e2
  simp only [Option.some.injEq] at e1
  subst e1
  rw [add_off]
  rcases (show j % 3 = 0 ∨ j % 3 = 1 ∨ j % 3 = 2 by omega) with e | e | e
  · rw [e] at e2
    rw [show off + j = off + j / 3 * 3 by omega, c0]
    exact e2.symm
  · rw [e] at e2
    rw [show off + j = off + j / 3 * 3 + 1 by omega, c1]
    exact e2.symm
  · rw [e] at e2
    rw [show off + j = off + j / 3 * 3 + 2 by omega, c2]
    exact e2.symm
theorem flat1_map (xs : List ByteArray) : xs.flatMap (fun s => [Value.string s]) = xs.map Value.string := by
  induction xs with
  | nil => rfl
  | cons x r ih => rw [List.flatMap_cons, ih]; rfl
theorem StrsAt.cells1 {lo hi : Nat} {w : World} {ad : Addr} {cap : Nat} {xs : List ByteArray} (h : StrsAt lo hi w (some ad) cap xs) : ∀ j u, (xs.flatMap (fun s => [Value.string s]))[j]? = some u → w.cell? (ad.add j) = some u := by
  intro j u hj
  rw [flat1_map] at hj
  have hl := (List.getElem?_eq_some_iff.1 hj).1
  rw [List.length_map] at hl
  have hx : xs[j]? = some xs[j] := List.getElem?_eq_getElem hl
  obtain ⟨b, off, e1, _, _, c0⟩ := h.cell _ _ hx
  simp only [Option.some.injEq] at e1
  subst e1
  rw [List.getElem?_map, hx] at hj
  rw [add_off, c0]
  exact hj
theorem InssAt.ext {lo hi : Nat} {w w' : World} {a : Option Addr} {cap : Nat} {xs : List Ins} (h : InssAt lo hi w a cap xs) (hh : hi ≤ w.heap.size) (e : Ext w w') : InssAt lo hi w' a cap xs := by
  obtain ⟨a', c', e1, h2⟩ := (h.shut.ext hh e).open
  simp only [Value.slice.injEq, true_and] at e1
  obtain ⟨rfl, rfl⟩ := e1
  exact h2
theorem StrsAt.ext {lo hi : Nat} {w w' : World} {a : Option Addr} {cap : Nat} {xs : List ByteArray} (h : StrsAt lo hi w a cap xs) (hh : hi ≤ w.heap.size) (e : Ext w w') : StrsAt lo hi w' a cap xs := by
  obtain ⟨a', c', e1, h2⟩ := ((show Strs lo hi w (.slice a xs.length cap) xs from ⟨a, cap, rfl, h.le, by unfold maxLen; have := h.cap; omega, h.cell⟩).ext hh e).open
  simp only [Value.slice.injEq, true_and] at e1
  obtain ⟨rfl, rfl⟩ := e1
  exact h2
set_option maxRecDepth 10000 in
set_option maxHeartbeats 1600000 in
theorem insClone_any (lo hi : Nat) (a : Option Addr) (cap : Nat) (xs : List Ins) (w : World) (hv : InssAt lo hi w a cap xs) (hh : hi ≤ w.heap.size) (hL : xs.length ≤ 1000000) :
    Calls Tryz.prog 61 #[.slice a xs.length cap] w fun e w' => ∃ v, e = .returned v ∧ OwnInss w.heap.size w' v xs ∧ Ext w w' := by
  have hE : Ext w (w.alloc (.cells #[] 81)) := (Ext.refl w).alloc _
  have HV := hid hv
  have l1 := hv.le
  have l2 := hv.cap
  clear hv
  cases a with
  | none =>
    have hx : xs = [] := by
      cases xs with
      | nil => rfl
      | cons x r =>
        obtain ⟨_, b, off, e1, _⟩ := HV.out.cell 0 x rfl
        cases e1
    subst hx
    have q := run_eqNilI none 0 cap
    simp only [Option.isNone_none] at q
    go_enter Tryz.func61, Tryz.ntmps61
    go_wp2
    go_ret
    exact ⟨_, rfl, OwnG.nil _ _ _ _ _, Ext.refl _⟩
  | some ad =>
    have ho := OwnG.made Ins.cs 81 3 w
    have hc := (HV.out.ext hh hE).cells3
    have q := run_eqNilI (some ad) xs.length cap
    simp only [Option.isNone_some] at q
    have HC := hid hc
    have HO := hid ho
    clear hc ho
    go_enter Tryz.func61, Tryz.ntmps61
    go_wp2_with (at_builtin; refine wpList_append_whole Ins.cs 81 3 32 _ _ rfl _ _ _ rfl Tryz.underlying41 info_InsT rfl (by decide) (by decide) (fun _ => rfl) w.heap.size _ rfl HO.out xs ad _ rfl HC.out (cs_one xs) (by omega) (by simp) ?_; intro v' w1 hown hg)
    go_ret
    exact ⟨_, rfl, hown, hE.grown hg (fun k e => (OwnG.lt HO.out k e).1)⟩
set_option maxRecDepth 10000 in
set_option maxHeartbeats 1600000 in
theorem strClone_any (lo hi : Nat) (a : Option Addr) (cap : Nat) (xs : List ByteArray) (w : World) (hv : StrsAt lo hi w a cap xs) (hh : hi ≤ w.heap.size) (hL : xs.length ≤ 2000000) :
    Calls Tryz.prog 62 #[.slice a xs.length cap] w fun e w' => ∃ v, e = .returned v ∧ OwnStrs w.heap.size w' v xs ∧ Ext w w' := by
  have hE : Ext w (w.alloc (.cells #[] 9)) := (Ext.refl w).alloc _
  have HV := hid hv
  have l1 := hv.le
  have l2 := hv.cap
  clear hv
  cases a with
  | none =>
    have hx : xs = [] := by
      cases xs with
      | nil => rfl
      | cons x r =>
        obtain ⟨b, off, e1, _⟩ := HV.out.cell 0 x rfl
        cases e1
    subst hx
    have q := run_eqNilS none 0 cap
    simp only [Option.isNone_none] at q
    go_enter Tryz.func62, Tryz.ntmps62
    go_wp2
    go_ret
    exact ⟨_, rfl, World.ownsRow_nil _ _ _ _, Ext.refl _⟩
  | some ad =>
    have ho := OwnG.made (fun s : ByteArray => [Value.string s]) 9 1 w
    have hc := (HV.out.ext hh hE).cells1
    have q := run_eqNilS (some ad) xs.length cap
    simp only [Option.isNone_some] at q
    have HC := hid hc
    have HO := hid ho
    clear hc ho
    go_enter Tryz.func62, Tryz.ntmps62
    go_wp2_with (at_builtin; refine wpList_append_whole (fun s : ByteArray => [Value.string s]) 9 1 16 _ _ rfl _ _ _ rfl Tryz.underlying42 info_string rfl (by decide) (by decide) (fun _ => rfl) w.heap.size _ rfl HO.out xs ad _ rfl HC.out (by rw [flat1_map]; intro u hu; obtain ⟨s, _, rfl⟩ := List.mem_map.1 hu; rfl) (by omega) (by simp) ?_; intro v' w1 hown hg)
    go_ret
    refine ⟨_, rfl, ?_, hE.grown hg (fun k e => (OwnG.lt HO.out k e).1)⟩
    unfold OwnG at hown
    rw [flat1_map] at hown
    exact hown
set_option maxRecDepth 10000 in
set_option maxHeartbeats 3200000 in
/-- the program's copy of a code owns its rows -/
theorem copyCode_any (lo hi : Nat) (v : Value) (c : Cod) (w : World) (hv : c.R lo hi w v) (hh : hi ≤ w.heap.size) (hx : c.xs.length ≤ 1000000) (hL : c.ls.length ≤ 2000000) :
    Calls Tryz.prog 37 #[v] w fun e w' => ∃ iu lu, e = .returned (.agg #[iu, lu]) ∧ OwnInss w.heap.size w' iu c.xs ∧ OwnStrs w.heap.size w' lu c.ls ∧ Ext w w' := by
  obtain ⟨a1, c1, a2, c2, rfl, HI, HS⟩ := hv.form
  have l1 := HI.le
  have l2 := HI.cap
  have l3 := HS.le
  have l4 := HS.cap
  have HI1 := hid HI
  have HS1 := hid HS
  clear hv HI HS
  go_enter Tryz.func37, Tryz.ntmps37
  go_wp2_with fail
  have hb0 : Blk ((w.alloc (.cells #[.slice a1 c.xs.length c1, .slice a2 c.ls.length c2] 44)).alloc (.cells #[.slice none 0 0, .slice none 0 0] 44)) (w.heap.size + 1) 44 [.slice none 0 0, .slice none 0 0] := by
    have h := Blk.new (w.alloc (.cells #[.slice a1 c.xs.length c1, .slice a2 c.ls.length c2] 44)) 44 [.slice none 0 0, .slice none 0 0]
    simpa using h
  have HB0 := hid hb0
  clear hb0
  refine wp_region_stages [([0, 1, 3, 4], 2), ([], 5), ([6], 7)] 7 (w.heap.size + 1 + 1) (by kernel_rfl) (by kernel_rfl) ?_
  refine wpStages_cons ?_
  simp only [List.filterMap_cons, List.filterMap_nil, List.getElem?_toArray, List.getElem?_cons_zero, List.getElem?_cons_succ]
  show wpQuiet _ _ _ _ [_, _, _, _] _
  repeat (go_big_quiet_step (fail))
  refine wpQuiet_nil ⟨_, rfl, fun K hK => ?_⟩
  go_wp2_with fail
  refine (insClone_any lo hi a1 c1 c.xs _ (HI1.out.ext hh (by exact (by repeat (with_reducible (first | assumption | exact Ext.refl _ | apply Ext.alloc | apply Ext.drew | apply Ext.drewN))))) (by simp; omega) hx).mono ?_
  rintro e w3 ⟨iu, rfl, ho, x3⟩
  have X3 := hid (show Ext w w3 from Ext.trans (by repeat (with_reducible (first | assumption | exact Ext.refl _ | apply Ext.alloc | apply Ext.drew | apply Ext.drewN))) x3)
  have Y3 := hid (show Ext ((w.alloc (.cells #[.slice a1 c.xs.length c1, .slice a2 c.ls.length c2] 44)).alloc (.cells #[.slice none 0 0, .slice none 0 0] 44)) w3 from Ext.trans (by repeat (with_reducible (first | assumption | exact Ext.refl _ | apply Ext.alloc | apply Ext.drew | apply Ext.drewN))) x3)
  have HB3 := hid (HB0.out.ext Y3.out)
  have z3 := x3.size
  simp at z3
  have ho2 := hid (OwnG.low ho (show w.heap.size + 1 + 1 ≤ _ by simp))
  go_wp2_with fail
  refine hK _ _ (.inr (fun k _ hk => x3.block (by first | omega | (simp; omega)))) ?_
  clear hK K
  clear x3 ho
  refine wpStages_cons ?_
  simp only [List.filterMap_nil]
  show wpQuiet _ _ _ _ [] _
  try simp only [Act.put, List.setIfInBounds_toArray, List.set_cons_succ, List.set_cons_zero]
  repeat (go_big_quiet_step (fail))
  refine wpQuiet_nil ⟨_, rfl, fun K hK => ?_⟩
  go_wp2_with fail
  refine (strClone_any lo hi a2 c2 c.ls _ (HS1.out.ext hh X3.out) (by have := X3.out.size; omega) hL).mono ?_
  rintro e w4 ⟨lu, rfl, ho4, x4⟩
  have X4 := hid (X3.out.trans x4)
  have z4 := x4.size
  have O4 := hid (OwnG.ext ho2.out x4)
  have P4 := hid (OwnStrs.low ho4 (show w.heap.size + 1 + 1 ≤ _ by omega))
  have HB4 := hid (HB3.out.ext x4)
  go_wp2_with fail
  refine hK _ _ (.inr (fun k _ hk => (Y3.out.trans x4).block (by simp; omega))) ?_
  clear hK K
  clear x4 ho4
  have b0 := HB4.out.cell 0 rfl
  have b1 := HB4.out.cell 1 rfl
  have f0 := HB4.out.free 0
  have f1 := HB4.out.free 1
  obtain ⟨ia, ic, rfl, -⟩ := OwnG.form O4.out
  obtain ⟨la, lc, rfl, -⟩ := P4.out.form
  have zb := HB4.out.lt
  refine wpStages_cons ?_
  simp only [List.filterMap_cons, List.filterMap_nil, List.getElem?_toArray, List.getElem?_cons_zero, List.getElem?_cons_succ]
  show wpQuiet _ _ _ _ [_] _
  try simp only [Act.put, List.setIfInBounds_toArray, List.set_cons_succ, List.set_cons_zero]
  repeat (go_big_quiet_step (fail))
  refine wpQuiet_nil ⟨_, rfl, fun K hK => ?_⟩
  go_wp2_with fail
  refine hK _ _ (.inl (by trivial)) ?_
  clear hK K
  refine wpStages_nil ?_
  go_wp2
  refine bodyPost_ret (v := .agg #[.slice ia c.xs.length ic, .slice la c.ls.length lc]) (by simp [results, Tryz.results37, go_sem, *]) rfl ⟨_, _, rfl, ?_, ?_, ?_⟩
  · have hB := HB4.out.set 0 (.slice ia c.xs.length ic)
    exact OwnG.low (OwnG.set (OwnG.set O4.out HB4.out (by decide) 0 _) hB (by decide) 1 _) (by omega)
  · have hn : ∀ i, (Value.slice la c.ls.length lc).ownBlock ≠ some (⟨w.heap.size + 1, i, none⟩ : Addr).block := fun i e => by
      have h := (World.ownsRow.lt P4.out _ e).1
      simp only at h
      omega
    exact OwnStrs.low (lo := w.heap.size + 1 + 1) (ownsRow_setCell_other (ownsRow_setCell_other P4.out (hn 0) _) (hn 1) _) (by omega)
  · have hXo := X4.out
    exact (by repeat (first | with_reducible assumption | with_reducible exact Ext.refl _ | with_reducible apply Ext.alloc | with_reducible apply Ext.drew | with_reducible apply Ext.drewN | (with_reducible refine Ext.setCell ?_ (by simp; omega) _) | (with_reducible refine Ext.setCell ?_ (by simp) _)))
end Go.Proofs.YtaegmenjgjdimaaGreat
end

section
/- This text proves the program's Optimize at a code that may be run: the constants are folded, nothing is left to be folded. -/
namespace Go.Proofs.YtaegmenjgjdimaaGreat
open Go.RowKit Go.Maps

theorem Cod.runB_ok {c : Cod} (h : c.runB = true) : ∀ x ∈ c.xs, InsOk x ∧ I64 x.op ∧ I64 x.num := by
  unfold Cod.runB at h
  simp only [Bool.and_eq_true] at h
  have hwf := Cod.wf h.1
  have hn := List.all_eq_true.1 h.2
  intro x hx
  have h1 := hwf x hx
  have h2 := inB_iff.1 (hn x hx)
  have h3 : 1 ≤ x.op ∧ x.op ≤ 7 := by
    by_cases e : 1 ≤ x.op ∧ x.op ≤ 7
    · exact e
    · unfold wfI at h1
      rw [if_neg (by omega), if_neg (by omega), if_neg (by omega), if_neg (by omega), if_neg (by omega), if_neg (by omega), if_neg (by omega)] at h1
      cases h1
  refine ⟨⟨fun _ => ⟨h2.1, h2.2⟩, fun e => ?_, fun e => ?_⟩, ⟨by omega, by omega⟩, ⟨by omega, by omega⟩⟩
  · rw [e] at h1
    simp [wfI] at h1
    exact h1.2
  · rw [e] at h1
    simp [wfI] at h1
    exact inB_iff.1 h1.2
theorem Cod.runB_len {c : Cod} (h : c.runB = true) : c.xs.length ≤ 300 := by
  unfold Cod.runB Cod.depth at h
  split at h
  · assumption
  · simp at h
/-- the rest of an owned row of instructions -/
theorem OwnInss.drop {lo : Nat} {w : World} {v : Value} {xs : List Ins} (h : OwnInss lo w v xs) (hg : ∀ x ∈ xs, I64 x.op ∧ I64 x.num) {k : Nat} (hk : k < xs.length) :
    ∃ g cap, v = .slice (some ⟨g, 0, none⟩) xs.length cap ∧ xs.length ≤ cap ∧ cap ≤ 9223372036854775807 ∧ lo ≤ g ∧ g < w.heap.size ∧ (∃ cur, w.heap[g]? = some (.cells cur 81 (0, 0))) ∧ Inss lo w.heap.size w (.slice (some ⟨g, k * 3, none⟩) (xs.length - k) (cap - k)) (xs.drop k) := by
  obtain ⟨a, cap, e1, h1, h2, h3⟩ := h.inss (Nat.le_refl _) hg
  rcases h.2 with ⟨rfl, h4⟩ | ⟨g, cap', cur, e2, hb, hgg, hc, hm, hs, ht⟩
  · omega
  subst e1
  simp only [Value.slice.injEq, true_and] at e2
  obtain ⟨rfl, rfl⟩ := e2
  refine ⟨g, cap, rfl, h1, by unfold maxLen at h2; omega, hb, (Array.getElem?_eq_some_iff.1 hgg).1, ⟨_, hgg⟩, some ⟨g, k * 3, none⟩, cap - k, by rw [List.length_drop], by rw [List.length_drop]; omega, by unfold maxLen at h2 ⊢; omega, fun i x hx => ?_⟩
  rw [List.getElem?_drop] at hx
  obtain ⟨g0, b, off, g1, g2, g3, g4, g5, g6⟩ := h3 _ _ hx
  simp only [Option.some.injEq, Addr.mk.injEq, and_true] at g1
  obtain ⟨rfl, rfl⟩ := g1
  refine ⟨g0, g, k * 3, rfl, g2, g3, ?_, ?_, ?_⟩
  · rw [← g4, show k * 3 + i * 3 = 0 + (k + i) * 3 by omega]
  · rw [← g5, show k * 3 + i * 3 = 0 + (k + i) * 3 by omega]
  · rw [← g6, show k * 3 + i * 3 = 0 + (k + i) * 3 by omega]
/-- the boxes of Optimize: result, code, its rows -/
structure OptB (c : Cod) (B C lo : Nat) (w : World) (iv lv : Value) : Prop where
  res : Blk w B 44 [.slice none 0 0, .slice none 0 0]
  code : Blk w C 44 [iv, lv]
  ins : OwnInss lo w iv c.xs
  loc : OwnStrs lo w lv c.ls
theorem OptB.ext {c : Cod} {B C lo : Nat} {w w' : World} {iv lv : Value} (h : OptB c B C lo w iv lv) (x : Ext w w') : OptB c B C lo w' iv lv := ⟨h.res.ext x, h.code.ext x, OwnG.ext h.ins x, h.loc.ext x⟩
theorem OptB.kn {c c' : Cod} {B C lo : Nat} {w w' : World} {iv iv' lv : Value} (h : OptB c B C lo w iv lv) (k : KN lo C 81 w w') (hB : B < lo) (hc : Blk w' C 44 [iv', lv]) (hi : OwnInss lo w' iv' c'.xs) (hl : c'.ls = c.ls) : OptB c' B C lo w' iv' lv :=
  ⟨h.res.of (k.block B h.res.lt (.inl hB)), hc, hi, hl ▸ KN.strs h.loc k (h.code.noCells (by decide)) (by decide)⟩
def codLen (w : World) (C : Nat) : Nat := match w.cell? ⟨C, 0, none⟩ with | some (.slice _ n _) => n | _ => 0
theorem OptB.len {c : Cod} {B C lo : Nat} {w : World} {iv lv : Value} (h : OptB c B C lo w iv lv) : codLen w C = c.xs.length := by
  obtain ⟨a, cap, rfl, _⟩ := OwnG.form h.ins
  unfold codLen
  rw [h.code.cell 0 rfl]
theorem foldI_len {l : List Ins} {x : Ins} {n : Nat} (h : foldI l = some (x, n)) : 2 ≤ n ∧ n ≤ 3 ∧ n ≤ l.length := by
  rcases foldI_some h with ⟨a, b, q, rfl, _, _, _, rfl⟩ | ⟨a, b, c, q, rfl, _, _, _, _, rfl⟩ <;> simp
theorem Fold1.at {c : Cod} {k : Nat} {x : Ins} {n : Nat} (h : foldI (c.xs.drop k) = some (x, n)) : Fold1 c ⟨c.xs.take k ++ x :: c.xs.drop (k + n), c.ls⟩ :=
  ⟨c.xs.take k, c.xs.drop k, x, n, (List.take_append_drop k c.xs).symm, h, by rw [List.drop_drop], rfl⟩
set_option maxRecDepth 20000 in
set_option maxHeartbeats 6400000 in
theorem iOptimize_any (lo hi : Nat) (v : Value) (c : Cod) (w : World) (hv : c.R lo hi w v) (hh : hi ≤ w.heap.size) (hb : c.runB = true) (hL : c.ls.length ≤ 2000000) :
    Calls Tryz.prog 15 #[v] w fun e w' => ∃ u c', e = .returned u ∧ Folds c c' ∧ Flat1 c' ∧ c'.R w.heap.size w'.heap.size w' u ∧ Ext w w' := by
  have hlen := Cod.runB_len hb
  have HV := hid hv
  have HRB := hid hb
  obtain ⟨a1, c1, a2, c2, rfl, HI, HS⟩ := hv.form
  have l1 := HI.le
  have l2 := HI.cap
  have l3 := HS.le
  have l4 := HS.cap
  clear hv HI HS hb
  go_enter Tryz.func15, Tryz.ntmps15
  go_wp2_with fail
  have hb0 : Blk ((w.alloc (.cells #[.slice a1 c.xs.length c1, .slice a2 c.ls.length c2] 44)).alloc (.cells #[.slice none 0 0, .slice none 0 0] 44)) (w.heap.size + 1) 44 [.slice none 0 0, .slice none 0 0] := by
    have h := Blk.new (w.alloc (.cells #[.slice a1 c.xs.length c1, .slice a2 c.ls.length c2] 44)) 44 [.slice none 0 0, .slice none 0 0]
    simpa using h
  have hp0 : Blk ((w.alloc (.cells #[.slice a1 c.xs.length c1, .slice a2 c.ls.length c2] 44)).alloc (.cells #[.slice none 0 0, .slice none 0 0] 44)) w.heap.size 44 [.slice a1 c.xs.length c1, .slice a2 c.ls.length c2] := (Blk.new w 44 _).ext (by repeat (with_reducible (first | assumption | exact Ext.refl _ | apply Ext.alloc | apply Ext.drew | apply Ext.drewN)))
  have HB0 := hid hb0
  have HP0 := hid hp0
  clear hb0 hp0
  refine (copyCode_any lo hi _ c _ (HV.out.ext hh (by exact (by repeat (with_reducible (first | assumption | exact Ext.refl _ | apply Ext.alloc | apply Ext.drew | apply Ext.drewN))))) (by simp; omega) (by omega) hL).mono ?_
  rintro e w1 ⟨iu, lu, rfl, O1, S1, x1⟩
  have X1 := hid (show Ext w w1 from Ext.trans (by repeat (with_reducible (first | assumption | exact Ext.refl _ | apply Ext.alloc | apply Ext.drew | apply Ext.drewN))) x1)
  have z1 := x1.size
  simp at z1
  obtain ⟨ia, ic, rfl, -⟩ := OwnG.form O1
  obtain ⟨la, lc, rfl, -⟩ := S1.form
  have O1' := hid (OwnG.low O1 (show w.heap.size + 1 + 1 ≤ _ by simp))
  have S1' := hid (OwnStrs.low S1 (show w.heap.size + 1 + 1 ≤ _ by simp))
  have HB1 := hid (HB0.out.ext x1)
  have HP1 := hid (HP0.out.ext x1)
  clear O1 S1 HB0 HP0 x1
  have p0 := HP1.out.cell 0 rfl
  have p1 := HP1.out.cell 1 rfl
  have zp := HP1.out.lt
  have q0 := HB1.out.cell 0 rfl
  go_wp2_with fail
  have y2 : Ext w1 (w1.alloc (.cells #[.slice ia c.xs.length ic, .slice la c.ls.length lc] 44)) := (by repeat (with_reducible (first | assumption | exact Ext.refl _ | apply Ext.alloc | apply Ext.drew | apply Ext.drewN)))
  have hQ2 : OptB c (w.heap.size + 1) w1.heap.size (w.heap.size + 1 + 1) (w1.alloc (.cells #[.slice ia c.xs.length ic, .slice la c.ls.length lc] 44)) (.slice ia c.xs.length ic) (.slice la c.ls.length lc) :=
    ⟨HB1.out.ext y2, Blk.new w1 44 _, OwnG.ext O1'.out y2, S1'.out.ext y2⟩
  have HQ2 := hid hQ2
  have X2 := hid (X1.out.trans y2)
  clear hQ2 y2 HB1 HP1 O1' S1'
  refine (iRunnable_val HRB.out lo hi _ _ (HV.out.ext hh X2.out) (by have := X2.out.size; omega) hL).mono ?_
  rintro e w3 ⟨rfl, x3⟩
  have HQ3 := hid (HQ2.out.ext x3)
  have X3 := hid (X2.out.trans x3)
  have z3 := x3.size
  simp at z3
  clear HQ2 X2 X1 x3 p0 p1 q0
  generalize hC : w1.heap.size = C at *
  go_wp2_with fail
  go_loopw [4] (fun i wr => ∃ (c' : Cod) (k : Nat) (iv lv : Value), Folds c c' ∧ k ≤ c'.xs.length ∧ i = .int .i64 (k : Nat) ∧ (∀ q, q < k → foldI (c'.xs.drop q) = none) ∧ OptB c' (w.heap.size + 1) C (w.heap.size + 1 + 1) wr iv lv ∧ Ext w wr) (fun i wr => codLen wr C * 1000 + (codLen wr C - (intOf i).toNat))
  case atStart => exact ⟨c, 0, _, _, .refl, by omega, rfl, fun q hq => absurd hq (Nat.not_lt_zero _), HQ3.out, X3.out⟩
  case round =>
    clear HQ3 X3
    obtain ⟨c', k, iv, lv, hF, hk, rfl, hN, hQ, hX⟩ := hrel
    have hc1 := hF.keep HRB.out
    have hlen' := Cod.runB_len hc1.1
    have hok := Cod.runB_ok hc1.1
    have HF := hid hF
    have HN := hid hN
    have HQ := hid hQ
    have HX := hid hX
    have HC1 := hid hc1
    have HOK := hid hok
    have hlq := hid hQ.len
    have m0 := hQ.code.cell 0 rfl
    have m1 := hQ.code.cell 1 rfl
    have mC := hQ.code.lt
    clear hF hN hX hc1 hok
    by_cases hlt : k < c'.xs.length
    · obtain ⟨g, cap, rfl, g1, g2, g3, g4, g5, g6⟩ := OwnInss.drop hQ.ins (fun x hx => (HOK.out x hx).2) hlt
      have G6 := hid g6
      have G5 := hid g5
      clear hQ g6 g5
      go_wp2_with fail
      refine (iFolded_any _ _ _ (c'.xs.drop k) _ G6.out (Nat.le_refl _) (fun x hx => (HOK.out x (List.mem_of_mem_drop hx)).1)).mono ?_
      rintro e w4 ⟨x, n, rfl, hfold, x4⟩
      have HQ4 := hid (HQ.out.ext x4)
      have X4 := hid (HX.out.trans x4)
      have z4 := x4.size
      have n0 := HQ4.out.code.cell 0 rfl
      have n1 := HQ4.out.code.cell 1 rfl
      have nf := HQ4.out.code.free 0
      have nC := HQ4.out.code.lt
      have G7 : Hid (∃ cur, w4.heap[g]? = some (.cells cur 81 (0, 0))) := hid (by obtain ⟨cur, h⟩ := G5.out; exact ⟨cur, (x4.block g4).trans h⟩)
      clear HQ HX x4 m0 m1 G6 G5
      rcases hfold with hfold | ⟨hfold, rfl⟩
      · have HFD := hid hfold
        have hn := foldI_len hfold
        have hn3 : n ≤ c'.xs.length - k := by have := hn.2.2; rw [List.length_drop] at this; exact this
        obtain ⟨hn1, hn2, -⟩ := hn
        clear hfold
        have hk0 := hid (show ((k : Nat) : Int) + ((n : Nat) : Int) = ((k + n : Nat) : Int) by omega)
        have y5 : Ext w4 ((w4.alloc (.cells #[.int .i64 x.op, .string x.name, .int .i64 x.num] 81)).alloc (.cells #[.int .i64 x.op, .string x.name, .int .i64 x.num] 81)) := (by repeat (with_reducible (first | assumption | exact Ext.refl _ | apply Ext.alloc | apply Ext.drew | apply Ext.drewN)))
        have HQ5 := hid (HQ4.out.ext y5)
        have X5 := hid (X4.out.trans y5)
        have G8 : Hid (∃ cur, ((w4.alloc (.cells #[.int .i64 x.op, .string x.name, .int .i64 x.num] 81)).alloc (.cells #[.int .i64 x.op, .string x.name, .int .i64 x.num] 81)).heap[g]? = some (.cells cur 81 (0, 0))) := hid (by obtain ⟨cur, h⟩ := G7.out; exact ⟨cur, (y5.block (by omega)).trans h⟩)
        have hbl : Blk ((w4.alloc (.cells #[.int .i64 x.op, .string x.name, .int .i64 x.num] 81)).alloc (.cells #[.int .i64 x.op, .string x.name, .int .i64 x.num] 81)) (w4.heap.size + 1) 81 x.cs := by
          have h := Blk.new (w4.alloc (.cells #[.int .i64 x.op, .string x.name, .int .i64 x.num] 81)) 81 x.cs
          simpa [Ins.cs] using h
        have HBL := hid hbl
        have zw : w.heap.size ≤ w.heap.size + 1 + 1 := by omega
        clear y5 hbl
        go_wp2_with fail
        rw [hk0.out]
        refine (replace_any (w.heap.size + 1 + 1) g c'.xs.length cap k (k + n) (w4.heap.size + 1) c'.xs x _ HQ5.out.ins rfl g2 (by omega) (by omega) (by omega) HBL.out (by omega)).mono ?_
        rintro e w5 ⟨v5, rfl, hi5, hg5⟩
        have hll : (c'.xs.take k ++ x :: c'.xs.drop (k + n)).length = k + 1 + (c'.xs.length - (k + n)) := by
          rw [List.length_append, List.length_cons, List.length_take, List.length_drop]
          omega
        have hf1 := Fold1.at HFD.out
        obtain ⟨L, hLL⟩ : ∃ L, c'.xs.take k ++ x :: c'.xs.drop (k + n) = L := ⟨_, rfl⟩
        rw [hLL] at hll hf1 hi5
        have HF1 := hid hf1
        have HLL := hid hll
        clear hLL hf1 hll
        have hCg : C ≠ g := fun e => by
          obtain ⟨cur, h⟩ := G8.out
          exact HQ5.out.code.noCells (show 81 ≠ 44 by decide) cur (e ▸ h)
        have hB5 : Blk w5 C 44 _ := HQ5.out.code.grown hg5 (fun e => hCg (Option.some.inj e))
        have hk5 : KN (w.heap.size + 1 + 1) C 81 _ w5 := KN.grown (KN.refl _ _ _ _) hg5 (fun q hq => by
          cases hq
          exact ⟨g3, G8.out⟩)
        have hcl : w.heap.size + 1 + 1 ≤ C := by omega
        have hk6 := hk5.set hcl 0 v5
        have hq6 := OptB.kn (c' := ⟨L, c'.ls⟩) HQ5.out hk6 (by omega) (hB5.set 0 v5) (OwnG.set hi5 hB5 (by decide) 0 v5) rfl
        have hx6 := hk6.up X5.out zw
        obtain ⟨va, vc, rfl, -⟩ := OwnG.form hi5
        have HQ6 := hid hq6
        have X6 := hid hx6
        have d0 := hB5.cell 0 rfl
        have df := hB5.free 0
        have dl := hB5.lt
        have hl6 := hid (HQ6.out.len)
        clear hi5 hg5 hB5 hk5 hk6 hq6 hx6 HQ5 X5 HBL G8 HQ4 X4
        go_wp2_with fail
        go_roundw
        case rel => exact ⟨⟨L, c'.ls⟩, 0, _, _, HF.out.step HF1.out, by omega, by go_num, fun q hq => absurd hq (Nat.not_lt_zero _), HQ6.out, X6.out⟩
        case measure =>
          rw [hl6.out, hlq.out]
          show L.length * 1000 + (L.length - _) < _
          rw [HLL.out]
          simp only [intOf]
          omega
      · have HFD := hid hfold
        clear hfold
        go_wp2_with fail
        go_roundw
        case rel => exact ⟨c', k + 1, _, _, HF.out, by omega, by go_num, fun q hq => by rcases Nat.lt_or_ge q k with h | h; exact HN.out q h; exact (show q = k by omega) ▸ HFD.out, HQ4.out.ext (by repeat (with_reducible (first | assumption | exact Ext.refl _ | apply Ext.alloc | apply Ext.drew | apply Ext.drewN))), by have := X4.out; exact (by repeat (with_reducible (first | assumption | exact Ext.refl _ | apply Ext.alloc | apply Ext.drew | apply Ext.drewN)))⟩
        case measure =>
          have e1 := (HQ4.out.ext (show Ext w4 (w4.alloc (.cells #[.int .i64 x.op, .string x.name, .int .i64 x.num] 81)) from (by repeat (with_reducible (first | assumption | exact Ext.refl _ | apply Ext.alloc | apply Ext.drew | apply Ext.drewN))))).len
          rw [e1, hlq.out]
          simp only [intOf]
          omega
    · obtain rfl : k = c'.xs.length := by omega
      obtain ⟨ia, ic, rfl, -⟩ := OwnG.form hQ.ins
      obtain ⟨la, lc, rfl, -⟩ := hQ.loc.form
      have r0 := hQ.res.cell 0 rfl
      have r1 := hQ.res.cell 1 rfl
      have f0 := hQ.res.free 0
      have f1 := hQ.res.free 1
      have rl := hQ.res.lt
      have hI := hid (hQ.ins.inss (Nat.le_refl _) (fun x hx => (HOK.out x hx).2))
      have hS := hid (OwnStrs.strs hQ.loc)
      have hcR : c'.R (w.heap.size + 1 + 1) wr.heap.size wr (.agg #[.slice ia c'.xs.length ic, .slice la c'.ls.length lc]) := ⟨_, _, rfl, hI.out, hS.out⟩
      have HcR := hid (hcR.same ((Same.setLow wr (p := ⟨w.heap.size + 1, 0, none⟩) (by simp only; omega) (.slice ia c'.xs.length ic)).trans (Same.setLow _ (p := ⟨w.heap.size + 1, 1, none⟩) (by simp only; omega) (.slice la c'.ls.length lc))))
      have hXo := HX.out
      have hFl : Flat1 c' := fun q => by
        rcases Nat.lt_or_ge q c'.xs.length with h | h
        · exact HN.out q h
        · rw [List.drop_of_length_le h]
          rfl
      have HFl := hid hFl
      clear hQ hI hS hcR hFl
      go_wp2
      refine bodyPost_ret (v := .agg #[.slice ia c'.xs.length ic, .slice la c'.ls.length lc]) (by simp [results, Tryz.results15, go_sem, *]) rfl ?_
      exact ⟨_, c', rfl, HF.out, HFl.out, HcR.out.wideC (by omega) (by simp), (by repeat (first | with_reducible assumption | with_reducible exact Ext.refl _ | with_reducible apply Ext.alloc | with_reducible apply Ext.drew | with_reducible apply Ext.drewN | (with_reducible refine Ext.setCell ?_ (by simp; omega) _) | (with_reducible refine Ext.setCell ?_ (by simp) _)))⟩
end Go.Proofs.YtaegmenjgjdimaaGreat
end

section
/- This text proves that the program's SameCode says yes at two codes of the same instructions and locals, and the laws' sameInts at the same integers. -/
namespace Go.Proofs.YtaegmenjgjdimaaGreat
open Go.RowKit Go.Maps

set_option maxHeartbeats 1600000 in
theorem sameInts_same (lo hi lo' hi' : Nat) (u v : Value) (xs : List Int) (w : World) (hu : Ints lo hi w u xs) (hv : Ints lo' hi' w v xs) :
    Calls Tryz.prog 17 #[u, v] w fun e w' => e = .returned (.bool true) ∧ Ext w w' := by
  obtain ⟨a, c, rfl, HU⟩ := hu.open
  obtain ⟨a', c', rfl, HV⟩ := hv.open
  have l1 := HU.le
  have l2 := HU.cap
  clear hu hv
  go_enter Tryz.func17, Tryz.ntmps17
  go_wp2
  go_loopw [14] (fun i wr => ∃ k : Nat, k ≤ xs.length ∧ i = .int .i64 k ∧ w = wr) (fun i _ => xs.length - (intOf i).toNat)
  case atStart => exact ⟨0, by omega, rfl, rfl⟩
  case round =>
    obtain ⟨k, hk, rfl, rfl⟩ := hrel
    by_cases hlt : k < xs.length
    · obtain ⟨b, off, rfl, -, hb, h1⟩ := HU.at hlt
      obtain ⟨b', off', rfl, -, hb', h2⟩ := HV.at hlt
      go_wp2
      go_roundw
      case rel => exact ⟨k + 1, by omega, by go_num, by trivial⟩
      case measure => simp [intOf]; omega
    · obtain rfl : k = xs.length := by omega
      go_wp2
      go_ret
      exact ⟨rfl, Ext.refl _⟩
set_option maxRecDepth 10000 in
set_option maxHeartbeats 1600000 in
theorem insEq_same (lo hi lo' hi' : Nat) (a a' : Option Addr) (c c' : Nat) (xs : List Ins) (w : World) (hu : InssAt lo hi w a c xs) (hv : InssAt lo' hi' w a' c' xs) (h1 : hi ≤ w.heap.size) (h2 : hi' ≤ w.heap.size) :
    Calls Tryz.prog 43 #[.slice a xs.length c, .slice a' xs.length c'] w fun e w' => e = .returned (.bool true) ∧ Ext w w' := by
  have l1 := hu.le
  have l2 := hu.cap
  have l3 := hv.le
  have l4 := hv.cap
  have HU := hid hu
  have HV := hid hv
  clear hu hv
  go_enter Tryz.func43, Tryz.ntmps43
  go_wp2
  go_loopw [13] (fun i wr => ∃ k : Nat, k ≤ xs.length ∧ i = .int .i64 k ∧ Ext w wr) (fun i _ => xs.length - (intOf i).toNat)
  case atStart => exact ⟨0, by omega, rfl, Ext.refl _⟩
  case round =>
    obtain ⟨k, hk, rfl, hx⟩ := hrel
    by_cases hlt : k < xs.length
    · obtain ⟨b, off, op, s, n, rfl, hb1, hbw, hdrop, hget, io, inn, x0, x1, x2⟩ := HU.out.at hlt hx h1
      obtain ⟨b', off', op', s', n', rfl, hb1', hbw', hdrop', hget', io', inn', x0', x1', x2'⟩ := HV.out.at hlt hx h2
      rw [hget] at hget'
      simp only [Option.some.injEq, Ins.mk.injEq] at hget'
      obtain ⟨rfl, rfl, rfl⟩ := hget'
      have HX := hid hx
      clear hx hdrop hdrop' hget
      go_wp2_with fail
      refine wp_region_stages [([0, 1, 2, 3, 4, 5, 6, 7], 8)] 99 wr.heap.size (by kernel_rfl) (by kernel_rfl) ?_
      refine wpStages_cons ?_
      simp only [List.filterMap_cons, List.filterMap_nil, List.getElem?_toArray, List.getElem?_cons_zero, List.getElem?_cons_succ]
      show wpQuiet _ _ _ _ [_, _, _, _, _, _, _, _] _
      repeat (go_big_quiet_step (fail))
      refine wpQuiet_nil ⟨_, rfl, fun K hK => ?_⟩
      go_wp2_with fail
      go_wp2_with fail
      refine hK _ _ (.inr (fun k _ hk => Ext.block (by repeat (with_reducible (first | assumption | exact Ext.refl _ | apply Ext.alloc | apply Ext.drew | apply Ext.drewN))) (by first | omega | (simp; omega)))) ?_
      clear hK K
      refine wpStages_nil ?_
      go_wp2
      go_roundw
      case rel => exact ⟨k + 1, by omega, by go_num, by have := HX.out; exact (by repeat (with_reducible (first | assumption | exact Ext.refl _ | apply Ext.alloc | apply Ext.drew | apply Ext.drewN)))⟩
      case measure => simp [intOf]; omega
    · obtain rfl : k = xs.length := by omega
      go_wp2
      go_ret
      exact ⟨rfl, hx⟩
set_option maxRecDepth 10000 in
set_option maxHeartbeats 1600000 in
theorem strEq_same (lo hi lo' hi' : Nat) (a a' : Option Addr) (c c' : Nat) (xs : List ByteArray) (w : World) (hu : StrsAt lo hi w a c xs) (hv : StrsAt lo' hi' w a' c' xs) (h1 : hi ≤ w.heap.size) (h2 : hi' ≤ w.heap.size) :
    Calls Tryz.prog 44 #[.slice a xs.length c, .slice a' xs.length c'] w fun e w' => e = .returned (.bool true) ∧ Ext w w' := by
  have l1 := hu.le
  have l2 := hu.cap
  have l3 := hv.le
  have l4 := hv.cap
  have HU := hid hu
  have HV := hid hv
  clear hu hv
  go_enter Tryz.func44, Tryz.ntmps44
  go_wp2
  go_loopw [13] (fun i wr => ∃ k : Nat, k ≤ xs.length ∧ i = .int .i64 k ∧ Ext w wr) (fun i _ => xs.length - (intOf i).toNat)
  case atStart => exact ⟨0, by omega, rfl, Ext.refl _⟩
  case round =>
    obtain ⟨k, hk, rfl, hx⟩ := hrel
    by_cases hlt : k < xs.length
    · obtain ⟨b, off, rfl, -, hb1, x0⟩ := (HU.out.ext h1 hx).at hlt
      obtain ⟨b', off', rfl, -, hb1', x0'⟩ := (HV.out.ext h2 hx).at hlt
      generalize xs[k] = s at x0 x0'
      have zz := hx.size
      have HX := hid hx
      clear hx
      go_wp2_with fail
      refine wp_region_stages [([0, 1, 2, 3, 4, 5, 6, 7], 8)] 99 wr.heap.size (by kernel_rfl) (by kernel_rfl) ?_
      have hbw : b < wr.heap.size := by omega
      have hbw' : b' < wr.heap.size := by omega
      refine wpStages_cons ?_
      simp only [List.filterMap_cons, List.filterMap_nil, List.getElem?_toArray, List.getElem?_cons_zero, List.getElem?_cons_succ]
      show wpQuiet _ _ _ _ [_, _, _, _, _, _, _, _] _
      repeat (go_big_quiet_step (fail))
      refine wpQuiet_nil ⟨_, rfl, fun K hK => ?_⟩
      go_wp2_with fail
      go_wp2_with fail
      refine hK _ _ (.inr (fun k _ hk => Ext.block (by repeat (with_reducible (first | assumption | exact Ext.refl _ | apply Ext.alloc | apply Ext.drew | apply Ext.drewN))) (by first | omega | (simp; omega)))) ?_
      clear hK K
      refine wpStages_nil ?_
      go_wp2
      go_roundw
      case rel => exact ⟨k + 1, by omega, by go_num, by have := HX.out; exact (by repeat (with_reducible (first | assumption | exact Ext.refl _ | apply Ext.alloc | apply Ext.drew | apply Ext.drewN)))⟩
      case measure => simp [intOf]; omega
    · obtain rfl : k = xs.length := by omega
      go_wp2
      go_ret
      exact ⟨rfl, hx⟩
set_option maxRecDepth 10000 in
set_option maxHeartbeats 1600000 in
theorem sameCode_same (lo hi lo' hi' : Nat) (u v : Value) (c : Cod) (w : World) (hu : c.R lo hi w u) (hv : c.R lo' hi' w v) (h1 : hi ≤ w.heap.size) (h2 : hi' ≤ w.heap.size) :
    Calls Tryz.prog 18 #[u, v] w fun e w' => e = .returned (.bool true) ∧ Ext w w' := by
  obtain ⟨a1, c1, a2, c2, rfl, HI, HS⟩ := hu.form
  obtain ⟨a3, c3, a4, c4, rfl, HI', HS'⟩ := hv.form
  have hI := hid HI
  have hS := hid HS
  have hI' := hid HI'
  have hS' := hid HS'
  clear hu hv HI HS HI' HS'
  go_enter Tryz.func18, Tryz.ntmps18
  go_wp2_with fail
  have hE : Ext w ((w.alloc (.cells #[.slice a1 c.xs.length c1, .slice a2 c.ls.length c2] 44)).alloc (.cells #[.slice a3 c.xs.length c3, .slice a4 c.ls.length c4] 44)) := (by repeat (with_reducible (first | assumption | exact Ext.refl _ | apply Ext.alloc | apply Ext.drew | apply Ext.drewN)))
  have hp : Blk ((w.alloc (.cells #[.slice a1 c.xs.length c1, .slice a2 c.ls.length c2] 44)).alloc (.cells #[.slice a3 c.xs.length c3, .slice a4 c.ls.length c4] 44)) w.heap.size 44 [.slice a1 c.xs.length c1, .slice a2 c.ls.length c2] := (Blk.new w 44 _).ext (by repeat (with_reducible (first | assumption | exact Ext.refl _ | apply Ext.alloc | apply Ext.drew | apply Ext.drewN)))
  have hq : Blk ((w.alloc (.cells #[.slice a1 c.xs.length c1, .slice a2 c.ls.length c2] 44)).alloc (.cells #[.slice a3 c.xs.length c3, .slice a4 c.ls.length c4] 44)) (w.heap.size + 1) 44 [.slice a3 c.xs.length c3, .slice a4 c.ls.length c4] := by
    have h := Blk.new (w.alloc (.cells #[.slice a1 c.xs.length c1, .slice a2 c.ls.length c2] 44)) 44 [.slice a3 c.xs.length c3, .slice a4 c.ls.length c4]
    simpa using h
  have HE := hid hE
  have HP := hid hp
  have HQ := hid hq
  clear hE hp hq
  refine (insEq_same lo hi lo' hi' a1 a3 c1 c3 c.xs _ (hI.out.ext h1 HE.out) (hI'.out.ext h2 HE.out) (by have := HE.out.size; omega) (by have := HE.out.size; omega)).mono ?_
  rintro e w1 ⟨rfl, x1⟩
  have X1 := hid (HE.out.trans x1)
  have HP1 := HP.out.ext x1
  have HQ1 := HQ.out.ext x1
  have p0 := HP1.cell 1 rfl
  have q0 := HQ1.cell 1 rfl
  have zp := HP1.lt
  have zq := HQ1.lt
  clear HP1 HQ1 x1
  go_wp2_with fail
  refine (strEq_same lo hi lo' hi' a2 a4 c2 c4 c.ls _ (hS.out.ext h1 X1.out) (hS'.out.ext h2 X1.out) (by have := X1.out.size; omega) (by have := X1.out.size; omega)).mono ?_
  rintro e w2 ⟨rfl, x2⟩
  go_wp2
  go_ret
  exact ⟨rfl, X1.out.trans x2⟩
end Go.Proofs.YtaegmenjgjdimaaGreat
end

section
/- This text proves, in plain numbers, that the code of a program shades a grid as the program shades its points; it walks no function. -/
namespace Go.Proofs.YtaegmenjgjdimaaGreat
open Go.RowKit

theorem ix_frst {gs : List Asg} {l : List UInt8} : ixL l (gs.map (·.name)) = match frst gs gs.length l with | some k => (k : Int) | none => -1 := by
  cases h : frst gs gs.length l with
  | none =>
    refine ixL_no fun j z hj hz => ?_
    rw [List.getElem?_map] at hz
    obtain ⟨a, ha, rfl⟩ := Option.map_eq_some_iff.1 hz
    intro e
    have h1 := frst_no (t := gs.length) h
    rw [asgB_iff.2 ⟨j, a, (List.getElem?_eq_some_iff.1 ha).1, ha, e⟩] at h1
    cases h1
  | some k =>
    obtain ⟨h1, ⟨a, h2, h3⟩, h4⟩ := frst_some h
    refine ixL_at (y := a.name) (by simp [h2]) h3 fun j z hj hz => ?_
    rw [List.getElem?_map] at hz
    obtain ⟨b, hb, rfl⟩ := Option.map_eq_some_iff.1 hz
    exact h4 j b hj hb
theorem evV_good {p : Prg} (h : p.K) {g : Grd} (hg : g.okB = true) {r : Nat} (hr : r < p.ns.length) : good g.m (evV p g r) := by
  obtain ⟨n, hn, hnm, n1, n8, _, ht, hf⟩ := Grd.partsE hg
  have hV : evV p g = p.ev n g.m g.f g.tm g.t := by unfold evV; rw [hn]; rfl
  rw [hV]
  exact h.ev_good hnm hf ht (p.rank r + 1) r (by omega) hr
theorem getD_mapc {xs : List Int} {q : Nat} (h : q < xs.length) : (xs.map col).getD q 0 = col (xs.getD q 0) := by
  rw [List.getD_eq_getElem?_getD, List.getD_eq_getElem?_getD, List.getElem?_map, List.getElem?_eq_getElem h]
  rfl
theorem Prg.K.shade {p : Prg} (h : p.K) (hp : p.chkB = true) {g : Grd} (hg : g.okB = true) : ∃ X Y : List Int, p.code.shade g = (X, Y, true) ∧ X.length = g.m ∧ Y.length = g.m ∧
    ∀ i j : Nat, (i : Int) < g.n → (j : Int) < g.n → X.getD ((j : Int) * g.n + i).toNat 0 = shC p g i j ∧ Y.getD ((j : Int) * g.n + i).toNat 0 = shA p g i j := by
  obtain ⟨n, hn, hnm, n1, n8, _, ht, hf⟩ := Grd.partsE hg
  have hm0 : 0 < g.m := by rw [← hnm]; exact Nat.mul_pos n1 n1
  have hR : (p.code.runB && g.okB) = true := by rw [h.runB, hg]; rfl
  have hres : p.code.res g = p.code.out g := by unfold Cod.res; rw [if_pos hR]
  obtain ⟨k, hk⟩ := h.col
  obtain ⟨s, r, k1, k2, k3, k4⟩ := h.asg hk
  have hci : colorIx p.code.ls = (k : Int) := by
    unfold colorIx
    rw [colS]
    show ixL _ (p.gs.map (·.name)) = _
    rw [ix_frst, hk]
  have o1 : (p.code.out g).getD k [] = evV p g r := by have := h.out g k _ k1; simpa using this
  have g1 := evV_good h hg k2
  have ne : ∀ {xs : List Int}, xs.length = g.m → xs ≠ [] := fun hl e => by rw [e] at hl; simp at hl; omega
  have pt : ∀ i j : Nat, (i : Int) < g.n → (j : Int) < g.n → ∃ q, ((j : Int) * g.n + i).toNat = q ∧ q < g.m ∧ evOk p g i j = true := fun i j hi hj => by
    refine ⟨_, rfl, ?_, ?_⟩
    · rw [hn] at hi hj ⊢
      have := at_lt hnm (i := i) (j := j) (by omega) (by omega)
      rw [show ((j : Int) * n + i) = ((j * n + i : Nat) : Int) by simp]
      exact this
    · unfold evOk
      rw [hp, hg]
      simp only [Bool.true_and, Bool.and_eq_true]
      exact ⟨inB_iff.2 (by omega), inB_iff.2 (by omega)⟩
  have hcol : ∀ i j : Nat, (i : Int) < g.n → (j : Int) < g.n → ((evV p g r).map Go.Proofs.YtaegmenjgjdimaaGreat.col).getD ((j : Int) * g.n + i).toNat 0 = shC p g i j := fun i j hi hj => by
    obtain ⟨q, hq, hqm, hok⟩ := pt i j hi hj
    unfold shC
    rw [if_pos hok, hq, named_some hk k1, getD_mapc (by rw [g1.1]; exact hqm)]
    rfl
  cases ha : frst p.gs p.gs.length [97, 108, 112, 104, 97] with
  | none =>
    have hai : alphaIx p.code.ls = -1 := by
      unfold alphaIx
      rw [alphaS]
      show ixL _ (p.gs.map (·.name)) = _
      rw [ix_frst, ha]
    refine ⟨(evV p g r).map Go.Proofs.YtaegmenjgjdimaaGreat.col, List.replicate g.m 256, ?_, by rw [List.length_map, g1.1], by simp, fun i j hi hj => ⟨hcol i j hi hj, ?_⟩⟩
    · unfold Cod.shade
      rw [hci, hai, hres, Int.toNat_natCast, o1, if_pos ⟨hR, by omega, ne g1.1, .inl (by omega)⟩, if_pos (by omega)]
    · obtain ⟨q, hq, hqm, hok⟩ := pt i j hi hj
      unfold shA
      rw [if_pos hok, hq, named_none ha, List.getD_eq_getElem?_getD, List.getElem?_replicate, if_pos hqm]
      rfl
  | some l =>
    obtain ⟨s', r', l1, l2, l3, l4⟩ := h.asg ha
    have hai : alphaIx p.code.ls = (l : Int) := by
      unfold alphaIx
      rw [alphaS]
      show ixL _ (p.gs.map (·.name)) = _
      rw [ix_frst, ha]
    have o2 : (p.code.out g).getD l [] = evV p g r' := by have := h.out g l _ l1; simpa using this
    have g2 := evV_good h hg l2
    refine ⟨(evV p g r).map Go.Proofs.YtaegmenjgjdimaaGreat.col, (evV p g r').map Go.Proofs.YtaegmenjgjdimaaGreat.col, ?_, by rw [List.length_map, g1.1], by rw [List.length_map, g2.1], fun i j hi hj => ⟨hcol i j hi hj, ?_⟩⟩
    · unfold Cod.shade
      rw [hci, hai, hres, Int.toNat_natCast, Int.toNat_natCast, o1, o2, if_pos ⟨hR, by omega, ne g1.1, .inr (ne g2.1)⟩, if_neg (by omega)]
    · obtain ⟨q, hq, hqm, hok⟩ := pt i j hi hj
      unfold shA
      rw [if_pos hok, hq, named_some ha l1, getD_mapc (by rw [g2.1]; exact hqm)]
      rfl
end Go.Proofs.YtaegmenjgjdimaaGreat
end

section
/- This text proves what the reference's draws hand back: a cursor over bytes, numbers within bounds. -/
namespace Go.Proofs.YtaegmenjgjdimaaGreat
open Go.RowKit

/-- v reads in w as n bytes; its cells lie in blocks below hi -/
def Byts (hi : Nat) (w : World) (v : Value) (n : Nat) : Prop :=
  ∃ a cap, v = .slice a n cap ∧ n ≤ cap ∧ cap ≤ maxLen ∧ ∀ i, i < n → ∃ b off x, a = some ⟨b, off, none⟩ ∧ b < hi ∧ 0 ≤ x ∧ x ≤ 255 ∧ w.cell? ⟨b, off + i, none⟩ = some (.int .u8 x)
theorem Byts.same {hi : Nat} {w w' : World} {v : Value} {n : Nat} (h : Byts hi w v n) (s : Same 0 hi w w') : Byts hi w' v n := by
  obtain ⟨a, cap, h1, h2, h3, h4⟩ := h
  refine ⟨a, cap, h1, h2, h3, fun i hx => ?_⟩
  obtain ⟨b, off, x, h6, h7, h8, h9, h10⟩ := h4 i hx
  exact ⟨b, off, x, h6, h7, h8, h9, by rw [s.cell (Nat.zero_le _) h7]; exact h10⟩
theorem Byts.ext {hi : Nat} {w w' : World} {v : Value} {n : Nat} (h : Byts hi w v n) (hh : hi ≤ w.heap.size) (e : Ext w w') : Byts hi w' v n := h.same (e.same hh)
theorem Byts.open {hi : Nat} {w : World} {v : Value} {n : Nat} (h : Byts hi w v n) : ∃ a cap, v = .slice a n cap ∧ n ≤ cap ∧ cap ≤ 9223372036854775807 := by
  obtain ⟨a, cap, h1, h2, h3, _⟩ := h
  exact ⟨a, cap, h1, h2, by unfold maxLen at h3; omega⟩
theorem Byts.at {hi : Nat} {w : World} {a : Option Addr} {cap n : Nat} (h : Byts hi w (.slice a n cap) n) {i : Nat} (hi' : i < n) : ∃ b off x, a = some ⟨b, off, none⟩ ∧ b < hi ∧ 0 ≤ x ∧ x ≤ 255 ∧ w.cell? ⟨b, off + i, none⟩ = some (.int .u8 x) := by
  obtain ⟨a', cap', h1, h2, h3, h4⟩ := h
  simp only [Value.slice.injEq, true_and] at h1
  obtain ⟨rfl, rfl⟩ := h1
  exact h4 i hi'

/-- block B is a cursor over n bytes -/
def Cur (hi : Nat) (w : World) (B : Nat) : Prop :=
  hi ≤ B ∧ ∃ v n i h, Blk w B 102 [v, .int .i64 (i : Nat), .int .i64 h] ∧ Byts hi w v n ∧ i ≤ n ∧ n ≤ 1048576 ∧ I64 h
theorem Cur.lt {hi : Nat} {w : World} {B : Nat} (h : Cur hi w B) : B < w.heap.size := by
  obtain ⟨_, v, n, i, q, h1, _⟩ := h
  exact h1.lt
theorem Cur.ext {hi : Nat} {w w' : World} {B : Nat} (h : Cur hi w B) (e : Ext w w') : Cur hi w' B := by
  have hl := h.lt
  obtain ⟨h0, v, n, i, q, h1, h2, h3⟩ := h
  exact ⟨h0, v, n, i, q, h1.ext e, h2.ext (by omega) e, h3⟩
/-- w' is w with new blocks, and block B written -/
def Gr (B : Nat) (w w' : World) : Prop := w.grownBy w' (some B)
theorem Gr.refl (B : Nat) (w : World) : Gr B w w := World.grownBy.refl w _
theorem Gr.trans {B : Nat} {w w1 w2 : World} (h : Gr B w w1) (k : Gr B w1 w2) : Gr B w w2 := grownBy.trans h k
theorem Gr.ext {B : Nat} {w w1 w2 : World} (h : Gr B w w1) (k : Ext w1 w2) : Gr B w w2 := h.trans (k.gr _)
theorem Gr.size {B : Nat} {w w1 : World} (h : Gr B w w1) : w.heap.size ≤ w1.heap.size := World.grownBy.size h
theorem Gr.set {B : Nat} {w w1 : World} (h : Gr B w w1) (i : Nat) (u : Value) : Gr B w (w1.setCell ⟨B, i, none⟩ u) :=
  ⟨h.os, h.tape, h.output, by rw [World.size_setCell]; exact h.size, fun k hk hne => (Below.heap_setCell _ _ _ _ (fun e => hne (by simp only at e; rw [e]))).trans (h.block k hk hne)⟩
theorem Gr.up {B : Nat} {w0 w w1 : World} (h : Gr B w w1) (e : Ext w0 w) (hB : w0.heap.size ≤ B) : Ext w0 w1 := Ext.grown e h (fun k hk => by simp only [Option.some.injEq] at hk; omega)
theorem Gr.blk {B : Nat} {w w1 : World} (h : Gr B w w1) {g : Nat} {t : TypeId} {cs : List Value} (k : Blk w g t cs) (ne : g ≠ B) : Blk w1 g t cs := k.grown h (fun e => ne (by simpa using e))

theorem Gr.step {B : Nat} {wa w w' : World} {row : Option Nat} (h : Gr B wa w) (hg : w.grownBy w' row) (hr : ∀ k, row = some k → wa.heap.size ≤ k) : Gr B wa w' :=
  ⟨hg.os.trans h.os, hg.tape.trans h.tape, hg.output.trans h.output, Nat.le_trans h.size hg.size, fun k hk hne => (hg.block k (Nat.lt_of_lt_of_le hk h.size) (fun e => by have := hr k e.symm; omega)).trans (h.block k hk hne)⟩
theorem Gr.setNew {B : Nat} {wa w : World} (h : Gr B wa w) {b : Nat} (hb : wa.heap.size ≤ b) (i : Nat) (u : Value) : Gr B wa (w.setCell ⟨b, i, none⟩ u) :=
  ⟨h.os, h.tape, h.output, by rw [World.size_setCell]; exact h.size, fun k hk hne => (Below.heap_setCell _ _ _ _ (by simp only; omega)).trans (h.block k hk hne)⟩
theorem Cur.keep {hi : Nat} {w w' : World} {B : Nat} (h : Cur hi w B) (e : ∀ b, b ≤ B → w'.heap[b]? = w.heap[b]?) : Cur hi w' B := by
  obtain ⟨h0, v, n, i, q, h1, h2, h3⟩ := h
  exact ⟨h0, v, n, i, q, h1.of (e _ (Nat.le_refl _)), h2.same (fun b _ hb => e b (by omega)), h3⟩
theorem Cur.setNew {hi : Nat} {w : World} {B b : Nat} (h : Cur hi w B) (hb : B < b) (i : Nat) (u : Value) : Cur hi (w.setCell ⟨b, i, none⟩ u) B := h.keep fun k hk => Below.heap_setCell _ _ _ _ (by simp only; omega)
theorem and_mask (z : Int) (m : Nat) (hm : m < 4611686018427387904) : 0 ≤ bits .and .i64 z (m : Int) ∧ bits .and .i64 z (m : Int) ≤ m := by
  have h2 : (BitVec.ofInt 64 (m : Int)).toNat = m := by
    rw [BitVec.ofInt_natCast, BitVec.toNat_ofNat]; exact Nat.mod_eq_of_lt (by omega)
  have h3 : (BitVec.ofInt 64 z &&& BitVec.ofInt 64 (m : Int)).toNat ≤ m := by
    rw [BitVec.toNat_and, h2]
    exact Nat.and_le_right
  show 0 ≤ IntKind.i64.wrap ((BitVec.ofInt 64 z &&& BitVec.ofInt 64 (m : Int)).toNat : Int) ∧ IntKind.i64.wrap ((BitVec.ofInt 64 z &&& BitVec.ofInt 64 (m : Int)).toNat : Int) ≤ m
  rw [IntWalk.i64_in _ ⟨by omega, by omega⟩]
  omega
theorem wrap64_i64 (n : Int) : I64 (wrap64 n) := by unfold wrap64; exact ⟨by omega, by omega⟩
theorem mask255 (z : Int) : 0 ≤ bits .and .i64 z 255 ∧ bits .and .i64 z 255 ≤ 255 := and_mask z 255 (by decide)

set_option maxHeartbeats 800000 in
theorem l01Byte_any (hi B : Nat) (w : World) (hc : Cur hi w B) :
    Calls Tryz.prog 23 #[.pointer (some ⟨B, 0, none⟩)] w fun e w' => ∃ x : Int, e = .returned (.int .i64 x) ∧ (0 ≤ x ∧ x ≤ 255) ∧ Cur hi w' B ∧ Gr B w w' := by
  obtain ⟨h0, v, n, i, q, h1, h2, h3, h4, h5⟩ := hc
  obtain ⟨a, cap, rfl, k1, k2⟩ := h2.open
  have c0 := h1.cell 0 rfl
  have c1 := h1.cell 1 rfl
  have c2 := h1.cell 2 rfl
  have f0 := h1.free 0
  have f1 := h1.free 1
  have f2 := h1.free 2
  have z := h1.lt
  have H1 := hid h1
  have H2 := hid h2
  clear h1 h2
  go_enter Tryz.func23, Tryz.ntmps23
  go_wp2
  go_quiet (fail)
  go_wp2
  obtain ⟨q1, hq1⟩ : ∃ r, wrap64 (wrap64 (q * 6364136223846793005) + 1442695040888963407) = r := ⟨_, rfl⟩
  have i1 : I64 q1 := hq1 ▸ wrap64_i64 _
  rw [hq1]
  clear hq1
  obtain ⟨x1, hx1⟩ : ∃ x, bits .and .i64 (bits .xor .i64 (q1 / 8589934592) (q1 / 35184372088832)) 255 = x := ⟨_, rfl⟩
  have b1 : 0 ≤ x1 ∧ x1 ≤ 255 := hx1 ▸ mask255 _
  rw [hx1]
  clear hx1
  have B1 := H1.out.set 2 (.int .i64 q1)
  have G1 := (Gr.refl B w).set 2 (.int .i64 q1)
  clear c0 c1 c2 f0 f1 f2 z
  have G2 : Gr B w ((w.setCell ⟨B, 2, none⟩ (.int .i64 q1)).drewN nq) := G1.ext (by repeat (with_reducible (first | assumption | exact Ext.refl _ | apply Ext.alloc | apply Ext.drew | apply Ext.drewN)))
  have B2 : Blk ((w.setCell ⟨B, 2, none⟩ (.int .i64 q1)).drewN nq) B 102 [.slice a n cap, .int .i64 (i : Nat), .int .i64 q1] := B1
  have H3 : Byts hi ((w.setCell ⟨B, 2, none⟩ (.int .i64 q1)).drewN nq) (.slice a n cap) n := H2.out.same (fun b _ hb => G2.block b (by have := H1.out.lt; omega) (fun e => by simp only [Option.some.injEq] at e; omega))
  have hz : w.heap.size ≤ ((w.setCell ⟨B, 2, none⟩ (.int .i64 q1)).drewN nq).heap.size := G2.size
  obtain ⟨w1, hw1⟩ : ∃ w1, (w.setCell ⟨B, 2, none⟩ (.int .i64 q1)).drewN nq = w1 := ⟨_, rfl⟩
  rw [hw1] at G2 B2 H3 hz ⊢
  have c0 := B2.cell 0 rfl
  have c1 := B2.cell 1 rfl
  have z := B2.lt
  clear hw1 B1 G1
  by_cases hlt : i < n
  · obtain ⟨b, off, y, rfl, hb, y0, y1, hcy⟩ := H3.at hlt
    have f1 := B2.free 1
    have hb2 : b < w1.heap.size := by omega
    replace H3 := hid H3
    go_quiet (fail)
    go_wp2
    go_quiet (fail)
    go_wp2
    go_ret
    refine ⟨_, rfl, mask255 _, ⟨h0, _, n, i + 1, q1, ?_, H3.out.same (fun b _ hb => Below.heap_setCell _ _ _ _ (by simp; omega)), by omega, h4, i1⟩, ?_⟩
    · have B3 := B2.set 1 (.int .i64 ((i : Int) + 1))
      have e : ((i : Int) + 1) = ((i + 1 : Nat) : Int) := by omega
      rw [← e]
      exact B3
    · exact (G2.ext (show Ext w1 (w1.drewN _) from (by repeat (with_reducible (first | assumption | exact Ext.refl _ | apply Ext.alloc | apply Ext.drew | apply Ext.drewN))))).set 1 _
  · go_quiet (fail)
    go_wp2
    go_ret
    exact ⟨x1, rfl, b1, ⟨h0, _, n, i, q1, B2, H3, h3, h4, i1⟩, G2.ext (by repeat (with_reducible (first | assumption | exact Ext.refl _ | apply Ext.alloc | apply Ext.drew | apply Ext.drewN)))⟩

set_option maxHeartbeats 800000 in
theorem l01Below_any (hi B : Nat) (n : Int) (w : World) (hc : Cur hi w B) (h0 : 0 < n) (hn : I64 n) :
    Calls Tryz.prog 50 #[.pointer (some ⟨B, 0, none⟩), .int .i64 n] w fun e w' => ∃ x : Int, e = .returned (.int .i64 x) ∧ (0 ≤ x ∧ x < n) ∧ Cur hi w' B ∧ Gr B w w' := by
  have HC := hid hc
  have HN := hid hn
  clear hc hn
  have hn0 : ¬ n ≤ 0 := by omega
  by_cases h1 : n ≤ 256
  · go_enter Tryz.func50, Tryz.ntmps50
    go_wp2_with fail
    refine (l01Byte_any hi B _ HC.out).mono ?_
    rintro e w1 ⟨x, rfl, ⟨x0, x1⟩, C1, G1⟩
    go_wp2
    go_ret
    exact ⟨x % n, rfl, ⟨Int.emod_nonneg _ (by omega), Int.emod_lt_of_pos _ h0⟩, C1, G1⟩
  · go_enter Tryz.func50, Tryz.ntmps50
    go_wp2_with fail
    refine (l01Byte_any hi B _ HC.out).mono ?_
    rintro e w1 ⟨x, rfl, ⟨x0, x1⟩, C1, G1⟩
    go_wp2_with fail
    refine (l01Byte_any hi B _ C1).mono ?_
    rintro e w2 ⟨y, rfl, ⟨y0, y1⟩, C2, G2⟩
    go_wp2_with fail
    refine (l01Byte_any hi B _ C2).mono ?_
    rintro e w3 ⟨z, rfl, ⟨z0, z1⟩, C3, G3⟩
    go_wp2_with fail
    refine (l01Byte_any hi B _ C3).mono ?_
    rintro e w4 ⟨v, rfl, ⟨v0, v1⟩, C4, G4⟩
    go_wp2
    go_ret
    exact ⟨_, rfl, ⟨Int.emod_nonneg _ (by omega), Int.emod_lt_of_pos _ h0⟩, C4, ((G1.trans G2).trans G3).trans G4⟩

theorem mask30 (z : Int) : 0 ≤ bits .and .i64 z 1073741823 ∧ bits .and .i64 z 1073741823 ≤ 1073741823 := and_mask z 1073741823 (by decide)
set_option maxHeartbeats 800000 in
theorem l01New_any (hi : Nat) (v : Value) (n : Nat) (w : World) (hv : Byts hi w v n) (hh : hi ≤ w.heap.size) (hn : n ≤ 1048576) :
    Calls Tryz.prog 20 #[v] w fun e w' => ∃ B, e = .returned (.pointer (some ⟨B, 0, none⟩)) ∧ w.heap.size ≤ B ∧ Cur hi w' B ∧ Ext w w' := by
  have HV := hid hv
  obtain ⟨a, cap, rfl, k1, k2⟩ := hv.open
  clear hv
  go_enter Tryz.func20, Tryz.ntmps20
  go_wp2
  go_loop [3, 4] (fun h i => ∃ (x : Int) (k : Nat), h = .int .i64 x ∧ i = .int .i64 k ∧ (0 ≤ x ∧ x ≤ 1100000000) ∧ k ≤ n) (fun _ i => n - (intOf i).toNat)
  case atStart => exact ⟨1953 + (n : Int), 0, rfl, rfl, ⟨by omega, by omega⟩, by omega⟩
  case round =>
    obtain ⟨x, k, rfl, rfl, ⟨x0, x1⟩, hk⟩ := hrel
    by_cases hlt : k < n
    · obtain ⟨b, off, y, rfl, hb, y0, y1, hcy⟩ := HV.out.at hlt
      have hb2 : b < w.heap.size := by omega
      by_cases h4 : k < 4000
      · have e4 : decide ((k : Int) < 4000) = true := decide_eq_true (by omega)
        go_wp2
        go_round
        case rel => exact ⟨_, k + 1, rfl, by go_num, ⟨(mask30 _).1, Int.le_trans (mask30 _).2 (by decide)⟩, by omega⟩
        case measure => simp [intOf]; omega
      · have e4 : decide ((k : Int) < 4000) = false := decide_eq_false (by omega)
        go_wp2
        go_ret
        exact ⟨w.heap.size, rfl, Nat.le_refl _, ⟨hh, _, n, 0, x, Blk.new _ _ _, HV.out.ext hh (by repeat (with_reducible (first | assumption | exact Ext.refl _ | apply Ext.alloc | apply Ext.drew | apply Ext.drewN))), by omega, hn, ⟨by omega, by omega⟩⟩, (by repeat (with_reducible (first | assumption | exact Ext.refl _ | apply Ext.alloc | apply Ext.drew | apply Ext.drewN)))⟩
    · obtain rfl : k = n := by omega
      go_wp2
      go_ret
      exact ⟨w.heap.size, rfl, Nat.le_refl _, ⟨hh, _, k, 0, x, Blk.new _ _ _, HV.out.ext hh (by repeat (with_reducible (first | assumption | exact Ext.refl _ | apply Ext.alloc | apply Ext.drew | apply Ext.drewN))), by omega, hn, ⟨by omega, by omega⟩⟩, (by repeat (with_reducible (first | assumption | exact Ext.refl _ | apply Ext.alloc | apply Ext.drew | apply Ext.drewN)))⟩

set_option maxHeartbeats 800000 in
theorem l32New_any (hi : Nat) (v : Value) (n m : Nat) (w : World) (hv : Byts hi w v n) (hh : hi ≤ w.heap.size) (hn : n ≤ 1048576) (hm : m ≤ 1000) :
    Calls Tryz.prog 22 #[v, .int .i64 m] w fun e w' => ∃ B, e = .returned (.pointer (some ⟨B, 0, none⟩)) ∧ w.heap.size ≤ B ∧ Cur hi w' B ∧ Ext w w' := by
  have HV := hid hv
  obtain ⟨a, cap, rfl, k1, k2⟩ := hv.open
  clear hv
  go_enter Tryz.func22, Tryz.ntmps22
  go_wp2_with fail
  refine (l01New_any hi _ n _ HV.out hh hn).mono ?_
  rintro e w1 ⟨B, rfl, hB, C1, x1⟩
  have HC := hid C1
  have HX := hid x1
  clear C1 x1
  go_wp2
  go_loopw [6] (fun i wr => ∃ k : Nat, i = .int .i64 k ∧ k ≤ m ∧ Cur hi wr B ∧ Gr B w1 wr) (fun i _ => m - (intOf i).toNat)
  case atStart => exact ⟨0, rfl, by omega, HC.out, Gr.refl _ _⟩
  case round =>
    obtain ⟨k, rfl, hk, C2, G2⟩ := hrel
    by_cases hlt : k < m
    · go_wp2_with fail
      refine (l01Byte_any hi B _ C2).mono ?_
      rintro e w3 ⟨x, rfl, hx, C3, G3⟩
      have HC3 := hid C3
      have HG3 := hid (G2.trans G3)
      clear C2 G2 C3 G3 hx
      go_wp2
      go_roundw
      case rel => exact ⟨k + 1, by go_num, by omega, HC3.out, HG3.out⟩
      case measure => simp [intOf]; omega
    · obtain rfl : k = m := by omega
      have HC2 := hid C2
      have HG2 := hid G2
      clear C2 G2
      go_wp2
      go_ret
      exact ⟨B, rfl, hB, HC2.out, HG2.out.up HX.out hB⟩

set_option maxHeartbeats 800000 in
theorem MakeNum_any (hi : Nat) (v : Value) (n m : Nat) (w : World) (hv : Byts hi w v n) (hh : hi ≤ w.heap.size) (hn : n ≤ 1048576) (hm : m ≤ 1000) :
    Calls Tryz.prog 8 #[v, .int .i64 m] w fun e w' => ∃ x : Int, e = .returned (.int .i64 x) ∧ (0 ≤ x ∧ x ≤ 65535) ∧ Ext w w' := by
  have HV := hid hv
  obtain ⟨a, cap, rfl, k1, k2⟩ := hv.open
  clear hv
  go_enter Tryz.func8, Tryz.ntmps8
  go_wp2_with fail
  refine (l32New_any hi _ n m _ HV.out hh hn hm).mono ?_
  rintro e w1 ⟨B, rfl, hB, C1, x1⟩
  go_wp2_with fail
  refine (l01Byte_any hi B _ C1).mono ?_
  rintro e w2 ⟨x, rfl, ⟨x0, x1'⟩, C2, G2⟩
  go_wp2_with fail
  refine (l01Byte_any hi B _ C2).mono ?_
  rintro e w3 ⟨y, rfl, ⟨y0, y1'⟩, C3, G3⟩
  go_wp2
  go_ret
  exact ⟨_, rfl, ⟨by omega, by omega⟩, (G2.trans G3).up x1 hB⟩
end Go.Proofs.YtaegmenjgjdimaaGreat
end

section
/- This text proves that the reference draws valid textures. -/
namespace Go.Proofs.YtaegmenjgjdimaaGreat
open Go.RowKit

set_option maxHeartbeats 800000 in
theorem l01Pick_any (hi B g n : Nat) (xs : List Int) (w : World) (hc : Cur hi w B) (hg : Blk w g 3 (xs.map (Value.int .i64))) (hne : g ≠ B) (hn : xs.length = n) (h1 : 1 ≤ n) (h2 : n ≤ 1000) :
    Calls Tryz.prog 86 #[.pointer (some ⟨B, 0, none⟩), .slice (some ⟨g, 0, none⟩) n n] w fun e w' => ∃ x : Int, e = .returned (.int .i64 x) ∧ x ∈ xs ∧ Cur hi w' B ∧ Gr B w w' := by
  have HC := hid hc
  have HG := hid hg
  have HN := hid hn
  clear hc hg hn
  go_enter Tryz.func86, Tryz.ntmps86
  go_wp2_with fail
  refine (l01Below_any hi B n _ HC.out (by omega) ⟨by omega, by omega⟩).mono ?_
  rintro e w1 ⟨x, rfl, ⟨x0, x1⟩, C1, G1⟩
  obtain ⟨k, rfl⟩ : ∃ k : Nat, x = k := ⟨x.toNat, by omega⟩
  have B1 := G1.blk HG.out hne
  have hk : k < xs.length := by rw [HN.out]; omega
  have c0 := B1.cell k (v := .int .i64 xs[k]) (by simp [hk])
  have hm : xs[k] ∈ xs := List.getElem_mem hk
  obtain ⟨y, hy⟩ : ∃ y, xs[k] = y := ⟨_, rfl⟩
  rw [hy] at c0 hm
  have z1 := B1.lt
  have hkn : k < n := by omega
  clear hy hk
  go_wp2
  go_ret
  exact ⟨y, rfl, hm, C1, G1⟩

/-- the drawer's state: the box of the texture under way, its row of texels, the cursor -/
structure TSt (hi B : Nat) (wa wr : World) (g : Nat) (L : Int) (v : Value) (px : List Int) : Prop where
  gr : Gr B wa wr
  low : wa.heap.size ≤ g
  cur : Cur hi wr B
  box : Blk wr g 31 [.int .i64 L, v]
  own : OwnInts (g + 1) wr v px
  all : ∀ p ∈ px, 0 ≤ p ∧ p ≤ 256
theorem TSt.to {hi B : Nat} {wa wr w' : World} {g : Nat} {L : Int} {v : Value} {px : List Int} (h : TSt hi B wa wr g L v px) (e : Ext wr w') : TSt hi B wa w' g L v px :=
  ⟨h.gr.ext e, h.low, h.cur.ext e, h.box.ext e, h.own.ext e, h.all⟩

set_option maxRecDepth 10000 in
set_option maxHeartbeats 1600000 in
theorem l15Draw_any (hi B : Nat) (w : World) (hc : Cur hi w B) :
    Calls Tryz.prog 51 #[.pointer (some ⟨B, 0, none⟩)] w fun e w' => ∃ (v : Value) (t : Tex), e = .returned v ∧ OwnTex w.heap.size w' v t ∧ t.Ok ∧ Cur hi w' B ∧ Gr B w w' := by
  have HC := hid hc
  have hB := hc.lt
  clear hc
  go_enter Tryz.func51, Tryz.ntmps51
  go_wp2_with fail
  refine (l01Below_any hi B 4 _ (HC.out.ext (by repeat (with_reducible (first | assumption | exact Ext.refl _ | apply Ext.alloc | apply Ext.drew | apply Ext.drewN)))) (by decide) ⟨by decide, by decide⟩).mono ?_
  rintro e w1 ⟨L, rfl, ⟨L0, L1⟩, C1, G1⟩
  have hL4 : L ≤ 4 := by omega
  obtain ⟨m, hm⟩ : ∃ m : Nat, 2 ^ L.toNat = m := ⟨_, rfl⟩
  have hm16 : m ≤ 8 := by
    have : L = 0 ∨ L = 1 ∨ L = 2 ∨ L = 3 := by omega
    rcases this with h | h | h | h <;> subst h <;> simp at hm <;> omega
  have hm1 : 1 ≤ m := hm ▸ Nat.one_le_two_pow
  obtain ⟨P, hP⟩ : ∃ P : Nat, m * m = P := ⟨_, rfl⟩
  have hP64 : P ≤ 64 := by rw [← hP]; exact Nat.mul_le_mul hm16 hm16
  have hP1 : 1 ≤ P := by rw [← hP]; exact Nat.mul_le_mul hm1 hm1
  have hmm : wrap64 ((m : Int) * (m : Int)) = (P : Int) := by rw [← Int.natCast_mul, hP]; exact I64.wrap ⟨by omega, by omega⟩
  have S0 : TSt hi B (w.alloc (.cells #[.int .i64 0, .slice none 0 0] 31)) (w1.alloc (.cells #[.int .i64 L, .slice none 0 0] 31)) w1.heap.size L (.slice none 0 0) [] :=
    ⟨G1.ext (by repeat (with_reducible (first | assumption | exact Ext.refl _ | apply Ext.alloc | apply Ext.drew | apply Ext.drewN))), G1.size, C1.ext (by repeat (with_reducible (first | assumption | exact Ext.refl _ | apply Ext.alloc | apply Ext.drew | apply Ext.drewN))), Blk.new w1 _ [.int .i64 L, .slice none 0 0], OwnInts.nil _ _, fun p h => by cases h⟩
  have hsz := hid (fun w => hm ▸ l15Size_tex (t := ⟨L, []⟩) L0 hL4 w : ∀ w, Calls Tryz.prog 85 #[.int .i64 L] w fun e w' => e = .returned (.int .i64 (m : Nat)) ∧ w = w')
  replace S0 := hid S0
  replace hm := hid hm
  replace hP := hid hP
  have c0 := S0.out.box.cell 0 rfl
  have z0 := S0.out.box.lt
  clear C1 G1 hm16 hm1
  go_wp2
  go_quiet ((go_at_call 85; exact quiet_same (hsz.out _)))
  go_wp2
  rw [hmm]
  clear c0 z0 hmm
  go_loopg [4] P (fun k p wr => ∃ (v : Value) (px : List Int), p = .int .i64 k ∧ px.length + k = P ∧ TSt hi B (w.alloc (.cells #[.int .i64 0, .slice none 0 0] 31)) wr w1.heap.size L v px)
  case atStart => exact ⟨_, [], rfl, by simp, S0.out.to (by repeat (with_reducible (first | assumption | exact Ext.refl _ | apply Ext.alloc | apply Ext.drew | apply Ext.drewN)))⟩
  case round =>
    obtain ⟨v, px, rfl, hk, hst⟩ := hrel
    obtain ⟨av, cv, ev, -⟩ := hst.own.form
    obtain ⟨n, hn⟩ : ∃ n, px.length = n := ⟨_, rfl⟩
    rw [hn] at ev hk
    subst ev
    have b1 := hst.box.cell 1 rfl
    have z0 := hst.box.lt
    have HN := hid hn
    have HST := hid hst
    have hgB : w1.heap.size ≠ B := by have := hst.low; simp at this; omega
    clear hst hn
    by_cases hlt : 0 < gk
    · go_wp2
      refine wp_region_stagesX [([0, 1, 2, 3], 4), ([], 5), ([], 6), ([], 7), ([], 8), ([9], 10)] 10 (w1.heap.size + 1) B (by kernel_rfl) (by kernel_rfl) ?_
      refine wpStagesX_cons ?_
      simp only [List.filterMap_cons, List.filterMap_nil, List.getElem?_toArray, List.getElem?_cons_zero, List.getElem?_cons_succ]
      show wpQuiet _ _ _ _ [_, _, _, _] _
      repeat (go_big_quiet_step (fail))
      refine wpQuiet_nil ⟨_, rfl, fun K hK => ?_⟩
      go_wp2_with fail
      refine (l01Below_any hi B 257 _ (HST.out.cur.ext (by repeat (with_reducible (first | assumption | exact Ext.refl _ | apply Ext.alloc | apply Ext.drew | apply Ext.drewN)))) (by decide) ⟨by decide, by decide⟩).mono ?_
      rintro e w3 ⟨p, rfl, ⟨p0, p1⟩, C3, G3⟩
      have G3' : Gr B wr w3 := ((Gr.refl B wr).ext (by repeat (with_reducible (first | assumption | exact Ext.refl _ | apply Ext.alloc | apply Ext.drew | apply Ext.drewN)))).trans G3
      go_wp2_with fail
      refine hK _ _ (.inr (SameX.gr G3' (by omega))) ?_
      clear hK K
      refine wpStagesX_cons ?_
      simp only [List.filterMap_nil]
      show wpQuiet _ _ _ _ [] _
      try simp only [Act.put, List.getElem_toArray, List.getElem_cons_succ, List.getElem_cons_zero, List.setIfInBounds_toArray, List.set_cons_succ, List.set_cons_zero]
      refine wpQuiet_nil ⟨_, rfl, fun K hK => ?_⟩
      go_wp2_with fail
      have y4 : Ext w3 (w3.alloc (.cells #[.int .i64 0, .int .i64 256, .int .i64 p] 3)) := (by repeat (with_reducible (first | assumption | exact Ext.refl _ | apply Ext.alloc | apply Ext.drew | apply Ext.drewN)))
      have G4 := G3'.ext y4
      have C4 := C3.ext y4
      have B4 := Blk.new w3 3 ([0, 256, p].map (Value.int .i64))
      have z3 := G3'.size
      refine hK _ _ (.inr (SameX.gr G4 (by omega))) ?_
      clear hK K
      refine wpStagesX_cons ?_
      simp only [List.filterMap_nil]
      show wpQuiet _ _ _ _ [] _
      try simp only [Act.put, List.getElem_toArray, List.getElem_cons_succ, List.getElem_cons_zero, List.setIfInBounds_toArray, List.set_cons_succ, List.set_cons_zero]
      refine wpQuiet_nil ⟨_, rfl, fun K hK => ?_⟩
      go_wp2_with fail
      refine (l01Pick_any hi B _ 3 [0, 256, p] _ C4 B4 (by have := HST.out.low; simp at this; omega) rfl (by decide) (by decide)).mono ?_
      rintro e w5 ⟨q, rfl, hq, C5, G5⟩
      have hq256 : 0 ≤ q ∧ q ≤ 256 := by
        simp only [List.mem_cons, List.not_mem_nil, or_false] at hq
        rcases hq with rfl | rfl | rfl <;> omega
      have G5' := G4.trans G5
      go_wp2_with fail
      refine hK _ _ (.inr (SameX.gr G5' (by omega))) ?_
      clear hK K hq
      refine wpStagesX_cons ?_
      simp only [List.filterMap_nil]
      show wpQuiet _ _ _ _ [] _
      try simp only [Act.put, List.getElem_toArray, List.getElem_cons_succ, List.getElem_cons_zero, List.setIfInBounds_toArray, List.set_cons_succ, List.set_cons_zero]
      refine wpQuiet_nil ⟨_, rfl, fun K hK => ?_⟩
      go_wp2_with fail
      have y6 : Ext w5 (w5.alloc (.cells #[.int .i64 q] 3)) := (by repeat (with_reducible (first | assumption | exact Ext.refl _ | apply Ext.alloc | apply Ext.drew | apply Ext.drewN)))
      have z5 := G5'.size
      refine hK _ _ (.inr (SameX.gr (G5'.ext y6) (by omega))) ?_
      clear hK K
      refine wpStagesX_cons ?_
      simp only [List.filterMap_nil]
      show wpQuiet _ _ _ _ [] _
      try simp only [Act.put, List.getElem_toArray, List.getElem_cons_succ, List.getElem_cons_zero, List.setIfInBounds_toArray, List.set_cons_succ, List.set_cons_zero]
      refine wpQuiet_nil ⟨_, rfl, fun K hK => ?_⟩
      have hlow := HST.out.low
      rw [World.size_alloc] at hlow
      have own5 : OwnInts (w1.heap.size + 1) w5 (.slice av n cv) px := HST.out.own.kept (fun b hb hb' => G5'.block b hb' (fun e => by simp only [Option.some.injEq] at e; omega))
      refine wpList_append1 _ rfl _ _ rfl (w1.heap.size + 1) (.slice av n cv) px rfl (own5.alloc _) q ⟨by omega, by omega⟩ w5.heap.size rfl (by simp [go_sem]) (by rw [HN.out]; omega) (by simp; omega) ?_
      intro v' w6 hown hg
      obtain ⟨a4, c4, e4, -⟩ := hown.form
      rw [show (px ++ [q]).length = n + 1 by rw [List.length_append, HN.out]; rfl] at e4
      subst e4
      have hz4 := hg.size
      rw [World.size_alloc] at hz4
      have hv3 : ∀ k, (Value.slice av n cv).ownBlock = some k → w1.heap.size + 1 ≤ k := fun k hk => (own5.lt k hk).1
      have hkeep : ∀ b, b < w1.heap.size + 1 → w6.heap[b]? = w5.heap[b]? := fun b hb => (hg.block b (by simp; omega) (fun e => by have := hv3 b e.symm; omega)).trans (y6.block (by omega))
      have X6 : SameX (w1.heap.size + 1) B wr w6 := (SameX.gr G5' (by omega)).trans (SameX.of (fun b _ hb => hkeep b hb))
      have B6 := (G5'.blk HST.out.box hgB).of (hkeep _ (by omega))
      have HC6 := hid (C5.keep (fun b hb => hkeep b (by omega)) : Cur hi w6 B)
      have HG6 := hid (((HST.out.gr.trans G5').ext y6).step hg (fun k hk => by have := hv3 k hk; simp; omega) : Gr B (w.alloc (.cells #[.int .i64 0, .slice none 0 0] 31)) w6)
      have HO6 := hid hown
      have c2' := B6.cell 1 rfl
      have f2' := B6.free 1
      have z4 := B6.lt
      have HB6 := hid B6
      clear hg hown own5 B6 hv3 hkeep C3 G3 G3' C4 G4 B4 y4 C5 G5 G5' y6
      go_wp2_with fail
      refine hK _ _ (.inr X6) ?_
      clear hK K X6
      refine wpStagesX_cons ?_
      simp only [List.filterMap_cons, List.filterMap_nil, List.getElem?_toArray, List.getElem?_cons_zero, List.getElem?_cons_succ]
      show wpQuiet _ _ _ _ [_] _
      try simp only [Act.put, List.getElem_toArray, List.getElem_cons_succ, List.getElem_cons_zero, List.setIfInBounds_toArray, List.set_cons_succ, List.set_cons_zero]
      repeat (go_big_quiet_step (fail))
      refine wpQuiet_nil ⟨_, rfl, fun K hK => ?_⟩
      go_wp2
      refine hK _ _ (.inl (by trivial)) (wpStagesX_nil ?_)
      clear hK K
      go_wp2
      go_roundg (gk - 1)
      case measure => omega
      case rel =>
        refine ⟨_, px ++ [q], by go_num, by rw [List.length_append, HN.out]; simp; omega, ⟨HG6.out.setNew (by simp; omega) _ _, HST.out.low, HC6.out.setNew (by omega) _ _, HB6.out.set 1 _, HO6.out.setLow (by simp) _, ?_⟩⟩
        intro y hy
        rcases List.mem_append.1 hy with h | h
        · exact HST.out.all y h
        · simp at h; subst h; exact hq256
    · have hst := HST.out
      have R0 := hst.gr.blk (Blk.new w 31 [.int .i64 0, .slice none 0 0]) (by omega)
      have r0 := R0.cell 0 rfl
      have r1 := R0.cell 1 rfl
      have f0 := R0.free 0
      have f1 := R0.free 1
      have zr := R0.lt
      have b0 := hst.box.cell 0 rfl
      have hgl := hst.low
      rw [World.size_alloc] at hgl
      have iL : I64 L := ⟨by omega, by omega⟩
      obtain rfl : n = px.length := HN.out.symm
      have hgk : gk = 0 := by omega
      have HK := hid hgk
      have HPx := hid (by omega : px.length = P)
      clear hst hgk hk
      go_wp2
      refine bodyPost_ret (v := .agg #[.int .i64 L, .slice av px.length cv]) (by simp [results, Tryz.results51, go_sem, *]) rfl ⟨_, rfl, ⟨L, px⟩, ⟨_, rfl, iL, ?_⟩, ⟨L0, hL4, ?_, HST.out.all⟩, ?_, ?_⟩
      · exact ((HST.out.own.setLow (by simp; omega) _).setLow (by simp; omega) _).low (by omega)
      · show px.length = 2 ^ L.toNat * 2 ^ L.toNat
        rw [hm.out, hP.out, HPx.out]
      · exact (HST.out.cur.setNew (by omega) _ _).setNew (by omega) _ _
      · exact ((((Gr.refl B w).ext (show Ext w (w.alloc (.cells #[.int .i64 0, .slice none 0 0] 31)) from (by repeat (with_reducible (first | assumption | exact Ext.refl _ | apply Ext.alloc | apply Ext.drew | apply Ext.drewN))))).trans HST.out.gr).setNew (Nat.le_refl _) _ _).setNew (Nat.le_refl _) _ _

end Go.Proofs.YtaegmenjgjdimaaGreat
end

section
/- This text proves what the reference's draws of sources of programs hand back: texts of a bounded size. -/
namespace Go.Proofs.YtaegmenjgjdimaaGreat
open Go.RowKit

set_option maxHeartbeats 800000 in
theorem l01Once_any (hi B : Nat) (n : Int) (w : World) (hc : Cur hi w B) (h0 : 0 < n) (hn : I64 n) :
    Calls Tryz.prog 74 #[.pointer (some ⟨B, 0, none⟩), .int .i64 n] w fun e w' => ∃ b : Bool, e = .returned (.bool b) ∧ Cur hi w' B ∧ Gr B w w' := by
  have HC := hid hc
  clear hc
  go_enter Tryz.func74, Tryz.ntmps74
  go_wp2_with fail
  refine (l01Below_any hi B n _ HC.out h0 hn).mono ?_
  rintro e w1 ⟨x, rfl, ⟨x0, x1⟩, C1, G1⟩
  go_wp2
  go_ret
  exact ⟨_, rfl, C1, G1⟩
set_option maxHeartbeats 800000 in
theorem l01Str_any (hi B g n m : Nat) (xs : List ByteArray) (w : World) (hc : Cur hi w B) (hg : Blk w g 9 (xs.map Value.string)) (hne : g ≠ B) (hn : xs.length = n) (h1 : 1 ≤ n) (h2 : n ≤ 1000) (hm : ∀ x ∈ xs, x.size ≤ m) :
    Calls Tryz.prog 107 #[.pointer (some ⟨B, 0, none⟩), .slice (some ⟨g, 0, none⟩) n n] w fun e w' => ∃ x : ByteArray, e = .returned (.string x) ∧ x.size ≤ m ∧ Cur hi w' B ∧ Gr B w w' := by
  have HC := hid hc
  have HG := hid hg
  have HN := hid hn
  have HM := hid hm
  clear hc hg hn hm
  go_enter Tryz.func107, Tryz.ntmps107
  go_wp2_with fail
  refine (l01Below_any hi B n _ HC.out (by omega) ⟨by omega, by omega⟩).mono ?_
  rintro e w1 ⟨x, rfl, ⟨x0, x1⟩, C1, G1⟩
  obtain ⟨k, rfl⟩ : ∃ k : Nat, x = k := ⟨x.toNat, by omega⟩
  have B1 := G1.blk HG.out hne
  have hk : k < xs.length := by rw [HN.out]; omega
  have c0 := B1.cell k (v := .string xs[k]) (by simp [hk])
  have hm := HM.out _ (List.getElem_mem hk)
  obtain ⟨y, hy⟩ : ∃ y, xs[k] = y := ⟨_, rfl⟩
  rw [hy] at c0 hm
  have z1 := B1.lt
  have hkn : k < n := by omega
  clear hy hk
  go_wp2
  go_ret
  exact ⟨y, rfl, hm, C1, G1⟩
/-- how long an expression's text gets -/
def eb : Nat → Nat
  | 0 => 4
  | d + 1 => 2 * eb d + 20
theorem eb_le {d : Nat} (h : d ≤ 2) : eb d ≤ 76 := by
  rcases (show d = 0 ∨ d = 1 ∨ d = 2 by omega) with rfl | rfl | rfl <;> decide
def leaves : List ByteArray := [⟨#[117]⟩, ⟨#[118]⟩, ⟨#[120]⟩, ⟨#[121]⟩, ⟨#[122]⟩, ⟨#[116]⟩, ⟨#[49]⟩, ⟨#[48, 46, 53]⟩, ⟨#[50]⟩, ⟨#[48, 46, 50, 53]⟩]
theorem leaves_le : ∀ x ∈ leaves, x.size ≤ 4 := by
  intro x hx
  simp only [leaves, List.mem_cons, List.not_mem_nil, or_false] at hx
  rcases hx with rfl | rfl | rfl | rfl | rfl | rfl | rfl | rfl | rfl | rfl <;> decide
set_option maxRecDepth 10000 in
set_option maxHeartbeats 3200000 in
theorem sExpr_any (hi B : Nat) : ∀ (d : Nat) (w : World), d ≤ 3 → Cur hi w B → Calls Tryz.prog 75 #[.pointer (some ⟨B, 0, none⟩), .int .i64 (d : Nat)] w fun e w' => ∃ s : ByteArray, e = .returned (.string s) ∧ s.size ≤ eb d ∧ Cur hi w' B ∧ Gr B w w' := by
  intro d
  induction d with
  | zero =>
    intro w hd hc
    have HC := hid hc
    have hB := hc.lt
    clear hc
    go_enter Tryz.func75, Tryz.ntmps75
    go_wp2_with fail
    have x1 : Ext w (w.alloc (.cells (leaves.map Value.string).toArray 9)) := (by repeat (with_reducible (first | assumption | exact Ext.refl _ | apply Ext.alloc | apply Ext.drew | apply Ext.drewN)))
    refine (l01Str_any hi B w.heap.size 10 4 leaves _ (HC.out.ext x1) (Blk.new w 9 (leaves.map Value.string)) (by omega) rfl (by decide) (by decide) leaves_le).mono ?_
    rintro e w1 ⟨s, rfl, hs, C1, G1⟩
    go_wp2
    go_ret
    exact ⟨s, rfl, hs, C1, ((Gr.refl B w).ext x1).trans G1⟩
  | succ d ih =>
    intro w hd hc
    have HC := hid hc
    have hB := hc.lt
    have hdn : ¬ ((d : Int) + 1 ≤ 0) := by omega
    have he := eb_le (show d ≤ 2 by omega)
    have IH := hid ih
    clear hc ih
    go_enter Tryz.func75, Tryz.ntmps75
    go_wp2_with fail
    refine (l01Once_any hi B 4 _ HC.out (by decide) ⟨by decide, by decide⟩).mono ?_
    rintro e w1 ⟨b, rfl, C1, G1⟩
    have z1 := G1.size
    cases b
    · go_wp2_with fail
      refine (IH.out _ (by omega) C1).mono ?_
      rintro e w2 ⟨s2, rfl, h2, C2, G2⟩
      go_wp2_with fail
      refine (IH.out _ (by omega) C2).mono ?_
      rintro e w3 ⟨s3, rfl, h3, C3, G3⟩
      go_wp2_with fail
      refine (l01Below_any hi B 14 _ C3 (by decide) ⟨by decide, by decide⟩).mono ?_
      rintro e w4 ⟨x, rfl, ⟨x0, x1⟩, C4, G4⟩
      have G5 := hid (((G1.trans G2).trans G3).trans G4)
      have HC4 := hid C4
      have he2 : eb (d + 1) = 2 * eb d + 20 := rfl
      have HE := hid he2
      have h2' : s2.size ≤ 76 := by omega
      have h3' : s3.size ≤ 76 := by omega
      have HS2 := hid h2
      have HS3 := hid h3
      clear C1 G1 C2 G2 C3 G3 C4 G4 he2 h2 h3 he
      go_wp2
      all_goals go_ret
      all_goals refine ⟨_, rfl, ?_, HC4.out, G5.out⟩
      all_goals
        have h2 : s2.data.size ≤ eb d := HS2.out
        have h3 : s3.data.size ≤ eb d := HS3.out
        rw [HE.out]
        clear HS2 HS3 HE h2' h3'
        simp only [ByteArray.size_append]
        simp only [ByteArray.size, List.size_toArray, List.length_cons, List.length_nil]
        omega
    · go_wp2_with fail
      have x1 : Ext w1 (w1.alloc (.cells (leaves.map Value.string).toArray 9)) := (by repeat (with_reducible (first | assumption | exact Ext.refl _ | apply Ext.alloc | apply Ext.drew | apply Ext.drewN)))
      refine (l01Str_any hi B w1.heap.size 10 4 leaves _ (C1.ext x1) (Blk.new w1 9 (leaves.map Value.string)) (by omega) rfl (by decide) (by decide) leaves_le).mono ?_
      rintro e w2 ⟨s, rfl, hs, C2, G2⟩
      go_wp2
      go_ret
      exact ⟨s, rfl, by show s.size ≤ 2 * eb d + 20; omega, C2, (G1.ext x1).trans G2⟩
set_option maxRecDepth 10000 in
set_option maxHeartbeats 3200000 in
theorem sSource_any (hi B : Nat) (w : World) (hc : Cur hi w B) : Calls Tryz.prog 46 #[.pointer (some ⟨B, 0, none⟩)] w fun e w' => ∃ s : ByteArray, e = .returned (.string s) ∧ s.size ≤ 2000 ∧ Cur hi w' B ∧ Gr B w w' := by
  have HC := hid hc
  clear hc
  have e1 : eb 1 = 28 := rfl
  have e2 : eb 2 = 76 := rfl
  have e3 : eb 3 = 172 := rfl
  go_enter Tryz.func46, Tryz.ntmps46
  go_wp2_with fail
  refine (l01Once_any hi B 2 _ HC.out (by decide) ⟨by decide, by decide⟩).mono ?_
  rintro e w1 ⟨b, rfl, C1, G1⟩
  cases b
  · go_wp2_with fail
    refine (sExpr_any hi B 3 _ (by decide) C1).mono ?_
    rintro e w2 ⟨s2, rfl, h2, C2, G2⟩
    have g2 : s2.data.size ≤ 172 := by rw [e3] at h2; exact h2
    replace G2 := G1.trans G2
    clear C1 G1
    go_wp2_with fail
    refine (l01Once_any hi B 3 _ C2 (by decide) ⟨by decide, by decide⟩).mono ?_
    rintro e w4 ⟨b, rfl, C4, G4⟩
    replace G4 := G2.trans G4
    clear C2 G2
    cases b
    · go_wp2
      go_ret
      refine ⟨_, rfl, ?_, C4, G4⟩
      simp only [ByteArray.size_append]
      simp only [ByteArray.size, List.size_toArray, List.length_cons, List.length_nil]
      omega
    · go_wp2_with fail
      refine (sExpr_any hi B 1 _ (by decide) C4).mono ?_
      rintro e w5 ⟨s5, rfl, h5, C5, G5⟩
      have g5 : s5.data.size ≤ 28 := by rw [e1] at h5; exact h5
      replace G5 := G4.trans G5
      clear C4 G4
      go_wp2
      go_ret
      refine ⟨_, rfl, ?_, C5, G5⟩
      simp only [ByteArray.size_append]
      simp only [ByteArray.size, List.size_toArray, List.length_cons, List.length_nil]
      omega
  · go_wp2_with fail
    refine (sExpr_any hi B 2 _ (by decide) C1).mono ?_
    rintro e w2 ⟨s2, rfl, h2, C2, G2⟩
    have g2 : s2.data.size ≤ 76 := by rw [e2] at h2; exact h2
    replace G2 := G1.trans G2
    clear C1 G1
    go_wp2_with fail
    refine (sExpr_any hi B 3 _ (by decide) C2).mono ?_
    rintro e w3 ⟨s3, rfl, h3, C3, G3⟩
    have g3 : s3.data.size ≤ 172 := by rw [e3] at h3; exact h3
    replace G3 := G2.trans G3
    clear C2 G2
    go_wp2_with fail
    refine (l01Once_any hi B 3 _ C3 (by decide) ⟨by decide, by decide⟩).mono ?_
    rintro e w4 ⟨b, rfl, C4, G4⟩
    replace G4 := G3.trans G4
    clear C3 G3
    cases b
    · go_wp2
      go_ret
      refine ⟨_, rfl, ?_, C4, G4⟩
      simp only [ByteArray.size_append]
      simp only [ByteArray.size, List.size_toArray, List.length_cons, List.length_nil]
      omega
    · go_wp2_with fail
      refine (sExpr_any hi B 1 _ (by decide) C4).mono ?_
      rintro e w5 ⟨s5, rfl, h5, C5, G5⟩
      have g5 : s5.data.size ≤ 28 := by rw [e1] at h5; exact h5
      replace G5 := G4.trans G5
      clear C4 G4
      go_wp2
      go_ret
      refine ⟨_, rfl, ?_, C5, G5⟩
      simp only [ByteArray.size_append]
      simp only [ByteArray.size, List.size_toArray, List.length_cons, List.length_nil]
      omega
end Go.Proofs.YtaegmenjgjdimaaGreat
end

section
/- This text proves the draw of programs: a program that the checker passes, of small size. -/
namespace Go.Proofs.YtaegmenjgjdimaaGreat
open Go.RowKit

theorem Prg.R.set2 {p : Prg} {lo hi l2 A : Nat} {w : World} {v : Value} (h : p.R lo hi w v) (hA : A < lo) (hl : l2 ≤ lo) (hh : hi ≤ w.heap.size) (u u' : Value) : p.R l2 ((w.setCell ⟨A, 0, none⟩ u).setCell ⟨A, 1, none⟩ u').heap.size ((w.setCell ⟨A, 0, none⟩ u).setCell ⟨A, 1, none⟩ u') v :=
  (h.same ((Same.setLow _ (p := ⟨A, 0, none⟩) hA u).trans (Same.setLow _ (p := ⟨A, 1, none⟩) hA u'))).low hl (by rw [World.size_setCell, World.size_setCell]; exact hh)
theorem Prg.R.ext' {p : Prg} {lo : Nat} {w w' : World} {v : Value} (h : p.R lo w.heap.size w v) (e : Ext w w') : p.R lo w'.heap.size w' v := (h.ext (Nat.le_refl _) e).low (Nat.le_refl _) e.size
theorem cu_chk : cuP.chkB = true := by
  unfold Prg.chkB
  simp only [Bool.and_eq_true]
  refine ⟨⟨⟨⟨?_, ?_⟩, ?_⟩, ?_⟩, ?_⟩
  · decide
  · simp [cuP, cuN, cuA, Prg.nameB, isVar, Lib.toList_data]
  · simp [cuP, cuN, cuA, Prg.arB]
  · simp [cuP, cuN, cuA, Prg.asB, isVar, asgB, Lib.toList_data]
  · simp [cuP, cuN, cuA, Prg.colB, asgB, Lib.toList_data]
set_option maxRecDepth 10000 in
set_option maxHeartbeats 6400000 in
theorem l14Good_any (hi B : Nat) (w : World) (hc : Cur hi w B) : Calls Tryz.prog 19 #[.pointer (some ⟨B, 0, none⟩)] w fun e w' => ∃ (p : Prg) (v : Value), e = .returned v ∧ p.R w.heap.size w'.heap.size w' v ∧ p.bd ∧ p.small ∧ p.chkB = true ∧ Gr B w w' := by
  have zB := hc.lt
  have hB := Blk.new w 26 [.slice none 0 0, .slice none 0 0]
  have x1 : Ext w (w.alloc (.cells #[.slice none 0 0, .slice none 0 0] 26)) := (by repeat (with_reducible (first | assumption | exact Ext.refl _ | apply Ext.alloc | apply Ext.drew | apply Ext.drewN)))
  have HC1 := hid (hc.ext x1)
  have HB1 := hid hB
  have HX1 := hid x1
  have z1 : (w.alloc (.cells #[.slice none 0 0, .slice none 0 0] 26)).heap.size = w.heap.size + 1 := World.size_alloc _ _
  clear hc hB x1
  go_enter Tryz.func19, Tryz.ntmps19
  go_wp2_with fail
  go_loopw [3] (fun i wr => ∃ k : Nat, k ≤ 20 ∧ i = .int .i64 (k : Nat) ∧ Cur hi wr B ∧ Gr B (w.alloc (.cells #[.slice none 0 0, .slice none 0 0] 26)) wr) (fun i _ => 20 - (intOf i).toNat)
  case atStart => exact ⟨0, by omega, rfl, HC1.out, Gr.refl _ _⟩
  case round =>
    obtain ⟨k, hk, rfl, C, G⟩ := hrel
    have HC := hid C
    have HG := hid G
    clear C G HC1
    by_cases hlt : k < 20
    · go_wp2_with fail
      refine (sSource_any hi B _ HC.out).mono ?_
      rintro e w3 ⟨s, rfl, hs, C3, G3⟩
      have HC3 := hid C3
      have HG3 := hid (HG.out.trans G3)
      clear C3 G3 HC HG
      go_wp2_with fail
      refine (sParse_any s w3 (by unfold maxLen; omega)).mono ?_
      rintro e w4 ⟨p, v, n, rfl, R4, bd4, sm4, x4, -⟩
      obtain ⟨na, nc, ga, gc, rfl, -, -⟩ := R4.form
      have HR := hid R4
      have HX4 := hid x4
      have zx := x4.size
      have y5 : Ext w4 (w4.alloc (.cells #[.slice na p.ns.length nc, .slice ga p.gs.length gc] 26)) := (by repeat (with_reducible (first | assumption | exact Ext.refl _ | apply Ext.alloc | apply Ext.drew | apply Ext.drewN)))
      have HR5 := hid (R4.ext (Nat.le_refl _) y5)
      have HY5 := hid y5
      have zy := y5.size
      clear R4 x4 y5
      have b5 := Blk.new w4 26 [.slice na p.ns.length nc, .slice ga p.gs.length gc]
      have HB5 := hid b5
      clear b5
      go_wp2_with fail
      refine (sCheck_any _ _ _ p _ HR5.out zy bd4 sm4.1.1 sm4.2).mono ?_
      rintro e w6 ⟨⟨c, q, rfl, hcc⟩, x6⟩
      have HX6 := hid (HY5.out.trans x6)
      have HB6 := hid (HB5.out.ext x6)
      have r0 := HG3.out.blk HB1.out (by omega)
      have HR0 := hid (r0.ext (HX4.out.trans (HY5.out.trans x6)))
      have HG6 := hid (HG3.out.ext (HX4.out.trans (HY5.out.trans x6)))
      have HC6 := hid (HC3.out.ext (HX4.out.trans (HY5.out.trans x6)))
      have HR6 := hid (HR5.out.ext zy x6)
      have q0 := HB6.out.cell 0 rfl
      have q1 := HB6.out.cell 1 rfl
      have z6 := x6.size
      have zg3 := HG3.out.size
      have hh6 := HX6.out.size
      have zlt := HB6.out.lt
      clear x6 r0 HX4 HY5 HR5 HB5 HC3 HG3 HR
      by_cases h0 : c = 0
      · have hchk : p.chkB = true := by rw [← hcc]; exact beq_iff_eq.2 h0
        have HCH := hid hchk
        have g0 := HR0.out.cell 0 rfl
        have g1 := HR0.out.cell 1 rfl
        have k0 := HR0.out.free 0
        have k1 := HR0.out.free 1
        have zR := HR0.out.lt
        have zg := HG6.out.size
        clear hchk hcc
        go_wp2
        refine bodyPost_ret (v := .agg #[.slice na p.ns.length nc, .slice ga p.gs.length gc]) (by simp [results, Tryz.results19, go_sem, *]) rfl ?_
        exact ⟨p, _, rfl, HR6.out.set2 (by omega) (by omega) (by omega) _ _, bd4, sm4, HCH.out, ((((Gr.refl B w).ext HX1.out).trans HG6.out).setNew (Nat.le_refl _) _ _).setNew (Nat.le_refl _) _ _⟩
      · clear hcc
        go_wp2
        go_roundw
        case rel => exact ⟨k + 1, by omega, by go_num, HC6.out, HG6.out⟩
        case measure => simp [intOf]; omega
    · obtain rfl : k = 20 := by omega
      go_wp2_with fail
      refine (sParse_any cuS wr (by decide)).mono ?_
      rintro e w4 ⟨p, v, n, rfl, R4, bd4, sm4, x4, hcu⟩
      obtain rfl := hcu rfl
      obtain ⟨na, nc, ga, gc, rfl, -, -⟩ := R4.form
      have HR := hid R4
      have HX4 := hid x4
      have r0 := (HG.out.blk HB1.out (by omega)).ext x4
      have HG6 := hid (HG.out.ext x4)
      have zx := x4.size
      have zg3 := HG.out.size
      have g0 := r0.cell 0 rfl
      have g1 := r0.cell 1 rfl
      have k0 := r0.free 0
      have k1 := r0.free 1
      have zR := r0.lt
      clear R4 x4 hcu r0 HC HG
      go_wp2
      refine bodyPost_ret (v := .agg #[.slice na cuP.ns.length nc, .slice ga cuP.gs.length gc]) (by simp [results, Tryz.results19, go_sem, *]) rfl ?_
      exact ⟨cuP, _, rfl, (HR.out.set2 (A := w.heap.size) (l2 := w.heap.size) (by omega) (by omega) (Nat.le_refl _) _ _).ext' (by repeat (with_reducible (first | assumption | exact Ext.refl _ | apply Ext.alloc | apply Ext.drew | apply Ext.drewN))), bd4, sm4, cu_chk, (((((Gr.refl B w).ext HX1.out).trans HG6.out).setNew (Nat.le_refl _) _ _).setNew (Nat.le_refl _) _ _).ext (by repeat (with_reducible (first | assumption | exact Ext.refl _ | apply Ext.alloc | apply Ext.drew | apply Ext.drewN)))⟩
set_option maxHeartbeats 800000 in
theorem MakeProgram_any (hi : Nat) (v : Value) (n : Nat) (w : World) (hv : Byts hi w v n) (hh : hi ≤ w.heap.size) (hn : n ≤ 1048576) :
    Calls Tryz.prog 6 #[v] w fun e w' => ∃ (p : Prg) (v : Value), e = .returned v ∧ p.R w.heap.size w'.heap.size w' v ∧ p.bd ∧ p.small ∧ p.chkB = true ∧ Ext w w' := by
  have HV := hid hv
  obtain ⟨a, cap, rfl, k1, k2⟩ := hv.open
  clear hv
  go_enter Tryz.func6, Tryz.ntmps6
  go_wp2_with fail
  refine (l01New_any hi _ n _ (HV.out.ext hh (by repeat (with_reducible (first | assumption | exact Ext.refl _ | apply Ext.alloc | apply Ext.drew | apply Ext.drewN)))) (by simp; omega) hn).mono ?_
  rintro e w1 ⟨B, rfl, hB, C1, x1⟩
  go_wp2_with fail
  refine (l14Good_any hi B _ C1).mono ?_
  rintro e w2 ⟨p, v2, rfl, R2, bd2, sm2, ch2, G2⟩
  obtain ⟨na, nc, ga, gc, rfl, -, -⟩ := R2.form
  rw [World.size_alloc] at hB
  have x1' : Ext w w1 := Ext.trans (by repeat (with_reducible (first | assumption | exact Ext.refl _ | apply Ext.alloc | apply Ext.drew | apply Ext.drewN))) x1
  have R0 := G2.blk ((Blk.new w 26 [.slice none 0 0, .slice none 0 0]).ext x1) (by omega)
  have r0 := R0.cell 0 rfl
  have r1 := R0.cell 1 rfl
  have f0 := R0.free 0
  have f1 := R0.free 1
  have z1 := R0.lt
  have zz := x1.size
  rw [World.size_alloc] at zz
  have HR := hid R2
  have HG := hid (G2.up x1' (by omega))
  clear R2
  go_wp2
  refine bodyPost_ret (v := .agg #[.slice na p.ns.length nc, .slice ga p.gs.length gc]) (by simp [results, Tryz.results6, go_sem, *]) rfl ?_
  exact ⟨p, _, rfl, HR.out.set2 (by omega) (by omega) (Nat.le_refl _) _ _, bd2, sm2, ch2, Ext.setCell (Ext.setCell HG.out (Nat.le_refl _) _) (Nat.le_refl _) _⟩
end Go.Proofs.YtaegmenjgjdimaaGreat
end

section
/- This text proves what the basic functions over vectors compute. -/
namespace Go.Proofs.YtaegmenjgjdimaaGreat
open Go.RowKit

/-- a vector as a value -/
def vecV (x y z : Int) : Value := .agg #[.int .i64 x, .int .i64 y, .int .i64 z]
def cl (n : Int) : Int := clampI n (-1000000) 1000000

theorem l02N_cl {n c : Int} (h : cl n = c) (w : World) : Calls Tryz.prog 137 #[.int .i64 n] w fun e w' => e = .returned (.int .i64 c) ∧ w = w' := by
  go_enter Tryz.func137, Tryz.ntmps137
  go_wp2_with fail
  refine (sClamp_val h _).mono ?_
  rintro e w1 ⟨rfl, rfl⟩
  go_wp2
  go_ret
  exact ⟨rfl, rfl⟩

set_option maxHeartbeats 800000 in
theorem l02V_val {x y z a b c : Int} (ha : cl x = a) (hb : cl y = b) (hc : cl z = c) (w : World) :
    Calls Tryz.prog 113 #[.agg #[.int .i64 x, .int .i64 y, .int .i64 z]] w fun e w' => e = .returned (.agg #[.int .i64 a, .int .i64 b, .int .i64 c]) ∧ Ext w w' := by
  have HA := hid ha
  have HB := hid hb
  have HC := hid hc
  clear ha hb hc
  go_enter Tryz.func113, Tryz.ntmps113
  go_wp2
  refine wp_region_stages [([0, 1, 3, 4, 6, 7], 2), ([], 5), ([], 8), ([9], 10)] 10 (w.heap.size + 1 + 1) (by kernel_rfl) (by kernel_rfl) ?_
  refine wpStages_cons ?_
  simp only [List.filterMap_cons, List.filterMap_nil, List.getElem?_toArray, List.getElem?_cons_zero, List.getElem?_cons_succ]
  show wpQuiet _ _ _ _ [_, _, _, _, _, _] _
  repeat (go_big_quiet_step (fail))
  refine wpQuiet_nil ⟨_, rfl, fun K hK => ?_⟩
  go_wp2_with fail
  refine (l02N_cl HA.out _).mono ?_
  rintro e w1 ⟨rfl, rfl⟩
  go_wp2_with fail
  refine hK _ _ (.inr (fun b _ hb => Ext.block (by repeat (with_reducible (first | assumption | exact Ext.refl _ | apply Ext.alloc | apply Ext.drew | apply Ext.drewN))) (by simp; omega))) ?_
  clear hK K
  refine wpStages_cons ?_
  simp only [List.filterMap_nil]
  show wpQuiet _ _ _ _ [] _
  try simp only [Act.put, List.setIfInBounds_toArray, List.set_cons_succ, List.set_cons_zero]
  refine wpQuiet_nil ⟨_, rfl, fun K hK => ?_⟩
  go_wp2_with fail
  refine (l02N_cl HB.out _).mono ?_
  rintro e w1 ⟨rfl, rfl⟩
  go_wp2_with fail
  refine hK _ _ (.inr (fun b _ hb => Ext.block (by repeat (with_reducible (first | assumption | exact Ext.refl _ | apply Ext.alloc | apply Ext.drew | apply Ext.drewN))) (by simp; omega))) ?_
  clear hK K
  refine wpStages_cons ?_
  simp only [List.filterMap_nil]
  show wpQuiet _ _ _ _ [] _
  try simp only [Act.put, List.setIfInBounds_toArray, List.set_cons_succ, List.set_cons_zero]
  refine wpQuiet_nil ⟨_, rfl, fun K hK => ?_⟩
  go_wp2_with fail
  refine (l02N_cl HC.out _).mono ?_
  rintro e w1 ⟨rfl, rfl⟩
  go_wp2_with fail
  refine hK _ _ (.inr (fun b _ hb => Ext.block (by repeat (with_reducible (first | assumption | exact Ext.refl _ | apply Ext.alloc | apply Ext.drew | apply Ext.drewN))) (by simp; omega))) ?_
  clear hK K
  refine wpStages_cons ?_
  simp only [List.filterMap_cons, List.filterMap_nil, List.getElem?_toArray, List.getElem?_cons_zero, List.getElem?_cons_succ]
  show wpQuiet _ _ _ _ [_] _
  try simp only [Act.put, List.setIfInBounds_toArray, List.set_cons_succ, List.set_cons_zero]
  repeat (go_big_quiet_step (fail))
  refine wpQuiet_nil ⟨_, rfl, fun K hK => ?_⟩
  go_wp2_with fail
  refine hK _ _ (.inl (by trivial)) (wpStages_nil ?_)
  clear hK K
  go_wp2
  exact bodyPost_ret (v := .agg #[.int .i64 a, .int .i64 b, .int .i64 c]) (by simp [results, Tryz.results113, go_sem, *]) rfl ⟨rfl, (by repeat (first | with_reducible assumption | with_reducible exact Ext.refl _ | with_reducible apply Ext.alloc | with_reducible apply Ext.drew | with_reducible apply Ext.drewN | (with_reducible refine Ext.setCell ?_ (by simp; omega) _) | (with_reducible refine Ext.setCell ?_ (by simp) _)))⟩
end Go.Proofs.YtaegmenjgjdimaaGreat
end

section
/- This text proves what sums, products and quotients of vectors compute. -/
namespace Go.Proofs.YtaegmenjgjdimaaGreat
open Go.RowKit

end Go.Proofs.YtaegmenjgjdimaaGreat
end

section
/- This text proves what the sum of two vectors is: the program's and the reference's; and when a vector is valid. -/
namespace Go.Proofs.YtaegmenjgjdimaaGreat
open Go.RowKit

def addC (x k : Int) : Int := cl (cl x + cl k)
theorem cl_bd (n : Int) : -1000000 ≤ cl n ∧ cl n ≤ 1000000 := by
  unfold cl clampI
  split
  · omega
  · split <;> omega

end Go.Proofs.YtaegmenjgjdimaaGreat
end

section
/- This text proves what the program's product of two vectors is. -/
namespace Go.Proofs.YtaegmenjgjdimaaGreat
open Go.RowKit

def dotC (x y z k l m : Int) : Int := cl x * cl k + cl y * cl l + cl z * cl m
theorem mul_range {a b : Int} (h1 : -1000000 ≤ a) (h2 : a ≤ 1000000) (h3 : -1000000 ≤ b) (h4 : b ≤ 1000000) : -1000000000000 ≤ a * b ∧ a * b ≤ 1000000000000 := by
  have k1 := Int.mul_nonneg (show 0 ≤ 1000000 - a by omega) (show 0 ≤ 1000000 - b by omega)
  have k2 := Int.mul_nonneg (show 0 ≤ 1000000 + a by omega) (show 0 ≤ 1000000 + b by omega)
  have k3 := Int.mul_nonneg (show 0 ≤ 1000000 - a by omega) (show 0 ≤ 1000000 + b by omega)
  have k4 := Int.mul_nonneg (show 0 ≤ 1000000 + a by omega) (show 0 ≤ 1000000 - b by omega)
  simp only [Int.sub_mul, Int.mul_sub, Int.add_mul, Int.mul_add] at k1 k2 k3 k4
  omega

end Go.Proofs.YtaegmenjgjdimaaGreat
end

section
/- This text proves when a vector is valid: the program's word and the reference's. -/
namespace Go.Proofs.YtaegmenjgjdimaaGreat
open Go.RowKit

def okVec (x y z : Int) : Bool := inB x (-1000000) 1000000 && inB y (-1000000) 1000000 && inB z (-1000000) 1000000
theorem cl_fix (n : Int) : (n = cl n) ↔ inB n (-1000000) 1000000 = true := by
  rw [inB_iff]
  unfold cl clampI
  split
  · omega
  · split <;> omega

theorem run_eqVec (x y z a b c : Int) (w : World) : (binOp .eql 106 (.agg #[.int .i64 x, .int .i64 y, .int .i64 z]) (.agg #[.int .i64 a, .int .i64 b, .int .i64 c])).run Tryz.prog w = .ok (.bool (decide (x = a) && (decide (y = b) && decide (z = c)))) w := by
  by_cases h1 : x = a
  · by_cases h2 : y = b
    · by_cases h3 : z = c <;> simp [go_sem, Tryz.underlying106, Tryz.stoodInHeld106, Tryz.underlying3, h1, h2, h3]
    · simp [go_sem, Tryz.underlying106, Tryz.stoodInHeld106, Tryz.underlying3, h1, h2]
  · simp [go_sem, Tryz.underlying106, Tryz.stoodInHeld106, Tryz.underlying3, h1]
theorem okVec_eq (x y z : Int) : (decide (x = cl x) && (decide (y = cl y) && decide (z = cl z))) = okVec x y z := by
  simp only [cl_fix, okVec, Bool.decide_eq_true, Bool.and_assoc]

set_option maxHeartbeats 800000 in
theorem sIsValidVec_val {x y z : Int} (w : World) :
    Calls Tryz.prog 112 #[.agg #[.int .i64 x, .int .i64 y, .int .i64 z]] w fun e w' => e = .returned (.bool (okVec x y z)) ∧ Ext w w' := by
  obtain ⟨a, ha⟩ : ∃ a, cl x = a := ⟨_, rfl⟩
  obtain ⟨b, hb⟩ : ∃ a, cl y = a := ⟨_, rfl⟩
  obtain ⟨c, hc⟩ : ∃ a, cl z = a := ⟨_, rfl⟩
  have HA := hid ha
  have HB := hid hb
  have HC := hid hc
  have HO := hid (show (decide (x = a) && (decide (y = b) && decide (z = c))) = okVec x y z by rw [← ha, ← hb, ← hc]; exact okVec_eq x y z)
  clear ha hb hc
  have hq := fun w => run_eqVec x y z a b c w
  go_enter Tryz.func112, Tryz.ntmps112
  go_wp2
  refine wp_region_ext (by kernel_rfl) (by kernel_rfl) ?_
  repeat (go_big_quiet_step ((go_at_call 113; exact grow_call (l02V_val HA.out HB.out HC.out _))))
  refine wpQuiet_nil ?_
  intro w1 h1
  go_wp2
  go_ret
  exact ⟨ret_bool HO.out, Ext.trans (by repeat (with_reducible (first | assumption | exact Ext.refl _ | apply Ext.alloc | apply Ext.drew | apply Ext.drewN))) h1⟩
end Go.Proofs.YtaegmenjgjdimaaGreat
end

section
/- This text proves the draw of patches: their corners' numbers are small; and the points of such patches. -/
namespace Go.Proofs.YtaegmenjgjdimaaGreat
open Go.RowKit

/-- small numbers -/
def SmF (f : Nat → Int) : Prop := ∀ i, -1000 ≤ f i ∧ f i ≤ 1000
theorem SmF.put {f : Nat → Int} (h : SmF f) (i : Nat) {x : Int} (hx : -1000 ≤ x ∧ x ≤ 1000) : SmF (fun j => if j = i then x else f j) := fun j => by
  show -1000 ≤ (if j = i then x else f j) ∧ (if j = i then x else f j) ≤ 1000
  split
  · exact hx
  · exact h j
theorem RowI.put1 {w : World} {b : Nat} {t : TypeId} {n : Nat} {f : Nat → Int} (h : RowI w b t n f) (i : Nat) (x : Int) : RowI (w.setCell ⟨b, i, none⟩ (.int .i64 x)) b t n (fun j => if j = i then x else f j) := by
  have := World.rowIs.set h i (.int .i64 x)
  refine World.rowIs.congr this fun j hj => ?_
  show _ = Value.int .i64 (if j = i then x else f j)
  split <;> rfl
theorem twelve1 {i : Nat} (h : i < 12) : i = 0 ∨ i = 1 ∨ i = 2 ∨ i = 3 ∨ i = 4 ∨ i = 5 ∨ i = 6 ∨ i = 7 ∨ i = 8 ∨ i = 9 ∨ i = 10 ∨ i = 11 := by omega
theorem row12_zero {w : World} {b : Nat} {t : TypeId} (hb : w.heap.size = b) : RowI (w.alloc (.cells #[.int .i64 0, .int .i64 0, .int .i64 0, .int .i64 0, .int .i64 0, .int .i64 0, .int .i64 0, .int .i64 0, .int .i64 0, .int .i64 0, .int .i64 0, .int .i64 0] t)) b t 12 (fun _ => 0) :=
  hb ▸ World.rowIs_alloc _ _ _ _ fun i hi => by rcases twelve1 hi with h | h | h | h | h | h | h | h | h | h | h | h <;> subst h <;> rfl
set_option maxRecDepth 20000 in
set_option maxHeartbeats 6400000 in
theorem l05Draw_any (hi B : Nat) (w : World) (hc : Cur hi w B) : Calls Tryz.prog 49 #[.pointer (some ⟨B, 0, none⟩)] w fun e w' => ∃ f : Nat → Int, e = .returned (.agg #[.int .i64 (f 0), .int .i64 (f 1), .int .i64 (f 2), .int .i64 (f 3), .int .i64 (f 4), .int .i64 (f 5), .int .i64 (f 6), .int .i64 (f 7), .int .i64 (f 8), .int .i64 (f 9), .int .i64 (f 10), .int .i64 (f 11)]) ∧ SmF f ∧ Cur hi w' B ∧ Gr B w w' := by
  have HC0 := hid hc
  have zB := hc.lt
  have A0 := row12_zero (w := w) (t := 109) rfl
  have A1 := row12_zero (w := w.alloc (.cells #[.int .i64 0, .int .i64 0, .int .i64 0, .int .i64 0, .int .i64 0, .int .i64 0, .int .i64 0, .int .i64 0, .int .i64 0, .int .i64 0, .int .i64 0, .int .i64 0] 109)) (t := 109) (b := w.heap.size + 1) (World.size_alloc _ _)
  have HA0 := hid (A0.alloc (.cells #[.int .i64 0, .int .i64 0, .int .i64 0, .int .i64 0, .int .i64 0, .int .i64 0, .int .i64 0, .int .i64 0, .int .i64 0, .int .i64 0, .int .i64 0, .int .i64 0] 109))
  have HA1 := hid A1
  have x1 : Ext w ((w.alloc (.cells #[.int .i64 0, .int .i64 0, .int .i64 0, .int .i64 0, .int .i64 0, .int .i64 0, .int .i64 0, .int .i64 0, .int .i64 0, .int .i64 0, .int .i64 0, .int .i64 0] 109)).alloc (.cells #[.int .i64 0, .int .i64 0, .int .i64 0, .int .i64 0, .int .i64 0, .int .i64 0, .int .i64 0, .int .i64 0, .int .i64 0, .int .i64 0, .int .i64 0, .int .i64 0] 109)) := (by repeat (with_reducible (first | assumption | exact Ext.refl _ | apply Ext.alloc | apply Ext.drew | apply Ext.drewN)))
  have HX1 := hid x1
  have HC1 := hid (hc.ext x1)
  clear hc A0 A1 x1
  go_enter Tryz.func49, Tryz.ntmps49
  go_wp2_with fail
  refine (l01Below_any hi B 160 _ HC1.out (by decide) ⟨by decide, by decide⟩).mono ?_
  rintro e w3 ⟨x, rfl, hx, C3, G3⟩
  go_wp2_with fail
  refine (l01Below_any hi B 160 _ C3 (by decide) ⟨by decide, by decide⟩).mono ?_
  rintro e w4 ⟨y, rfl, hy, C4, G4⟩
  go_wp2_with fail
  refine (l01Below_any hi B 200 _ C4 (by decide) ⟨by decide, by decide⟩).mono ?_
  rintro e w5 ⟨z, rfl, hz, C5, G5⟩
  have G6 := (G3.trans G4).trans G5
  have HG6 := hid ((Gr.refl B w).ext HX1.out |>.trans G6)
  have HR6 := hid (HA1.out.of (G6.block _ HA1.out.lt (by simp; omega)))
  have HQ6 := hid (HA0.out.of (G6.block _ HA0.out.lt (by simp; omega)))
  have HC6 := hid C5
  clear C3 G3 C4 G4 C5 G5 G6 HC1 HX1 HA0 HA1 HC0
  go_wp2_with fail
  go_loopw [18] (fun i wr => ∃ k : Nat, k ≤ 4 ∧ i = .int .i64 (k : Nat) ∧ ∃ f, RowI wr w.heap.size 109 12 (fun _ => 0) ∧ RowI wr (w.heap.size + 1) 109 12 f ∧ SmF f ∧ Cur hi wr B ∧ Gr B w wr) (fun i _ => 4 - (intOf i).toNat)
  case atStart => exact ⟨0, by omega, rfl, fun _ => 0, HQ6.out, HR6.out, (fun i => ⟨by show (-1000 : Int) ≤ 0; decide, by show (0 : Int) ≤ 1000; decide⟩), HC6.out, HG6.out⟩
  case round =>
    obtain ⟨k, hk, rfl, f, hq, hr, hf, C, G⟩ := hrel
    have HQ := hid hq
    have HR := hid hr
    have HC := hid C
    have HG := hid G
    clear hq hr C G HR6 HC6 HG6 HQ6
    by_cases hlt : k < 4
    · have hk4 : k = 0 ∨ k = 1 ∨ k = 2 ∨ k = 3 := by omega
      rcases hk4 with h | h | h | h <;> subst h
      · go_wp2_with fail
        refine (l01Below_any hi B 60 _ HC.out (by decide) ⟨by decide, by decide⟩).mono ?_
        rintro e w3 ⟨a3, rfl, ha3, C3, G3⟩
        go_wp2_with fail
        refine (l01Below_any hi B 60 _ C3 (by decide) ⟨by decide, by decide⟩).mono ?_
        rintro e w4 ⟨a4, rfl, ha4, C4, G4⟩
        go_wp2_with fail
        refine (l01Below_any hi B 30 _ C4 (by decide) ⟨by decide, by decide⟩).mono ?_
        rintro e w5 ⟨a5, rfl, ha5, C5, G5⟩
        have G6 := (G3.trans G4).trans G5
        have HC6 := hid C5
        have HG6 := hid (HG.out.trans G6)
        have HR6 := hid (HR.out.of (G6.block _ HR.out.lt (by simp; omega)))
        have HQ6 := hid (HQ.out.of (G6.block _ HQ.out.lt (by simp; omega)))
        have e0 := HR6.out.frozen 0
        have e1 := HR6.out.frozen 1
        have e2 := HR6.out.frozen 2
        have d0 := HR6.out.cell (i := 0) (by decide)
        have d1 := HR6.out.cell (i := 1) (by decide)
        have d2 := HR6.out.cell (i := 2) (by decide)
        have s6 := HR6.out.lt
        clear C3 G3 C4 G4 C5 G5 G6 HC HG HR HQ
        go_wp2
        go_roundw
        case rel => exact ⟨1, by omega, by go_num, _, ((HQ6.out.other (by simp) _).other (by simp) _).other (by simp) _, ((HR6.out.put1 0 _).put1 1 _).put1 2 _, ((hf.put 0 (by omega)).put 1 (by omega)).put 2 (by omega), ((HC6.out.setNew (by omega) _ _).setNew (by omega) _ _).setNew (by omega) _ _, ((HG6.out.setNew (by omega) _ _).setNew (by omega) _ _).setNew (by omega) _ _⟩
        case measure => simp [intOf]
      · go_wp2_with fail
        refine (l01Below_any hi B 60 _ HC.out (by decide) ⟨by decide, by decide⟩).mono ?_
        rintro e w3 ⟨a3, rfl, ha3, C3, G3⟩
        go_wp2_with fail
        refine (l01Below_any hi B 60 _ C3 (by decide) ⟨by decide, by decide⟩).mono ?_
        rintro e w4 ⟨a4, rfl, ha4, C4, G4⟩
        go_wp2_with fail
        refine (l01Below_any hi B 30 _ C4 (by decide) ⟨by decide, by decide⟩).mono ?_
        rintro e w5 ⟨a5, rfl, ha5, C5, G5⟩
        have G6 := (G3.trans G4).trans G5
        have HC6 := hid C5
        have HG6 := hid (HG.out.trans G6)
        have HR6 := hid (HR.out.of (G6.block _ HR.out.lt (by simp; omega)))
        have HQ6 := hid (HQ.out.of (G6.block _ HQ.out.lt (by simp; omega)))
        have e0 := HR6.out.frozen 3
        have e1 := HR6.out.frozen 4
        have e2 := HR6.out.frozen 5
        have d0 := HR6.out.cell (i := 3) (by decide)
        have d1 := HR6.out.cell (i := 4) (by decide)
        have d2 := HR6.out.cell (i := 5) (by decide)
        have s6 := HR6.out.lt
        clear C3 G3 C4 G4 C5 G5 G6 HC HG HR HQ
        go_wp2
        go_roundw
        case rel => exact ⟨2, by omega, by go_num, _, ((HQ6.out.other (by simp) _).other (by simp) _).other (by simp) _, ((HR6.out.put1 3 _).put1 4 _).put1 5 _, ((hf.put 3 (by omega)).put 4 (by omega)).put 5 (by omega), ((HC6.out.setNew (by omega) _ _).setNew (by omega) _ _).setNew (by omega) _ _, ((HG6.out.setNew (by omega) _ _).setNew (by omega) _ _).setNew (by omega) _ _⟩
        case measure => simp [intOf]
      · go_wp2_with fail
        refine (l01Below_any hi B 60 _ HC.out (by decide) ⟨by decide, by decide⟩).mono ?_
        rintro e w3 ⟨a3, rfl, ha3, C3, G3⟩
        go_wp2_with fail
        refine (l01Below_any hi B 60 _ C3 (by decide) ⟨by decide, by decide⟩).mono ?_
        rintro e w4 ⟨a4, rfl, ha4, C4, G4⟩
        go_wp2_with fail
        refine (l01Below_any hi B 30 _ C4 (by decide) ⟨by decide, by decide⟩).mono ?_
        rintro e w5 ⟨a5, rfl, ha5, C5, G5⟩
        have G6 := (G3.trans G4).trans G5
        have HC6 := hid C5
        have HG6 := hid (HG.out.trans G6)
        have HR6 := hid (HR.out.of (G6.block _ HR.out.lt (by simp; omega)))
        have HQ6 := hid (HQ.out.of (G6.block _ HQ.out.lt (by simp; omega)))
        have e0 := HR6.out.frozen 6
        have e1 := HR6.out.frozen 7
        have e2 := HR6.out.frozen 8
        have d0 := HR6.out.cell (i := 6) (by decide)
        have d1 := HR6.out.cell (i := 7) (by decide)
        have d2 := HR6.out.cell (i := 8) (by decide)
        have s6 := HR6.out.lt
        clear C3 G3 C4 G4 C5 G5 G6 HC HG HR HQ
        go_wp2
        go_roundw
        case rel => exact ⟨3, by omega, by go_num, _, ((HQ6.out.other (by simp) _).other (by simp) _).other (by simp) _, ((HR6.out.put1 6 _).put1 7 _).put1 8 _, ((hf.put 6 (by omega)).put 7 (by omega)).put 8 (by omega), ((HC6.out.setNew (by omega) _ _).setNew (by omega) _ _).setNew (by omega) _ _, ((HG6.out.setNew (by omega) _ _).setNew (by omega) _ _).setNew (by omega) _ _⟩
        case measure => simp [intOf]
      · go_wp2_with fail
        refine (l01Below_any hi B 60 _ HC.out (by decide) ⟨by decide, by decide⟩).mono ?_
        rintro e w3 ⟨a3, rfl, ha3, C3, G3⟩
        go_wp2_with fail
        refine (l01Below_any hi B 60 _ C3 (by decide) ⟨by decide, by decide⟩).mono ?_
        rintro e w4 ⟨a4, rfl, ha4, C4, G4⟩
        go_wp2_with fail
        refine (l01Below_any hi B 30 _ C4 (by decide) ⟨by decide, by decide⟩).mono ?_
        rintro e w5 ⟨a5, rfl, ha5, C5, G5⟩
        have G6 := (G3.trans G4).trans G5
        have HC6 := hid C5
        have HG6 := hid (HG.out.trans G6)
        have HR6 := hid (HR.out.of (G6.block _ HR.out.lt (by simp; omega)))
        have HQ6 := hid (HQ.out.of (G6.block _ HQ.out.lt (by simp; omega)))
        have e0 := HR6.out.frozen 9
        have e1 := HR6.out.frozen 10
        have e2 := HR6.out.frozen 11
        have d0 := HR6.out.cell (i := 9) (by decide)
        have d1 := HR6.out.cell (i := 10) (by decide)
        have d2 := HR6.out.cell (i := 11) (by decide)
        have s6 := HR6.out.lt
        clear C3 G3 C4 G4 C5 G5 G6 HC HG HR HQ
        go_wp2
        go_roundw
        case rel => exact ⟨4, by omega, by go_num, _, ((HQ6.out.other (by simp) _).other (by simp) _).other (by simp) _, ((HR6.out.put1 9 _).put1 10 _).put1 11 _, ((hf.put 9 (by omega)).put 10 (by omega)).put 11 (by omega), ((HC6.out.setNew (by omega) _ _).setNew (by omega) _ _).setNew (by omega) _ _, ((HG6.out.setNew (by omega) _ _).setNew (by omega) _ _).setNew (by omega) _ _⟩
        case measure => simp [intOf]
    · obtain rfl : k = 4 := by omega
      have d0 := HR.out.cell (i := 0) (by decide)
      have e0 := HQ.out.frozen 0
      have q0 := HQ.out.cell (i := 0) (by decide)
      have d1 := HR.out.cell (i := 1) (by decide)
      have e1 := HQ.out.frozen 1
      have q1 := HQ.out.cell (i := 1) (by decide)
      have d2 := HR.out.cell (i := 2) (by decide)
      have e2 := HQ.out.frozen 2
      have q2 := HQ.out.cell (i := 2) (by decide)
      have d3 := HR.out.cell (i := 3) (by decide)
      have e3 := HQ.out.frozen 3
      have q3 := HQ.out.cell (i := 3) (by decide)
      have d4 := HR.out.cell (i := 4) (by decide)
      have e4 := HQ.out.frozen 4
      have q4 := HQ.out.cell (i := 4) (by decide)
      have d5 := HR.out.cell (i := 5) (by decide)
      have e5 := HQ.out.frozen 5
      have q5 := HQ.out.cell (i := 5) (by decide)
      have d6 := HR.out.cell (i := 6) (by decide)
      have e6 := HQ.out.frozen 6
      have q6 := HQ.out.cell (i := 6) (by decide)
      have d7 := HR.out.cell (i := 7) (by decide)
      have e7 := HQ.out.frozen 7
      have q7 := HQ.out.cell (i := 7) (by decide)
      have d8 := HR.out.cell (i := 8) (by decide)
      have e8 := HQ.out.frozen 8
      have q8 := HQ.out.cell (i := 8) (by decide)
      have d9 := HR.out.cell (i := 9) (by decide)
      have e9 := HQ.out.frozen 9
      have q9 := HQ.out.cell (i := 9) (by decide)
      have d10 := HR.out.cell (i := 10) (by decide)
      have e10 := HQ.out.frozen 10
      have q10 := HQ.out.cell (i := 10) (by decide)
      have d11 := HR.out.cell (i := 11) (by decide)
      have e11 := HQ.out.frozen 11
      have q11 := HQ.out.cell (i := 11) (by decide)
      have zq := HQ.out.lt
      have zr := HR.out.lt
      go_wp2
      refine bodyPost_ret (v := .agg #[.int .i64 (f 0), .int .i64 (f 1), .int .i64 (f 2), .int .i64 (f 3), .int .i64 (f 4), .int .i64 (f 5), .int .i64 (f 6), .int .i64 (f 7), .int .i64 (f 8), .int .i64 (f 9), .int .i64 (f 10), .int .i64 (f 11)]) (by simp [results, Tryz.results49, go_sem, *]) rfl ?_
      exact ⟨f, rfl, hf, ((((((((((((HC.out.setNew (by omega) _ _).setNew (by omega) _ _).setNew (by omega) _ _).setNew (by omega) _ _).setNew (by omega) _ _).setNew (by omega) _ _).setNew (by omega) _ _).setNew (by omega) _ _).setNew (by omega) _ _).setNew (by omega) _ _).setNew (by omega) _ _).setNew (by omega) _ _), ((((((((((((HG.out.setNew (Nat.le_refl _) _ _).setNew (Nat.le_refl _) _ _).setNew (Nat.le_refl _) _ _).setNew (Nat.le_refl _) _ _).setNew (Nat.le_refl _) _ _).setNew (Nat.le_refl _) _ _).setNew (Nat.le_refl _) _ _).setNew (Nat.le_refl _) _ _).setNew (Nat.le_refl _) _ _).setNew (Nat.le_refl _) _ _).setNew (Nat.le_refl _) _ _).setNew (Nat.le_refl _) _ _)⟩
end Go.Proofs.YtaegmenjgjdimaaGreat
end

section
/- This text proves the points of small patches on small grids. -/
namespace Go.Proofs.YtaegmenjgjdimaaGreat
open Go.RowKit

theorem fdiv_sm {s q m : Int} (hq : 1 ≤ q) (h : -1000 * q ≤ s ∧ s ≤ 1000 * q) (hm : fdiv s q = m) : -1000 ≤ m ∧ m ≤ 1000 := by
  subst hm
  unfold fdiv
  rw [if_neg (by omega)]
  exact ⟨Int.le_ediv_of_mul_le (by omega) h.1, Int.ediv_le_of_le_mul (by omega) (by omega)⟩
set_option maxRecDepth 20000 in
set_option maxHeartbeats 12800000 in
theorem l05Mean_any (a b d e : Int) (ha : -1000 ≤ a ∧ a ≤ 1000) (hb : -1000 ≤ b ∧ b ≤ 1000) (hd : -1000 ≤ d ∧ d ≤ 1000) (he : -1000 ≤ e ∧ e ≤ 1000) (n i j : Nat) (hn : 1 ≤ n ∧ n ≤ 4) (hi : i < n) (hj : j < n) (w : World) :
    Calls Tryz.prog 114 #[.int .i64 a, .int .i64 b, .int .i64 d, .int .i64 e, .int .i64 (i : Nat), .int .i64 (j : Nat), .int .i64 (n : Nat)] w fun x w' => ∃ r, x = .returned (.int .i64 r) ∧ (-1000 ≤ r ∧ r ≤ 1000) ∧ w = w' := by
  rcases (show n = 1 ∨ n = 2 ∨ n = 3 ∨ n = 4 by omega) with rfl | rfl | rfl | rfl
  · obtain rfl : i = 0 := by omega
    obtain rfl : j = 0 := by omega
    (
      go_enter Tryz.func114, Tryz.ntmps114
      go_wp2_with fail
      refine (sFloorDiv_any _ _ _ ⟨by omega, by omega⟩).mono ?_
      rintro e1 w1 ⟨rfl, rfl⟩
      go_wp2
      go_ret
      exact ⟨_, rfl, fdiv_sm (by decide) ⟨by omega, by omega⟩ rfl, rfl⟩)
  · rcases (show i = 0 ∨ i = 1 by omega) with rfl | rfl <;> rcases (show j = 0 ∨ j = 1 by omega) with rfl | rfl <;>
    (
      go_enter Tryz.func114, Tryz.ntmps114
      go_wp2_with fail
      refine (sFloorDiv_any _ _ _ ⟨by omega, by omega⟩).mono ?_
      rintro e1 w1 ⟨rfl, rfl⟩
      go_wp2
      go_ret
      exact ⟨_, rfl, fdiv_sm (by decide) ⟨by omega, by omega⟩ rfl, rfl⟩)
  · rcases (show i = 0 ∨ i = 1 ∨ i = 2 by omega) with rfl | rfl | rfl <;> rcases (show j = 0 ∨ j = 1 ∨ j = 2 by omega) with rfl | rfl | rfl <;>
    (
      go_enter Tryz.func114, Tryz.ntmps114
      go_wp2_with fail
      refine (sFloorDiv_any _ _ _ ⟨by omega, by omega⟩).mono ?_
      rintro e1 w1 ⟨rfl, rfl⟩
      go_wp2
      go_ret
      exact ⟨_, rfl, fdiv_sm (by decide) ⟨by omega, by omega⟩ rfl, rfl⟩)
  · rcases (show i = 0 ∨ i = 1 ∨ i = 2 ∨ i = 3 by omega) with rfl | rfl | rfl | rfl <;> rcases (show j = 0 ∨ j = 1 ∨ j = 2 ∨ j = 3 by omega) with rfl | rfl | rfl | rfl <;>
    (
      go_enter Tryz.func114, Tryz.ntmps114
      go_wp2_with fail
      refine (sFloorDiv_any _ _ _ ⟨by omega, by omega⟩).mono ?_
      rintro e1 w1 ⟨rfl, rfl⟩
      go_wp2
      go_ret
      exact ⟨_, rfl, fdiv_sm (by decide) ⟨by omega, by omega⟩ rfl, rfl⟩)

theorem cl_small {x : Int} (h : -1000 ≤ x ∧ x ≤ 1000) : cl x = x := by
  have := (cl_fix x).2 (inB_iff.2 ⟨by omega, by omega⟩)
  exact this.symm
end Go.Proofs.YtaegmenjgjdimaaGreat
end

section
/- This text proves what the reference's EvalPatch and IsValidPatch do with small patches. -/
namespace Go.Proofs.YtaegmenjgjdimaaGreat
open Go.RowKit

theorem row12_new {w : World} {b : Nat} {t : TypeId} {f : Nat → Int} (hb : w.heap.size = b) : RowI (w.alloc (.cells #[.int .i64 (f 0), .int .i64 (f 1), .int .i64 (f 2), .int .i64 (f 3), .int .i64 (f 4), .int .i64 (f 5), .int .i64 (f 6), .int .i64 (f 7), .int .i64 (f 8), .int .i64 (f 9), .int .i64 (f 10), .int .i64 (f 11)] t)) b t 12 f :=
  hb ▸ World.rowIs_alloc _ _ _ _ fun i hi => by rcases twelve1 hi with h | h | h | h | h | h | h | h | h | h | h | h <;> subst h <;> rfl
set_option maxRecDepth 20000 in
set_option maxHeartbeats 6400000 in
theorem sEvalPatch_any (f : Nat → Int) (hf : SmF f) (n i j : Nat) (hn : 1 ≤ n ∧ n ≤ 4) (hi : i < n) (hj : j < n) (w : World) :
    Calls Tryz.prog 84 #[.agg #[.int .i64 (f 0), .int .i64 (f 1), .int .i64 (f 2), .int .i64 (f 3), .int .i64 (f 4), .int .i64 (f 5), .int .i64 (f 6), .int .i64 (f 7), .int .i64 (f 8), .int .i64 (f 9), .int .i64 (f 10), .int .i64 (f 11)], .int .i64 (i : Nat), .int .i64 (j : Nat), .int .i64 (n : Nat)] w fun e w' => ∃ x y z : Int, e = .returned (.agg #[.int .i64 x, .int .i64 y, .int .i64 z]) ∧ (-1000 ≤ x ∧ x ≤ 1000) ∧ (-1000 ≤ y ∧ y ≤ 1000) ∧ (-1000 ≤ z ∧ z ≤ 1000) ∧ Ext w w' := by
  have r0 := row12_new (w := w) (t := 109) (f := f) rfl
  have q0 := (Blk.new (w.alloc (.cells #[.int .i64 (f 0), .int .i64 (f 1), .int .i64 (f 2), .int .i64 (f 3), .int .i64 (f 4), .int .i64 (f 5), .int .i64 (f 6), .int .i64 (f 7), .int .i64 (f 8), .int .i64 (f 9), .int .i64 (f 10), .int .i64 (f 11)] 109)) 106 [.int .i64 0, .int .i64 0, .int .i64 0])
  rw [World.size_alloc] at q0
  have x0 : Ext w ((w.alloc (.cells #[.int .i64 (f 0), .int .i64 (f 1), .int .i64 (f 2), .int .i64 (f 3), .int .i64 (f 4), .int .i64 (f 5), .int .i64 (f 6), .int .i64 (f 7), .int .i64 (f 8), .int .i64 (f 9), .int .i64 (f 10), .int .i64 (f 11)] 109)).alloc (.cells #[.int .i64 0, .int .i64 0, .int .i64 0] 106)) := (by repeat (with_reducible (first | assumption | exact Ext.refl _ | apply Ext.alloc | apply Ext.drew | apply Ext.drewN)))
  have R0 := hid (r0.alloc (.cells #[.int .i64 0, .int .i64 0, .int .i64 0] 106))
  have Q0 := hid q0
  have X0 := hid x0
  have hnb : inB ((n : Nat) : Int) 1 64 = true := inB_iff.2 ⟨by omega, by omega⟩
  have hib : inB ((i : Nat) : Int) 0 ((n : Nat) : Int) = true := inB_iff.2 ⟨by omega, by omega⟩
  have hjb : inB ((j : Nat) : Int) 0 ((n : Nat) : Int) = true := inB_iff.2 ⟨by omega, by omega⟩
  have HN := hid hnb
  have HI := hid hib
  have HJ := hid hjb
  clear r0 q0 x0 hnb hib hjb
  go_enter Tryz.func84, Tryz.ntmps84
  go_wp2_with fail
  refine (l02V_val (cl_small (hf 0)) (cl_small (hf 1)) (cl_small (hf 2)) _).mono ?_
  rintro e w1 ⟨rfl, x1⟩
  have y1 : Ext w1 (w1.alloc (.cells #[.int .i64 (f 0), .int .i64 (f 1), .int .i64 (f 2)] 106)) := (by repeat (with_reducible (first | assumption | exact Ext.refl _ | apply Ext.alloc | apply Ext.drew | apply Ext.drewN)))
  have b1 := Blk.new w1 106 [.int .i64 (f 0), .int .i64 (f 1), .int .i64 (f 2)]
  have R1 := hid ((R0.out.ext x1).ext y1)
  have Q1 := hid ((Q0.out.ext x1).ext y1)
  have X1 := hid ((X0.out.trans x1).trans y1)
  have B11 := hid b1
  have c3 := R1.out.cell (i := 3) (by decide)
  have c4 := R1.out.cell (i := 4) (by decide)
  have c5 := R1.out.cell (i := 5) (by decide)
  clear R0 Q0 X0 x1 y1 b1
  go_wp2_with fail
  refine (l02V_val (cl_small (hf 3)) (cl_small (hf 4)) (cl_small (hf 5)) _).mono ?_
  rintro e w2 ⟨rfl, x2⟩
  have y2 : Ext w2 (w2.alloc (.cells #[.int .i64 (f 3), .int .i64 (f 4), .int .i64 (f 5)] 106)) := (by repeat (with_reducible (first | assumption | exact Ext.refl _ | apply Ext.alloc | apply Ext.drew | apply Ext.drewN)))
  have b2 := Blk.new w2 106 [.int .i64 (f 3), .int .i64 (f 4), .int .i64 (f 5)]
  have R2 := hid ((R1.out.ext x2).ext y2)
  have Q2 := hid ((Q1.out.ext x2).ext y2)
  have X2 := hid ((X1.out.trans x2).trans y2)
  have B12 := hid ((B11.out.ext x2).ext y2)
  have B22 := hid b2
  have c6 := R2.out.cell (i := 6) (by decide)
  have c7 := R2.out.cell (i := 7) (by decide)
  have c8 := R2.out.cell (i := 8) (by decide)
  clear R1 Q1 X1 x2 y2 b2 B11 c3 c4 c5
  go_wp2_with fail
  refine (l02V_val (cl_small (hf 6)) (cl_small (hf 7)) (cl_small (hf 8)) _).mono ?_
  rintro e w3 ⟨rfl, x3⟩
  have y3 : Ext w3 (w3.alloc (.cells #[.int .i64 (f 6), .int .i64 (f 7), .int .i64 (f 8)] 106)) := (by repeat (with_reducible (first | assumption | exact Ext.refl _ | apply Ext.alloc | apply Ext.drew | apply Ext.drewN)))
  have b3 := Blk.new w3 106 [.int .i64 (f 6), .int .i64 (f 7), .int .i64 (f 8)]
  have R3 := hid ((R2.out.ext x3).ext y3)
  have Q3 := hid ((Q2.out.ext x3).ext y3)
  have X3 := hid ((X2.out.trans x3).trans y3)
  have B13 := hid ((B12.out.ext x3).ext y3)
  have B23 := hid ((B22.out.ext x3).ext y3)
  have B33 := hid b3
  have c9 := R3.out.cell (i := 9) (by decide)
  have c10 := R3.out.cell (i := 10) (by decide)
  have c11 := R3.out.cell (i := 11) (by decide)
  clear R2 Q2 X2 x3 y3 b3 B12 B22 c6 c7 c8
  go_wp2_with fail
  refine (l02V_val (cl_small (hf 9)) (cl_small (hf 10)) (cl_small (hf 11)) _).mono ?_
  rintro e w4 ⟨rfl, x4⟩
  have y4 : Ext w4 (w4.alloc (.cells #[.int .i64 (f 9), .int .i64 (f 10), .int .i64 (f 11)] 106)) := (by repeat (with_reducible (first | assumption | exact Ext.refl _ | apply Ext.alloc | apply Ext.drew | apply Ext.drewN)))
  have b4 := Blk.new w4 106 [.int .i64 (f 9), .int .i64 (f 10), .int .i64 (f 11)]
  have Q4 := hid (Q3.out.ext x4)
  have X4 := hid (X3.out.trans x4)
  have B14 := hid (B13.out.ext x4)
  have B24 := hid (B23.out.ext x4)
  have B34 := hid (B33.out.ext x4)
  have l0 := Q4.out.lt
  have l1 := B14.out.lt
  have l2 := B24.out.lt
  have l3 := B34.out.lt
  have g0 := Q4.out.free 0
  have g1 := Q4.out.free 1
  have g2 := Q4.out.free 2
  have o0 := Q4.out.cell 0 rfl
  have o1 := Q4.out.cell 1 rfl
  have o2 := Q4.out.cell 2 rfl
  have p0 := B14.out.cell 0 rfl
  have p1 := B14.out.cell 1 rfl
  have p2 := B14.out.cell 2 rfl
  have q0 := B24.out.cell 0 rfl
  have q1 := B24.out.cell 1 rfl
  have q2 := B24.out.cell 2 rfl
  have r0 := B34.out.cell 0 rfl
  have r1 := B34.out.cell 1 rfl
  have r2 := B34.out.cell 2 rfl
  have zx := X4.out.size
  clear R3 Q3 X3 x4 y4 b4 B13 B23 B33 c9 c10 c11
  go_wp2_with fail
  refine (l01In_val HN.out _).mono ?_
  rintro e w5 ⟨rfl, rfl⟩
  go_wp2_with fail
  refine (l01In_val HI.out _).mono ?_
  rintro e w5 ⟨rfl, rfl⟩
  go_wp2_with fail
  refine (l01In_val HJ.out _).mono ?_
  rintro e w5 ⟨rfl, rfl⟩
  go_wp2_with fail
  refine wp_region_stages [([0, 1, 2, 3, 4, 5, 6, 7, 8, 9, 10, 12, 13, 14, 15, 16, 17, 18, 19, 20, 21, 22, 24, 25, 26, 27, 28, 29, 30, 31, 32, 33, 34], 11), ([], 23), ([], 35), ([36], 37)] 37 (w4.heap.size + 1) (by kernel_rfl) (by kernel_rfl) ?_
  refine wpStages_cons ?_
  simp only [List.filterMap_cons, List.filterMap_nil, List.getElem?_toArray, List.getElem?_cons_zero, List.getElem?_cons_succ]
  show wpQuiet _ _ _ _ (_ :: _ :: _ :: _ :: _ :: _ :: _ :: _ :: _ :: _ :: _ :: _ :: _ :: _ :: _ :: _ :: _ :: _ :: _ :: _ :: _ :: _ :: _ :: _ :: _ :: _ :: _ :: _ :: _ :: _ :: _ :: _ :: _ :: []) _
  repeat (go_big_quiet_step (fail))
  refine wpQuiet_nil ⟨_, rfl, fun K hK => ?_⟩
  go_wp2_with fail
  refine (l05Mean_any _ _ _ _ (hf 0) (hf 3) (hf 6) (hf 9) n i j hn hi hj _).mono ?_
  rintro e w5 ⟨m1, rfl, hm1, rfl⟩
  go_wp2_with fail
  refine hK _ _ (.inr (fun k _ hk => Ext.block (by repeat (with_reducible (first | assumption | exact Ext.refl _ | apply Ext.alloc | apply Ext.drew | apply Ext.drewN))) (by first | omega | (simp; omega)))) ?_
  clear hK K
  refine wpStages_cons ?_
  simp only [List.filterMap_nil]
  show wpQuiet _ _ _ _ [] _
  try simp only [Act.put, List.setIfInBounds_toArray, List.set_cons_succ, List.set_cons_zero]
  repeat (go_big_quiet_step (fail))
  refine wpQuiet_nil ⟨_, rfl, fun K hK => ?_⟩
  go_wp2_with fail
  refine (l05Mean_any _ _ _ _ (hf 1) (hf 4) (hf 7) (hf 10) n i j hn hi hj _).mono ?_
  rintro e w5 ⟨m2, rfl, hm2, rfl⟩
  go_wp2_with fail
  refine hK _ _ (.inr (fun k _ hk => Ext.block (by repeat (with_reducible (first | assumption | exact Ext.refl _ | apply Ext.alloc | apply Ext.drew | apply Ext.drewN))) (by first | omega | (simp; omega)))) ?_
  clear hK K
  refine wpStages_cons ?_
  simp only [List.filterMap_nil]
  show wpQuiet _ _ _ _ [] _
  try simp only [Act.put, List.setIfInBounds_toArray, List.set_cons_succ, List.set_cons_zero]
  repeat (go_big_quiet_step (fail))
  refine wpQuiet_nil ⟨_, rfl, fun K hK => ?_⟩
  go_wp2_with fail
  refine (l05Mean_any _ _ _ _ (hf 2) (hf 5) (hf 8) (hf 11) n i j hn hi hj _).mono ?_
  rintro e w5 ⟨m3, rfl, hm3, rfl⟩
  go_wp2_with fail
  refine hK _ _ (.inr (fun k _ hk => Ext.block (by repeat (with_reducible (first | assumption | exact Ext.refl _ | apply Ext.alloc | apply Ext.drew | apply Ext.drewN))) (by first | omega | (simp; omega)))) ?_
  clear hK K
  refine wpStages_cons ?_
  simp only [List.filterMap_cons, List.filterMap_nil, List.getElem?_toArray, List.getElem?_cons_zero, List.getElem?_cons_succ]
  show wpQuiet _ _ _ _ [_] _
  try simp only [Act.put, List.setIfInBounds_toArray, List.set_cons_succ, List.set_cons_zero]
  repeat (go_big_quiet_step (fail))
  refine wpQuiet_nil ⟨_, rfl, fun K hK => ?_⟩
  go_wp2_with fail
  refine hK _ _ (.inl trivial) ?_
  clear hK K
  refine wpStages_nil ?_
  go_wp2
  refine bodyPost_ret (v := .agg #[.int .i64 m1, .int .i64 m2, .int .i64 m3]) (by simp [results, Tryz.results84, go_sem, *]) rfl ?_
  have X4o := X4.out
  exact ⟨m1, m2, m3, rfl, hm1, hm2, hm3, (by repeat (first | with_reducible assumption | with_reducible exact Ext.refl _ | with_reducible apply Ext.alloc | with_reducible apply Ext.drew | with_reducible apply Ext.drewN | (with_reducible refine Ext.setCell ?_ (by simp; omega) _) | (with_reducible refine Ext.setCell ?_ (by simp) _)))⟩
set_option maxRecDepth 20000 in
set_option maxHeartbeats 6400000 in
theorem sIsValidPatch_small (f : Nat → Int) (hf : SmF f) (w : World) :
    Calls Tryz.prog 81 #[.agg #[.int .i64 (f 0), .int .i64 (f 1), .int .i64 (f 2), .int .i64 (f 3), .int .i64 (f 4), .int .i64 (f 5), .int .i64 (f 6), .int .i64 (f 7), .int .i64 (f 8), .int .i64 (f 9), .int .i64 (f 10), .int .i64 (f 11)]] w fun e w' => e = .returned (.bool true) ∧ Ext w w' := by
  have i0 : ∀ w : World, (Instr.index 107 (.agg #[.int .i64 (f 0), .int .i64 (f 1), .int .i64 (f 2), .int .i64 (f 3), .int .i64 (f 4), .int .i64 (f 5), .int .i64 (f 6), .int .i64 (f 7), .int .i64 (f 8), .int .i64 (f 9), .int .i64 (f 10), .int .i64 (f 11)]) (.int .i64 0)).run Tryz.prog w = .ok (.agg #[.int .i64 (f 0), .int .i64 (f 1), .int .i64 (f 2)]) w := fun _ => by kernel_rfl
  have i1 : ∀ w : World, (Instr.index 107 (.agg #[.int .i64 (f 0), .int .i64 (f 1), .int .i64 (f 2), .int .i64 (f 3), .int .i64 (f 4), .int .i64 (f 5), .int .i64 (f 6), .int .i64 (f 7), .int .i64 (f 8), .int .i64 (f 9), .int .i64 (f 10), .int .i64 (f 11)]) (.int .i64 1)).run Tryz.prog w = .ok (.agg #[.int .i64 (f 3), .int .i64 (f 4), .int .i64 (f 5)]) w := fun _ => by kernel_rfl
  have i2 : ∀ w : World, (Instr.index 107 (.agg #[.int .i64 (f 0), .int .i64 (f 1), .int .i64 (f 2), .int .i64 (f 3), .int .i64 (f 4), .int .i64 (f 5), .int .i64 (f 6), .int .i64 (f 7), .int .i64 (f 8), .int .i64 (f 9), .int .i64 (f 10), .int .i64 (f 11)]) (.int .i64 2)).run Tryz.prog w = .ok (.agg #[.int .i64 (f 6), .int .i64 (f 7), .int .i64 (f 8)]) w := fun _ => by kernel_rfl
  have i3 : ∀ w : World, (Instr.index 107 (.agg #[.int .i64 (f 0), .int .i64 (f 1), .int .i64 (f 2), .int .i64 (f 3), .int .i64 (f 4), .int .i64 (f 5), .int .i64 (f 6), .int .i64 (f 7), .int .i64 (f 8), .int .i64 (f 9), .int .i64 (f 10), .int .i64 (f 11)]) (.int .i64 3)).run Tryz.prog w = .ok (.agg #[.int .i64 (f 9), .int .i64 (f 10), .int .i64 (f 11)]) w := fun _ => by kernel_rfl
  go_enter Tryz.func81, Tryz.ntmps81
  go_wp2
  go_loopw [7] (fun i wr => ∃ k : Nat, k ≤ 4 ∧ i = .int .i64 (k : Nat) ∧ Ext w wr) (fun i _ => 4 - (intOf i).toNat)
  case atStart => exact ⟨0, by omega, rfl, (by repeat (first | with_reducible assumption | with_reducible exact Ext.refl _ | with_reducible apply Ext.alloc | with_reducible apply Ext.drew | with_reducible apply Ext.drewN | (with_reducible refine Ext.setCell ?_ (by simp; omega) _) | (with_reducible refine Ext.setCell ?_ (by simp) _)))⟩
  case round =>
    obtain ⟨k, hk, rfl, hx⟩ := hrel
    have HX := hid hx
    clear hx
    by_cases hlt : k < 4
    · have hk4 : k = 0 ∨ k = 1 ∨ k = 2 ∨ k = 3 := by omega
      rcases hk4 with h | h | h | h <;> subst h
      · have hv : okVec (f 0) (f 1) (f 2) = true := by
          have h0 := hf 0
          have h1 := hf 1
          have h2 := hf 2
          unfold okVec
          rw [inB_iff.2 ⟨by omega, by omega⟩, inB_iff.2 ⟨by omega, by omega⟩, inB_iff.2 ⟨by omega, by omega⟩]
          rfl
        have HV := hid hv
        clear hv
        go_wp2_with fail
        refine (sIsValidVec_val _).mono ?_
        rintro e w3 ⟨rfl, x3⟩
        rw [HV.out]
        have HX3 := hid (Ext.trans (Ext.trans HX.out (by repeat (with_reducible (first | assumption | exact Ext.refl _ | apply Ext.alloc | apply Ext.drew | apply Ext.drewN)))) x3)
        clear HX x3
        go_wp2
        go_roundw
        case rel => exact ⟨1, by omega, by go_num, HX3.out⟩
        case measure => simp [intOf]
      · have hv : okVec (f 3) (f 4) (f 5) = true := by
          have h0 := hf 3
          have h1 := hf 4
          have h2 := hf 5
          unfold okVec
          rw [inB_iff.2 ⟨by omega, by omega⟩, inB_iff.2 ⟨by omega, by omega⟩, inB_iff.2 ⟨by omega, by omega⟩]
          rfl
        have HV := hid hv
        clear hv
        go_wp2_with fail
        refine (sIsValidVec_val _).mono ?_
        rintro e w3 ⟨rfl, x3⟩
        rw [HV.out]
        have HX3 := hid (Ext.trans (Ext.trans HX.out (by repeat (with_reducible (first | assumption | exact Ext.refl _ | apply Ext.alloc | apply Ext.drew | apply Ext.drewN)))) x3)
        clear HX x3
        go_wp2
        go_roundw
        case rel => exact ⟨2, by omega, by go_num, HX3.out⟩
        case measure => simp [intOf]
      · have hv : okVec (f 6) (f 7) (f 8) = true := by
          have h0 := hf 6
          have h1 := hf 7
          have h2 := hf 8
          unfold okVec
          rw [inB_iff.2 ⟨by omega, by omega⟩, inB_iff.2 ⟨by omega, by omega⟩, inB_iff.2 ⟨by omega, by omega⟩]
          rfl
        have HV := hid hv
        clear hv
        go_wp2_with fail
        refine (sIsValidVec_val _).mono ?_
        rintro e w3 ⟨rfl, x3⟩
        rw [HV.out]
        have HX3 := hid (Ext.trans (Ext.trans HX.out (by repeat (with_reducible (first | assumption | exact Ext.refl _ | apply Ext.alloc | apply Ext.drew | apply Ext.drewN)))) x3)
        clear HX x3
        go_wp2
        go_roundw
        case rel => exact ⟨3, by omega, by go_num, HX3.out⟩
        case measure => simp [intOf]
      · have hv : okVec (f 9) (f 10) (f 11) = true := by
          have h0 := hf 9
          have h1 := hf 10
          have h2 := hf 11
          unfold okVec
          rw [inB_iff.2 ⟨by omega, by omega⟩, inB_iff.2 ⟨by omega, by omega⟩, inB_iff.2 ⟨by omega, by omega⟩]
          rfl
        have HV := hid hv
        clear hv
        go_wp2_with fail
        refine (sIsValidVec_val _).mono ?_
        rintro e w3 ⟨rfl, x3⟩
        rw [HV.out]
        have HX3 := hid (Ext.trans (Ext.trans HX.out (by repeat (with_reducible (first | assumption | exact Ext.refl _ | apply Ext.alloc | apply Ext.drew | apply Ext.drewN)))) x3)
        clear HX x3
        go_wp2
        go_roundw
        case rel => exact ⟨4, by omega, by go_num, HX3.out⟩
        case measure => simp [intOf]
    · obtain rfl : k = 4 := by omega
      go_wp2
      go_ret
      exact ⟨rfl, HX.out⟩
end Go.Proofs.YtaegmenjgjdimaaGreat
end

section
/- This text proves the reference's GridOf at small patches and rates. -/
namespace Go.Proofs.YtaegmenjgjdimaaGreat
open Go.RowKit

/-- a point of a grid -/
structure Pt where
  u : Int
  v : Int
  x : Int
  y : Int
  z : Int
def Pt.ls (p : Pt) : List Int := [p.u, p.v, p.x, p.y, p.z]
def Pt.cs (p : Pt) : List Value := [.int .i64 p.u, .int .i64 p.v, .int .i64 p.x, .int .i64 p.y, .int .i64 p.z]
def Pt.Sm (p : Pt) : Prop := ∀ x ∈ p.ls, -1000 ≤ x ∧ x ≤ 1000
def OwnPts (lo : Nat) (w : World) (v : Value) (xs : List Pt) : Prop := OwnG Pt.cs lo 157 5 w v xs
theorem info_PointT : (Tryz.prog.info? 157).map (fun i => (i.zero, i.size, i.bytes)) = some (some (.agg #[.int .i64 0, .int .i64 0, .int .i64 0, .int .i64 0, .int .i64 0]), 5, 40) := by kernel_rfl
theorem wpList_append_pt (w : World) {ops : Array Oper} {rest : List Oper} {o : Oper} {a : Act} {Q : Exit → Act → World → Prop} (hg : o.guard = none) (s x : Operand)
    (hop : o.op = Op.call { callee := Callee.builtin Builtin.append, args := #[s, x], argTypes := #[28, 28] }) (lo : Nat) (v : Value) (xs : List Pt) (hs : a.eval s = v) (hown : OwnPts lo w v xs)
    (y : Pt) (b : Nat) (hx : a.eval x = .slice (some ⟨b, 0, none⟩) 1 1) (hcell : ∀ j, j < 5 → w.cell? ⟨b, j, none⟩ = y.cs[j]?) (hlen : xs.length < 1000000) (hlo : lo ≤ w.heap.size)
    (hK : ∀ v' w', OwnPts lo w' v' (xs ++ [y]) → w.grownBy w' v.ownBlock → wpList Tryz.prog ops Q rest (a.put o.dst v') w') : wpList Tryz.prog ops Q (o :: rest) a w := by
  refine wpList_append_elt Pt.cs 157 5 40 _ w hg s x 28 hop Tryz.underlying28 info_PointT rfl (by decide) (by decide) (fun _ => rfl) lo v xs hs hown y b hx hcell ?_ hlen hlo hK
  intro u hu
  simp only [Pt.cs, List.mem_cons, List.not_mem_nil, or_false] at hu
  rcases hu with rfl | rfl | rfl | rfl | rfl <;> rfl
/-- the points' numbers in a row -/
def ptF (ps : List Pt) (k : Nat) : Int := match ps[k / 5]? with | some p => p.ls.getD (k % 5) 0 | none => 0
theorem ptF_small {ps : List Pt} (h : ∀ p ∈ ps, p.Sm) (k : Nat) : -1000 ≤ ptF ps k ∧ ptF ps k ≤ 1000 := by
  unfold ptF
  cases hp : ps[k / 5]? with
  | none => exact ⟨show (-1000 : Int) ≤ 0 by decide, show (0 : Int) ≤ 1000 by decide⟩
  | some p =>
    have hm := h p (List.mem_of_getElem? hp)
    have hl : k % 5 < p.ls.length := by
      have := Nat.mod_lt k (show 0 < 5 by decide)
      exact this
    show -1000 ≤ p.ls.getD (k % 5) 0 ∧ p.ls.getD (k % 5) 0 ≤ 1000
    rw [List.getD_eq_getElem?_getD, List.getElem?_eq_getElem hl]
    exact hm _ (List.getElem_mem hl)
theorem Pt.cs_at (p : Pt) {j : Nat} (hj : j < 5) : p.cs[j]? = some (.int .i64 (p.ls.getD j 0)) := by
  rcases (show j = 0 ∨ j = 1 ∨ j = 2 ∨ j = 3 ∨ j = 4 by omega) with rfl | rfl | rfl | rfl | rfl <;> rfl
theorem OwnPts.flats {lo : Nat} {w : World} {v : Value} {ps : List Pt} (h : OwnPts lo w v ps) (hs : ∀ p ∈ ps, p.Sm) : Flats 5 lo w.heap.size w v ps.length (ptF ps) := by
  obtain ⟨a, c, rfl, _⟩ := OwnG.form h
  have hc : ps.length ≤ c ∧ c ≤ maxLen := by
    rcases h.2 with ⟨e, h4⟩ | ⟨g, cap, cur, e, hb, hh, hc, hm, _⟩
    · simp only [Value.slice.injEq] at e
      obtain ⟨rfl, e2, rfl⟩ := e
      exact ⟨by omega, by unfold maxLen; omega⟩
    · simp only [Value.slice.injEq] at e
      obtain ⟨rfl, e2, rfl⟩ := e
      exact ⟨hc, hm⟩
  refine ⟨a, c, rfl, hc.1, hc.2, fun i hi => ?_⟩
  have hk : i / 5 < ps.length := by omega
  obtain ⟨g, cap, e, g1, g2, _, _, _, hcell⟩ := OwnG.at h (fun _ => rfl) (List.getElem?_eq_getElem hk)
  simp only [Value.slice.injEq] at e
  obtain ⟨rfl, _, rfl⟩ := e
  have hm := Nat.mod_lt i (show 0 < 5 by decide)
  have hb := ptF_small hs i
  refine ⟨⟨by omega, by omega⟩, g, 0, rfl, g1, g2, ?_⟩
  have h1 := hcell (i % 5) hm
  rw [Pt.cs_at _ hm] at h1
  have e1 : i / 5 * 5 + i % 5 = 0 + i := by omega
  rw [e1] at h1
  rw [h1]
  unfold ptF
  rw [List.getElem?_eq_getElem hk]
theorem inB_sm {x : Int} (h : -1000 ≤ x ∧ x ≤ 1000) : inB x (-1000000) 1000000 = true := inB_iff.2 ⟨by omega, by omega⟩
theorem ptB_small {ps : List Pt} (h : ∀ p ∈ ps, p.Sm) (k : Nat) : ptB (ptF ps) k = true := by
  unfold ptB
  rw [List.all_eq_true]
  intro x hx
  simp only [ptL, List.mem_cons, List.not_mem_nil, or_false] at hx
  rcases hx with rfl | rfl | rfl | rfl | rfl <;> exact inB_sm (ptF_small h _)
end Go.Proofs.YtaegmenjgjdimaaGreat
end

section
/- This text proves the reference's GridOf at small patches and rates. -/
namespace Go.Proofs.YtaegmenjgjdimaaGreat
open Go.RowKit

/-- the memory of the reference's GridOf -/
structure GSt (lo n : Nat) (tm : Int) (t : Tex) (f : Nat → Int) (A P Q : Nat) (tu : Value) (w wr : World) (ps : List Pt) (pu : Value) : Prop where
  ext : Ext w wr
  pat : RowI wr P 109 12 f
  res : Blk wr Q 33 [.int .i64 0, .slice none 0 0, .int .i64 0, .int .i64 0, .slice none 0 0]
  box : Blk wr A 33 [.int .i64 (n : Nat), pu, .int .i64 tm, .int .i64 t.log, tu]
  pts : OwnPts lo wr pu ps
  tex : OwnInts lo wr tu t.px
  sm : ∀ p ∈ ps, p.Sm
theorem GSt.to {lo n : Nat} {tm : Int} {t : Tex} {f : Nat → Int} {A P Q : Nat} {tu pu : Value} {w wr w' : World} {ps : List Pt} (h : GSt lo n tm t f A P Q tu w wr ps pu) (x : Ext wr w') : GSt lo n tm t f A P Q tu w w' ps pu :=
  ⟨h.ext.trans x, h.pat.ext x, h.res.ext x, h.box.ext x, OwnG.ext h.pts x, h.tex.ext x, h.sm⟩
theorem OwnG.rowT {α : Type} {cs : α → List Value} {lo : Nat} {e : TypeId} {sz : Nat} {w : World} {v : Value} {xs : List α} (h : OwnG cs lo e sz w v xs) : ∀ k, v.ownBlock = some k → lo ≤ k ∧ ∃ c, w.heap[k]? = some (.cells c e (0, 0)) := by
  intro k hk
  rcases h.2 with ⟨rfl, h4⟩ | ⟨g, cap, cur, rfl, hb, hg, _⟩
  · cases hk
  · simp only [Value.ownBlock, Option.some.injEq] at hk
    subst hk
    exact ⟨hb, cur, hg⟩
theorem GSt.grow {lo n : Nat} {tm : Int} {t : Tex} {f : Nat → Int} {A P Q : Nat} {tu pu pu' : Value} {w wr w' : World} {ps ps' : List Pt} (h : GSt lo n tm t f A P Q tu w wr ps pu) (hP : P < lo) (hQ : Q < lo) (hA : lo ≤ A) (hw : w.heap.size ≤ lo) (hg : wr.grownBy w' pu.ownBlock) (hown : OwnPts lo w' pu' ps') (hs : ∀ p ∈ ps', p.Sm) : GSt lo n tm t f A P Q tu w (w'.setCell ⟨A, 1, none⟩ pu') ps' pu' := by
  have hr := OwnG.rowT h.pts
  have hB := h.box.grown hg (fun e => by
    obtain ⟨_, c, hc⟩ := hr A e.symm
    have hb := h.box
    unfold Blk at hb
    rw [hb] at hc
    simp only [Option.some.injEq, Obj.cells.injEq] at hc
    exact absurd hc.2.1 (by decide))
  have hT := h.tex.grown hg (fun k hk e => by
    obtain ⟨_, c, hc⟩ := hr k e.symm
    obtain ⟨c', hc'⟩ := h.tex.block hk
    rw [hc'] at hc
    simp only [Option.some.injEq, Obj.cells.injEq] at hc
    exact absurd hc.2.1 (by decide))
  refine ⟨Ext.setCell (Ext.grown h.ext hg (fun k hk => by have := (hr k hk).1; omega)) (by simp only; omega) _, (h.pat.of (hg.block _ h.pat.lt (fun e => by have := (hr _ e.symm).1; omega))).other (by simp only; omega) _, (h.res.grown hg (fun e => by have := (hr _ e.symm).1; omega)).other (by simp only; omega) _, hB.set 1 _, OwnG.set hown hB (by decide) 1 _, hT.setOther (fun e => ?_) _, hs⟩
  obtain ⟨c, hc⟩ := hT.block e
  unfold Blk at hB
  simp only at hc
  rw [hB] at hc
  simp only [Option.some.injEq, Obj.cells.injEq] at hc
  exact absurd hc.2.1 (by decide)
theorem set5_same {lo hi Q : Nat} (w : World) (hQ : Q < lo) (a b c d e : Value) : Same lo hi w (((((w.setCell ⟨Q, 0, none⟩ a).setCell ⟨Q, 1, none⟩ b).setCell ⟨Q, 2, none⟩ c).setCell ⟨Q, 3, none⟩ d).setCell ⟨Q, 4, none⟩ e) := fun k h1 _ => by
  have hk : Q ≠ k := by omega
  rw [Below.heap_setCell _ _ _ _ (by exact hk.symm), Below.heap_setCell _ _ _ _ (by exact hk.symm), Below.heap_setCell _ _ _ _ (by exact hk.symm), Below.heap_setCell _ _ _ _ (by exact hk.symm), Below.heap_setCell _ _ _ _ (by exact hk.symm)]
theorem uv_sm {i n : Nat} (h1 : 1 ≤ n) (h : i < n) : -1000 ≤ ((i : Int) * 256 / (n : Int)) ∧ ((i : Int) * 256 / (n : Int)) ≤ 1000 := by
  have h0 : 0 ≤ ((i : Int) * 256 / (n : Int)) := Int.ediv_nonneg (by omega) (by omega)
  exact ⟨by omega, Int.ediv_le_of_le_mul (by omega) (by omega)⟩
set_option maxRecDepth 20000 in
set_option maxHeartbeats 6400000 in
theorem sGridOf_any (lo hi : Nat) (f : Nat → Int) (hf : SmF f) (n : Nat) (hn : 1 ≤ n ∧ n ≤ 4) (tm : Int) (htm : 0 ≤ tm ∧ tm ≤ 256) (tv : Value) (t : Tex) (w : World) (ht : TexR lo hi w tv t) (hh : hi ≤ w.heap.size) (hok : t.Ok) :
    Calls Tryz.prog 48 #[.agg #[.int .i64 (f 0), .int .i64 (f 1), .int .i64 (f 2), .int .i64 (f 3), .int .i64 (f 4), .int .i64 (f 5), .int .i64 (f 6), .int .i64 (f 7), .int .i64 (f 8), .int .i64 (f 9), .int .i64 (f 10), .int .i64 (f 11)], .int .i64 (n : Nat), .int .i64 tm, tv] w fun e w' => ∃ (g : Grd) (v : Value), e = .returned (.tuple #[v, .bool true]) ∧ g.R w.heap.size w'.heap.size w' v ∧ g.okB = true ∧ Ext w w' := by
  have HT := hid ht
  obtain ⟨tu, rfl, tlog, hu⟩ := ht
  obtain ⟨a, cap, rfl, HU⟩ := hu.open
  have l1 := HU.le
  have l2 := HU.cap
  have hpx1 : 1 ≤ t.px.length := by rw [hok.len]; exact Nat.mul_pos hok.n_pos hok.n_pos
  have hpx2 : t.px.length ≤ 256 := by rw [hok.len]; exact Nat.mul_le_mul hok.n_le hok.n_le
  obtain ⟨_, bx, off, rfl, _, hbx, _⟩ := HU.cell 0 _ (List.getElem?_eq_getElem (by omega))
  have hnb : inB ((n : Nat) : Int) 1 8 = true := inB_iff.2 ⟨by omega, by omega⟩
  have htb : inB tm 0 256 = true := inB_iff.2 htm
  have HN := hid hnb
  have HM := hid htb
  have HK := hid (Tex.okB_iff.2 hok)
  have r0 := row12_new (w := w) (t := 109) (f := f) rfl
  have t0 := Blk.new (w.alloc (.cells #[.int .i64 (f 0), .int .i64 (f 1), .int .i64 (f 2), .int .i64 (f 3), .int .i64 (f 4), .int .i64 (f 5), .int .i64 (f 6), .int .i64 (f 7), .int .i64 (f 8), .int .i64 (f 9), .int .i64 (f 10), .int .i64 (f 11)] 109)) 31 [.int .i64 t.log, .slice (some ⟨bx, off, none⟩) t.px.length cap]
  have q0 := Blk.new ((w.alloc (.cells #[.int .i64 (f 0), .int .i64 (f 1), .int .i64 (f 2), .int .i64 (f 3), .int .i64 (f 4), .int .i64 (f 5), .int .i64 (f 6), .int .i64 (f 7), .int .i64 (f 8), .int .i64 (f 9), .int .i64 (f 10), .int .i64 (f 11)] 109)).alloc (.cells #[.int .i64 t.log, .slice (some ⟨bx, off, none⟩) t.px.length cap] 31)) 33 [.int .i64 0, .slice none 0 0, .int .i64 0, .int .i64 0, .slice none 0 0]
  simp only [World.size_alloc] at t0 q0
  have x0 : Ext w (((w.alloc (.cells #[.int .i64 (f 0), .int .i64 (f 1), .int .i64 (f 2), .int .i64 (f 3), .int .i64 (f 4), .int .i64 (f 5), .int .i64 (f 6), .int .i64 (f 7), .int .i64 (f 8), .int .i64 (f 9), .int .i64 (f 10), .int .i64 (f 11)] 109)).alloc (.cells #[.int .i64 t.log, .slice (some ⟨bx, off, none⟩) t.px.length cap] 31)).alloc (.cells #[.int .i64 0, .slice none 0 0, .int .i64 0, .int .i64 0, .slice none 0 0] 33)) := (by repeat (with_reducible (first | assumption | exact Ext.refl _ | apply Ext.alloc | apply Ext.drew | apply Ext.drewN)))
  have R0 := hid ((r0.alloc (.cells #[.int .i64 t.log, .slice (some ⟨bx, off, none⟩) t.px.length cap] 31)).alloc (.cells #[.int .i64 0, .slice none 0 0, .int .i64 0, .int .i64 0, .slice none 0 0] 33))
  have T0 := hid (t0.ext (show Ext _ (((w.alloc (.cells #[.int .i64 (f 0), .int .i64 (f 1), .int .i64 (f 2), .int .i64 (f 3), .int .i64 (f 4), .int .i64 (f 5), .int .i64 (f 6), .int .i64 (f 7), .int .i64 (f 8), .int .i64 (f 9), .int .i64 (f 10), .int .i64 (f 11)] 109)).alloc (.cells #[.int .i64 t.log, .slice (some ⟨bx, off, none⟩) t.px.length cap] 31)).alloc (.cells #[.int .i64 0, .slice none 0 0, .int .i64 0, .int .i64 0, .slice none 0 0] 33)) from (by repeat (with_reducible (first | assumption | exact Ext.refl _ | apply Ext.alloc | apply Ext.drew | apply Ext.drewN)))))
  have Q0 := hid q0
  have X0 := hid x0
  clear hnb htb hu r0 t0 q0 x0
  go_enter Tryz.func48, Tryz.ntmps48
  go_wp2_with fail
  refine (sIsValidPatch_small f hf _).mono ?_
  rintro e w1 ⟨rfl, x1⟩
  have R1 := hid (R0.out.ext x1)
  have T1 := hid (T0.out.ext x1)
  have Q1 := hid (Q0.out.ext x1)
  have X1 := hid (X0.out.trans x1)
  clear R0 T0 Q0 X0 x1
  go_wp2_with fail
  refine (l01In_val HN.out _).mono ?_
  rintro e w2 ⟨rfl, rfl⟩
  go_wp2_with fail
  refine (l01In_val HM.out _).mono ?_
  rintro e w2 ⟨rfl, rfl⟩
  have t0 := T1.out.cell 0 rfl
  have t1 := T1.out.cell 1 rfl
  have z1 := X1.out.size
  go_wp2_with fail
  refine (sIsValidTexture_val HK.out lo hi _ _ (HT.out.ext hh X1.out) (by omega)).mono ?_
  rintro e w2 ⟨rfl, x2⟩
  have R2 := hid (R1.out.ext x2)
  have T2 := hid (T1.out.ext x2)
  have Q2 := hid (Q1.out.ext x2)
  have HX2 := hid (X1.out.trans x2)
  have z2 := HX2.out.size
  clear R1 T1 Q1 X1 x2 t0 t1
  have t0 := T2.out.cell 0 rfl
  have t1 := T2.out.cell 1 rfl
  have zt := T2.out.lt
  go_upto_region 3 with fail
  go_cut [10] from 33 to 42 (fun p wx => ∃ A tu, p = .pointer (some ⟨A, 0, none⟩) ∧ w2.heap.size ≤ A ∧ Blk wx A 33 [.int .i64 (n : Nat), .slice none 0 0, .int .i64 tm, .int .i64 t.log, tu] ∧ OwnInts w2.heap.size wx tu t.px ∧ Ext w2 wx)
  case first =>
    refine wp_region_Z 11 w2.heap.size (by kernel_rfl) ?_
    refine wpZ_stage (fuel := 5) [0, 1, 2, 3, 5, 6] [4, 10] (by kernel_rfl) (fun b _ hb => rfl) ?_
    try simp only [Act.put, List.setIfInBounds_toArray, List.set_cons_succ, List.set_cons_zero]
    simp only [List.filterMap_cons, List.filterMap_nil, List.getElem?_toArray, List.getElem?_cons_zero, List.getElem?_cons_succ]
    show wpQuiet _ _ _ _ [_, _, _, _, _, _] _
    repeat (go_big_quiet_step (fail))
    refine wpQuiet_nil ?_
    intro e he
    simp only [List.mem_cons, List.not_mem_nil, or_false] at he
    rcases he with rfl | rfl
    · have k1 : Ext w2 (w2.drew.alloc (.cells #[] 3)) := (by repeat (with_reducible (first | assumption | exact Ext.refl _ | apply Ext.alloc | apply Ext.drew | apply Ext.drewN)))
      have o1 : OwnInts w2.heap.size (w2.drew.alloc (.cells #[] 3)) (.slice (some ⟨w2.heap.size, 0, none⟩) 0 0) [] := OwnInts.fresh0 (Nat.le_refl _) (Blk.new w2.drew 3 [])
      (unfold wpComes; simp only [List.getElem?_toArray, List.getElem?_cons_succ, List.getElem?_cons_zero, Option.some.injEq]; refine ⟨_, rfl, fun K hK => ?_⟩)
      go_wp2
      refine hK _ _ (.inr (fun b _ hb => Ext.block k1 (by omega))) ?_
      clear hK K
      refine wpZ_stage (fuel := 4) [] [7, 10] (by kernel_rfl) (fun b _ hb => Ext.block k1 (by omega)) ?_
      refine wpQuiet_nil ?_
      intro e he
      simp only [List.mem_cons, List.not_mem_nil, or_false] at he
      rcases he with rfl | rfl
      · (unfold wpComes; simp only [List.getElem?_toArray, List.getElem?_cons_succ, List.getElem?_cons_zero, Option.some.injEq]; refine ⟨_, rfl, fun K hK => ?_⟩)
        refine wpList_append_ints _ rfl _ _ rfl w2.heap.size (.slice (some ⟨w2.heap.size, 0, none⟩) 0 0) [] t.px rfl o1 bx off cap rfl (fun i y hy => by
          obtain ⟨i1, b', o', e', _, h3, h4⟩ := HU.cell i y hy
          cases e'
          exact ⟨i1, ((HX2.out.trans k1).cells.1 bx _ (by omega)).trans h4⟩) (by simp; omega) k1.size ?_
        intro v7 w7 hown7 hg7
        have u7 : Ext w2 w7 := Ext.grown k1 hg7 (fun k hk => (o1.lt k hk).1)
        go_wp2_with fail
        refine hK _ _ (.inr (fun b _ hb => Ext.block u7 (by omega))) ?_
        clear hK K
        obtain ⟨va7, vc7, hv7, _⟩ := hown7.form
        simp only [List.nil_append] at hown7 hv7
        subst hv7
        refine wpZ_stage (fuel := 1) [8, 9] [10] (by kernel_rfl) (fun b _ hb => Ext.block u7 (by omega)) ?_
        try simp only [Act.put, List.setIfInBounds_toArray, List.set_cons_succ, List.set_cons_zero]
        simp only [List.filterMap_cons, List.filterMap_nil, List.getElem?_toArray, List.getElem?_cons_zero, List.getElem?_cons_succ]
        show wpQuiet _ _ _ _ [_, _] _
        repeat (go_big_quiet_step (fail))
        refine wpQuiet_nil ?_
        intro e he
        simp only [List.mem_cons, List.not_mem_nil, or_false] at he
        subst he
        have k8 : Ext w2 (w7.alloc (.cells #[.int .i64 0, .slice none 0 0, .int .i64 0, .int .i64 0, .slice none 0 0] 33)) := Ext.alloc u7 _
        (unfold wpComes; simp only [List.getElem?_toArray, List.getElem?_cons_succ, List.getElem?_cons_zero, Option.some.injEq]; refine ⟨_, rfl, fun K hK => ?_⟩)
        go_wp2
        refine hK _ _ (.inr (fun b _ hb => Ext.block (w := w2) (show Ext w2 _ from Ext.alloc u7 _) (by omega))) ?_
        clear hK K
        refine wpZ_stage (fuel := 0) [] [11] (by kernel_rfl) (fun b _ hb => Ext.block k8 (by omega)) ?_
        refine wpQuiet_nil ?_
        intro e he
        simp only [List.mem_cons, List.not_mem_nil, or_false] at he
        subst he
        (unfold wpComes; simp only [List.getElem?_toArray, List.getElem?_cons_succ, List.getElem?_cons_zero, Option.some.injEq]; refine ⟨_, rfl, fun K hK => ?_⟩)
        go_wp2
        refine hK _ _ (.inl (by trivial)) ?_
        clear hK K
        refine wpZ_end (by kernel_rfl) ?_
        go_wp2_with fail
        go_meet
        exact ⟨w7.heap.size, _, rfl, u7.size, Blk.new w7 33 [.int .i64 (n : Nat), .slice none 0 0, .int .i64 tm, .int .i64 t.log, .slice va7 t.px.length vc7], hown7.alloc _, Ext.alloc u7 _⟩
      · have g1 : Ext w2 ((w2.drew.alloc (.cells #[] 3)).alloc (.cells #[.int .i64 0, .slice none 0 0, .int .i64 0, .int .i64 0, .slice none 0 0] 33)) := (by repeat (with_reducible (first | assumption | exact Ext.refl _ | apply Ext.alloc | apply Ext.drew | apply Ext.drewN)))
        have o2 := o1.alloc (.cells #[.int .i64 0, .slice none 0 0, .int .i64 0, .int .i64 0, .slice none 0 0] 33)
        have n2 := Blk.new (w2.drew.alloc (.cells #[] 3)) 33 [.int .i64 0, .slice none 0 0, .int .i64 0, .int .i64 0, .slice none 0 0]
        rw [World.size_alloc, show w2.drew.heap.size = w2.heap.size from rfl] at n2
        (unfold wpComes; simp only [List.getElem?_toArray, List.getElem?_cons_succ, List.getElem?_cons_zero, Option.some.injEq]; refine ⟨_, rfl, fun K hK => ?_⟩)
        go_wp2
        refine hK _ _ (.inr (fun b _ hb => Ext.block g1 (by omega))) ?_
        clear hK K
        refine wpZ_stage (fuel := 3) [] [7] (by kernel_rfl) (fun b _ hb => Ext.block g1 (by omega)) ?_
        refine wpQuiet_nil ?_
        intro e he
        simp only [List.mem_cons, List.not_mem_nil, or_false] at he
        subst he
        (unfold wpComes; simp only [List.getElem?_toArray, List.getElem?_cons_succ, List.getElem?_cons_zero, Option.some.injEq]; refine ⟨_, rfl, fun K hK => ?_⟩)
        refine wpList_append_ints _ rfl _ _ rfl w2.heap.size (.slice (some ⟨w2.heap.size, 0, none⟩) 0 0) [] t.px rfl o2 bx off cap rfl (fun i y hy => by
          obtain ⟨i1, b', o', e', _, h3, h4⟩ := HU.cell i y hy
          cases e'
          exact ⟨i1, ((HX2.out.trans g1).cells.1 bx _ (by omega)).trans h4⟩) (by simp; omega) g1.size ?_
        intro v7 w7 hown7 hg7
        have u7 : Ext w2 w7 := Ext.grown g1 hg7 (fun k hk => (o2.lt k hk).1)
        go_wp2_with fail
        refine hK _ _ (.inr (fun b _ hb => Ext.block u7 (by omega))) ?_
        clear hK K
        obtain ⟨va7, vc7, hv7, _⟩ := hown7.form
        simp only [List.nil_append] at hown7 hv7
        subst hv7
        have n3 := n2.grown hg7 (by simp [Value.ownBlock])
        refine wpZ_stage (fuel := 0) [8, 9] [11] (by kernel_rfl) (fun b _ hb => Ext.block u7 (by omega)) ?_
        try simp only [Act.put, List.setIfInBounds_toArray, List.set_cons_succ, List.set_cons_zero]
        simp only [List.filterMap_cons, List.filterMap_nil, List.getElem?_toArray, List.getElem?_cons_zero, List.getElem?_cons_succ]
        show wpQuiet _ _ _ _ [_, _] _
        repeat (go_big_quiet_step (fail))
        refine wpQuiet_nil ?_
        intro e he
        simp only [List.mem_cons, List.not_mem_nil, or_false] at he
        subst he
        (unfold wpComes; simp only [List.getElem?_toArray, List.getElem?_cons_succ, List.getElem?_cons_zero, Option.some.injEq]; refine ⟨_, rfl, fun K hK => ?_⟩)
        have hbk := n3
        have p0 := hbk.cell 0 rfl
        have p1 := hbk.cell 1 rfl
        have p2 := hbk.cell 2 rfl
        have p3 := hbk.cell 3 rfl
        have p4 := hbk.cell 4 rfl
        have f0 := hbk.free 0
        have f1 := hbk.free 1
        have f2 := hbk.free 2
        have f3 := hbk.free 3
        have f4 := hbk.free 4
        have hlA : w2.heap.size ≤ (w2.heap.size + 1) := by first | omega | (simp; omega)
        have hneA : ∀ k, (Value.slice va7 t.px.length vc7).ownBlock = some k → k ≠ (w2.heap.size + 1) := fun k hk e => by
          obtain ⟨c, hc⟩ := (hown7).block hk
          rw [e] at hc
          unfold Blk at hbk
          rw [hbk] at hc
          simp only [Option.some.injEq, Obj.cells.injEq] at hc
          exact absurd hc.2.1 (by decide)
        have hxx : Ext w2 ((((((((((w7).setCell ⟨(w2.heap.size + 1), 0, none⟩ (.int .i64 (n : Nat)))).setCell ⟨(w2.heap.size + 1), 1, none⟩ (.slice none 0 0))).setCell ⟨(w2.heap.size + 1), 2, none⟩ (.int .i64 tm))).setCell ⟨(w2.heap.size + 1), 3, none⟩ (.int .i64 t.log))).setCell ⟨(w2.heap.size + 1), 4, none⟩ (.slice va7 t.px.length vc7)) := Ext.setCell (Ext.setCell (Ext.setCell (Ext.setCell (Ext.setCell u7 hlA _) hlA _) hlA _) hlA _) hlA _
        have hbb : Blk ((((((((((w7).setCell ⟨(w2.heap.size + 1), 0, none⟩ (.int .i64 (n : Nat)))).setCell ⟨(w2.heap.size + 1), 1, none⟩ (.slice none 0 0))).setCell ⟨(w2.heap.size + 1), 2, none⟩ (.int .i64 tm))).setCell ⟨(w2.heap.size + 1), 3, none⟩ (.int .i64 t.log))).setCell ⟨(w2.heap.size + 1), 4, none⟩ (.slice va7 t.px.length vc7)) ((w2.heap.size + 1)) 33 [.int .i64 (n : Nat), .slice none 0 0, .int .i64 tm, .int .i64 t.log, .slice va7 t.px.length vc7] := ((((hbk.set 0 _).set 1 _).set 2 _).set 3 _).set 4 _
        have hoo : OwnInts w2.heap.size ((((((((((w7).setCell ⟨(w2.heap.size + 1), 0, none⟩ (.int .i64 (n : Nat)))).setCell ⟨(w2.heap.size + 1), 1, none⟩ (.slice none 0 0))).setCell ⟨(w2.heap.size + 1), 2, none⟩ (.int .i64 tm))).setCell ⟨(w2.heap.size + 1), 3, none⟩ (.int .i64 t.log))).setCell ⟨(w2.heap.size + 1), 4, none⟩ (.slice va7 t.px.length vc7)) (.slice va7 t.px.length vc7) t.px := ((((((hown7).setOther (a := ⟨(w2.heap.size + 1), 0, none⟩) (fun e => hneA _ e rfl) _).setOther (a := ⟨(w2.heap.size + 1), 1, none⟩) (fun e => hneA _ e rfl) _).setOther (a := ⟨(w2.heap.size + 1), 2, none⟩) (fun e => hneA _ e rfl) _).setOther (a := ⟨(w2.heap.size + 1), 3, none⟩) (fun e => hneA _ e rfl) _).setOther (a := ⟨(w2.heap.size + 1), 4, none⟩) (fun e => hneA _ e rfl) _)
        go_wp2
        refine hK _ _ (.inl (by trivial)) ?_
        clear hK K
        refine wpZ_end (by kernel_rfl) ?_
        go_wp2_with fail
        go_meet
        exact ⟨(w2.heap.size + 1), _, rfl, hlA, hbb, hoo, hxx⟩
    · have g1 : Ext w2 (w2.drew.alloc (.cells #[.int .i64 0, .slice none 0 0, .int .i64 0, .int .i64 0, .slice none 0 0] 33)) := (by repeat (with_reducible (first | assumption | exact Ext.refl _ | apply Ext.alloc | apply Ext.drew | apply Ext.drewN)))
      have n2 := Blk.new w2.drew 33 [.int .i64 0, .slice none 0 0, .int .i64 0, .int .i64 0, .slice none 0 0]
      rw [show w2.drew.heap.size = w2.heap.size from rfl] at n2
      (unfold wpComes; simp only [List.getElem?_toArray, List.getElem?_cons_succ, List.getElem?_cons_zero, Option.some.injEq]; refine ⟨_, rfl, fun K hK => ?_⟩)
      go_wp2
      refine hK _ _ (.inr (fun b _ hb => Ext.block g1 (by omega))) ?_
      clear hK K
      refine wpZ_stage (fuel := 4) [] [4] (by kernel_rfl) (fun b _ hb => Ext.block g1 (by omega)) ?_
      refine wpQuiet_nil ?_
      intro e he
      simp only [List.mem_cons, List.not_mem_nil, or_false] at he
      subst he
      have g2 : Ext w2 ((w2.drew.alloc (.cells #[.int .i64 0, .slice none 0 0, .int .i64 0, .int .i64 0, .slice none 0 0] 33)).alloc (.cells #[] 3)) := (by repeat (with_reducible (first | assumption | exact Ext.refl _ | apply Ext.alloc | apply Ext.drew | apply Ext.drewN)))
      have n3 := n2.ext (show Ext _ ((w2.drew.alloc (.cells #[.int .i64 0, .slice none 0 0, .int .i64 0, .int .i64 0, .slice none 0 0] 33)).alloc (.cells #[] 3)) from (by repeat (with_reducible (first | assumption | exact Ext.refl _ | apply Ext.alloc | apply Ext.drew | apply Ext.drewN))))
      have b2 := Blk.new (w2.drew.alloc (.cells #[.int .i64 0, .slice none 0 0, .int .i64 0, .int .i64 0, .slice none 0 0] 33)) 3 []
      rw [World.size_alloc, show w2.drew.heap.size = w2.heap.size from rfl] at b2
      have o2 : OwnInts w2.heap.size ((w2.drew.alloc (.cells #[.int .i64 0, .slice none 0 0, .int .i64 0, .int .i64 0, .slice none 0 0] 33)).alloc (.cells #[] 3)) (.slice (some ⟨w2.heap.size + 1, 0, none⟩) 0 0) [] := OwnInts.fresh0 (by omega) b2
      (unfold wpComes; simp only [List.getElem?_toArray, List.getElem?_cons_succ, List.getElem?_cons_zero, Option.some.injEq]; refine ⟨_, rfl, fun K hK => ?_⟩)
      go_wp2
      refine hK _ _ (.inr (fun b _ hb => Ext.block g2 (by omega))) ?_
      clear hK K
      refine wpZ_stage (fuel := 3) [] [7] (by kernel_rfl) (fun b _ hb => Ext.block g2 (by omega)) ?_
      refine wpQuiet_nil ?_
      intro e he
      simp only [List.mem_cons, List.not_mem_nil, or_false] at he
      subst he
      (unfold wpComes; simp only [List.getElem?_toArray, List.getElem?_cons_succ, List.getElem?_cons_zero, Option.some.injEq]; refine ⟨_, rfl, fun K hK => ?_⟩)
      refine wpList_append_ints _ rfl _ _ rfl w2.heap.size (.slice (some ⟨w2.heap.size + 1, 0, none⟩) 0 0) [] t.px rfl o2 bx off cap rfl (fun i y hy => by
        obtain ⟨i1, b', o', e', _, h3, h4⟩ := HU.cell i y hy
        cases e'
        exact ⟨i1, ((HX2.out.trans g2).cells.1 bx _ (by omega)).trans h4⟩) (by simp; omega) g2.size ?_
      intro v7 w7 hown7 hg7
      have u7 : Ext w2 w7 := Ext.grown g2 hg7 (fun k hk => (o2.lt k hk).1)
      go_wp2_with fail
      refine hK _ _ (.inr (fun b _ hb => Ext.block u7 (by omega))) ?_
      clear hK K
      obtain ⟨va7, vc7, hv7, _⟩ := hown7.form
      simp only [List.nil_append] at hown7 hv7
      subst hv7
      have n4 := n3.grown hg7 (by simp [Value.ownBlock])
      refine wpZ_stage (fuel := 0) [8, 9] [11] (by kernel_rfl) (fun b _ hb => Ext.block u7 (by omega)) ?_
      try simp only [Act.put, List.setIfInBounds_toArray, List.set_cons_succ, List.set_cons_zero]
      simp only [List.filterMap_cons, List.filterMap_nil, List.getElem?_toArray, List.getElem?_cons_zero, List.getElem?_cons_succ]
      show wpQuiet _ _ _ _ [_, _] _
      repeat (go_big_quiet_step (fail))
      refine wpQuiet_nil ?_
      intro e he
      simp only [List.mem_cons, List.not_mem_nil, or_false] at he
      subst he
      (unfold wpComes; simp only [List.getElem?_toArray, List.getElem?_cons_succ, List.getElem?_cons_zero, Option.some.injEq]; refine ⟨_, rfl, fun K hK => ?_⟩)
      have hbk := n4
      have p0 := hbk.cell 0 rfl
      have p1 := hbk.cell 1 rfl
      have p2 := hbk.cell 2 rfl
      have p3 := hbk.cell 3 rfl
      have p4 := hbk.cell 4 rfl
      have f0 := hbk.free 0
      have f1 := hbk.free 1
      have f2 := hbk.free 2
      have f3 := hbk.free 3
      have f4 := hbk.free 4
      have hlA : w2.heap.size ≤ w2.heap.size := by first | omega | (simp; omega)
      have hneA : ∀ k, (Value.slice va7 t.px.length vc7).ownBlock = some k → k ≠ w2.heap.size := fun k hk e => by
        obtain ⟨c, hc⟩ := (hown7).block hk
        rw [e] at hc
        unfold Blk at hbk
        rw [hbk] at hc
        simp only [Option.some.injEq, Obj.cells.injEq] at hc
        exact absurd hc.2.1 (by decide)
      have hxx : Ext w2 ((((((((((w7).setCell ⟨w2.heap.size, 0, none⟩ (.int .i64 (n : Nat)))).setCell ⟨w2.heap.size, 1, none⟩ (.slice none 0 0))).setCell ⟨w2.heap.size, 2, none⟩ (.int .i64 tm))).setCell ⟨w2.heap.size, 3, none⟩ (.int .i64 t.log))).setCell ⟨w2.heap.size, 4, none⟩ (.slice va7 t.px.length vc7)) := Ext.setCell (Ext.setCell (Ext.setCell (Ext.setCell (Ext.setCell u7 hlA _) hlA _) hlA _) hlA _) hlA _
      have hbb : Blk ((((((((((w7).setCell ⟨w2.heap.size, 0, none⟩ (.int .i64 (n : Nat)))).setCell ⟨w2.heap.size, 1, none⟩ (.slice none 0 0))).setCell ⟨w2.heap.size, 2, none⟩ (.int .i64 tm))).setCell ⟨w2.heap.size, 3, none⟩ (.int .i64 t.log))).setCell ⟨w2.heap.size, 4, none⟩ (.slice va7 t.px.length vc7)) (w2.heap.size) 33 [.int .i64 (n : Nat), .slice none 0 0, .int .i64 tm, .int .i64 t.log, .slice va7 t.px.length vc7] := ((((hbk.set 0 _).set 1 _).set 2 _).set 3 _).set 4 _
      have hoo : OwnInts w2.heap.size ((((((((((w7).setCell ⟨w2.heap.size, 0, none⟩ (.int .i64 (n : Nat)))).setCell ⟨w2.heap.size, 1, none⟩ (.slice none 0 0))).setCell ⟨w2.heap.size, 2, none⟩ (.int .i64 tm))).setCell ⟨w2.heap.size, 3, none⟩ (.int .i64 t.log))).setCell ⟨w2.heap.size, 4, none⟩ (.slice va7 t.px.length vc7)) (.slice va7 t.px.length vc7) t.px := ((((((hown7).setOther (a := ⟨w2.heap.size, 0, none⟩) (fun e => hneA _ e rfl) _).setOther (a := ⟨w2.heap.size, 1, none⟩) (fun e => hneA _ e rfl) _).setOther (a := ⟨w2.heap.size, 2, none⟩) (fun e => hneA _ e rfl) _).setOther (a := ⟨w2.heap.size, 3, none⟩) (fun e => hneA _ e rfl) _).setOther (a := ⟨w2.heap.size, 4, none⟩) (fun e => hneA _ e rfl) _)
      go_wp2
      refine hK _ _ (.inl (by trivial)) ?_
      clear hK K
      refine wpZ_end (by kernel_rfl) ?_
      go_wp2_with fail
      go_meet
      exact ⟨w2.heap.size, _, rfl, hlA, hbb, hoo, hxx⟩
  case rest =>
    obtain ⟨A, tu, rfl, hA, B3, O3, E3⟩ := hcut
    obtain ⟨tua, tuc, rfl, -⟩ := O3.form
    have S3 : GSt w2.heap.size n tm t f A w.heap.size (w.heap.size + 1 + 1) (.slice tua t.px.length tuc) w wc [] (.slice none 0 0) :=
      ⟨HX2.out.trans E3, R2.out.ext E3, Q2.out.ext E3, B3, OwnG.nil _ _ _ _ _, O3, (fun _ h => nomatch h)⟩
    have HS3 := hid S3
    have zQ := Q2.out.lt
    clear R2 T2 Q2 HX2 t0 t1 zt B3 O3 E3 S3
    go_wp2_with fail
    go_loopw [11] (fun v wr => ∃ (j : Nat) (ps : List Pt) (pu : Value), j ≤ n ∧ v = .int .i64 (j : Nat) ∧ ps.length = j * n ∧ GSt w2.heap.size n tm t f A w.heap.size (w.heap.size + 1 + 1) (.slice tua t.px.length tuc) w wr ps pu) (fun v _ => n - (intOf v).toNat)
    case atStart => exact ⟨0, [], _, by omega, rfl, by simp, HS3.out⟩
    case round =>
      obtain ⟨j, ps, pu, hj, rfl, hpl, hs⟩ := hrel
      have HPL := hid hpl
      clear hpl
      have HS := hid hs
      clear hs HS3
      by_cases hlt : j < n
      · go_wp2_with fail
        go_loopw [12] (fun v wr => ∃ (i : Nat) (ps : List Pt) (pu : Value), i ≤ n ∧ v = .int .i64 (i : Nat) ∧ ps.length = j * n + i ∧ GSt w2.heap.size n tm t f A w.heap.size (w.heap.size + 1 + 1) (.slice tua t.px.length tuc) w wr ps pu) (fun v _ => n - (intOf v).toNat)
        case atStart => exact ⟨0, ps, pu, by omega, rfl, HPL.out, HS.out⟩
        case round =>
          obtain ⟨i, ps, pu, hi', rfl, hpl, hs⟩ := hrel
          have HPL2 := hid hpl
          clear hpl
          have HS4 := hid hs
          clear hs HS
          by_cases hlti : i < n
          · have hR := HS4.out.pat
            have c0 := hR.cell (i := 0) (by decide)
            have c1 := hR.cell (i := 1) (by decide)
            have c2 := hR.cell (i := 2) (by decide)
            have c3 := hR.cell (i := 3) (by decide)
            have c4 := hR.cell (i := 4) (by decide)
            have c5 := hR.cell (i := 5) (by decide)
            have c6 := hR.cell (i := 6) (by decide)
            have c7 := hR.cell (i := 7) (by decide)
            have c8 := hR.cell (i := 8) (by decide)
            have c9 := hR.cell (i := 9) (by decide)
            have c10 := hR.cell (i := 10) (by decide)
            have c11 := hR.cell (i := 11) (by decide)
            go_wp2_with fail
            refine (sEvalPatch_any f hf n i j hn hlti hlt _).mono ?_
            rintro e w3 ⟨x, y, z, rfl, hbx', hby', hbz', x3⟩
            have y3 : Ext w3 (w3.alloc (.cells #[.int .i64 x, .int .i64 y, .int .i64 z] 106)) := (by repeat (with_reducible (first | assumption | exact Ext.refl _ | apply Ext.alloc | apply Ext.drew | apply Ext.drewN)))
            have v3 := Blk.new w3 106 [.int .i64 x, .int .i64 y, .int .i64 z]
            have HS5 := hid (HS4.out.to (x3.trans y3))
            have HV5 := hid v3
            have z3 := x3.size
            have b1 := HS5.out.box.cell 1 rfl
            have fb1 := HS5.out.box.free 1
            have zA := HS5.out.box.lt
            have zA3 : A < w3.heap.size := by
              have := HS4.out.box.lt
              omega
            obtain ⟨pa, pc, rfl, -⟩ := OwnG.form HS5.out.pts
            clear x3 y3 v3 c0 c1 c2 c3 c4 c5 c6 c7 c8 c9 c10 c11 hR HS4
            go_wp2_with fail
            refine wp_region_stagesS [([0, 1, 2, 3, 4, 5, 6, 7, 8, 9, 10, 11, 12, 13, 14, 15, 16], 17), ([], 18), ([19], 20)] 20 (fun w' => ∃ d, w' = lowc (C2b A w3.heap.size) _ d) (by kernel_rfl) (by kernel_rfl) (SC.drew _ _) ?_
            refine wpStagesS_cons ?_
            simp only [List.filterMap_cons, List.filterMap_nil, List.getElem?_toArray, List.getElem?_cons_zero, List.getElem?_cons_succ]
            show wpQuiet _ _ _ _ [_, _, _, _, _, _, _, _, _, _, _, _, _, _, _, _, _] _
            repeat (go_big_quiet_step (fail))
            refine wpQuiet_nil ⟨_, rfl, fun K hK => ?_⟩
            go_wp2_with fail
            have y8 : Ext (w3.alloc (.cells #[.int .i64 x, .int .i64 y, .int .i64 z] 106)) (((w3.alloc (.cells #[.int .i64 x, .int .i64 y, .int .i64 z] 106)).alloc (.cells #[.int .i64 ((i : Int) * 256 / (n : Int)), .int .i64 ((j : Int) * 256 / (n : Int)), .int .i64 x, .int .i64 y, .int .i64 z] 157)).drew) := (by repeat (first | with_reducible assumption | with_reducible exact Ext.refl _ | with_reducible apply Ext.alloc | with_reducible apply Ext.drew | with_reducible apply Ext.drewN | (with_reducible refine Ext.setCell ?_ (by simp; omega) _) | (with_reducible refine Ext.setCell ?_ (by simp) _)))
            have b8 := (Blk.new (w3.alloc (.cells #[.int .i64 x, .int .i64 y, .int .i64 z] 106)) 157 [.int .i64 ((i : Int) * 256 / (n : Int)), .int .i64 ((j : Int) * 256 / (n : Int)), .int .i64 x, .int .i64 y, .int .i64 z]).ext (show Ext _ (((w3.alloc (.cells #[.int .i64 x, .int .i64 y, .int .i64 z] 106)).alloc (.cells #[.int .i64 ((i : Int) * 256 / (n : Int)), .int .i64 ((j : Int) * 256 / (n : Int)), .int .i64 x, .int .i64 y, .int .i64 z] 157)).drew) from (by repeat (first | with_reducible assumption | with_reducible exact Ext.refl _ | with_reducible apply Ext.alloc | with_reducible apply Ext.drew | with_reducible apply Ext.drewN | (with_reducible refine Ext.setCell ?_ (by simp; omega) _) | (with_reducible refine Ext.setCell ?_ (by simp) _))))
            rw [World.size_alloc] at b8
            refine hK _ _ (.inr (SC.blocks fun a ha => ?_)) ?_
            · rcases ha with ha | ha
              · exact y8.block (by rw [ha, World.size_alloc]; omega)
              · exact y8.block (by rw [ha, World.size_alloc]; omega)
            clear hK K
            have HS8 := hid (HS5.out.to y8)
            have HB8 := hid b8
            have HY8 := hid y8
            have z8 := y8.size
            rw [World.size_alloc] at z8
            have hnn : j * n + i ≤ 64 := by
              have : j * n ≤ 4 * 4 := Nat.mul_le_mul (by omega) (by omega)
              omega
            clear y8 b8
            refine wpStagesS_cons ?_
            simp only [List.filterMap_nil]
            show wpQuiet _ _ _ _ [] _
            try simp only [Act.put, List.setIfInBounds_toArray, List.set_cons_succ, List.set_cons_zero]
            repeat (go_big_quiet_step (fail))
            refine wpQuiet_nil ⟨_, rfl, fun K hK => ?_⟩
            refine wpList_append_pt _ rfl _ _ rfl w2.heap.size (.slice pa ps.length pc) ps rfl HS8.out.pts ⟨(i : Int) * 256 / (n : Int), (j : Int) * 256 / (n : Int), x, y, z⟩ (w3.heap.size + 1) rfl (fun q hq => by
              rcases (show q = 0 ∨ q = 1 ∨ q = 2 ∨ q = 3 ∨ q = 4 by omega) with rfl | rfl | rfl | rfl | rfl
              · exact HB8.out.cell 0 rfl
              · exact HB8.out.cell 1 rfl
              · exact HB8.out.cell 2 rfl
              · exact HB8.out.cell 3 rfl
              · exact HB8.out.cell 4 rfl) (by have := HPL2.out; omega) (by omega) ?_
            intro pu2 w9 hown hg
            have hrow := OwnG.rowT HS8.out.pts
            have kA : w9.heap[A]? = (w3.alloc (.cells #[.int .i64 x, .int .i64 y, .int .i64 z] 106)).heap[A]? := (hg.block _ (by omega) (fun e => by
              obtain ⟨_, c, hc⟩ := hrow _ e.symm
              have hb := HS8.out.box
              unfold Blk at hb
              rw [hb] at hc
              simp only [Option.some.injEq, Obj.cells.injEq] at hc
              exact absurd hc.2.1 (by decide))).trans (HY8.out.block zA)
            have kV : w9.heap[w3.heap.size]? = (w3.alloc (.cells #[.int .i64 x, .int .i64 y, .int .i64 z] 106)).heap[w3.heap.size]? := (hg.block _ (by omega) (fun e => by
              obtain ⟨_, c, hc⟩ := hrow _ e.symm
              have hb := HV5.out.ext HY8.out
              unfold Blk at hb
              rw [hb] at hc
              simp only [Option.some.injEq, Obj.cells.injEq] at hc
              exact absurd hc.2.1 (by decide))).trans (HY8.out.block (by rw [World.size_alloc]; omega))
            have HS9 := hid (HS8.out.grow (by omega) zQ hA z2 hg hown (fun p hp => by
              rcases List.mem_append.1 hp with hp | hp
              · exact HS8.out.sm p hp
              · simp only [List.mem_cons, List.not_mem_nil, or_false] at hp
                subst hp
                intro u hu
                simp only [Pt.ls, List.mem_cons, List.not_mem_nil, or_false] at hu
                rcases hu with rfl | rfl | rfl | rfl | rfl
                · exact uv_sm hn.1 hlti
                · exact uv_sm hn.1 hlt
                · exact hbx'
                · exact hby'
                · exact hbz'))
            have B9 := HS5.out.box.of kA
            have e1 := B9.cell 1 rfl
            have g1 := B9.free 1
            go_wp2_with fail
            refine hK _ _ (.inr (SC.blocks fun a ha => ?_)) ?_
            · rcases ha with ha | ha
              · rw [ha]; exact kA
              · rw [ha]; exact kV
            clear hK K
            obtain ⟨pa2, pc2, hv, _⟩ := OwnG.form hown
            have hll : (ps ++ [(⟨(i : Int) * 256 / (n : Int), (j : Int) * 256 / (n : Int), x, y, z⟩ : Pt)]).length = ps.length + 1 := by simp
            rw [hll] at hv
            subst hv
            clear hown hg hrow kA kV b1 fb1 B9
            refine wpStagesS_cons ?_
            simp only [List.filterMap_cons, List.filterMap_nil, List.getElem?_toArray, List.getElem?_cons_zero, List.getElem?_cons_succ]
            show wpQuiet _ _ _ _ [_] _
            simp only [Act.put, List.setIfInBounds_toArray, List.set_cons_succ, List.set_cons_zero, List.getElem_toArray, List.getElem_cons_succ, List.getElem_cons_zero]
            repeat (go_big_quiet_step (fail))
            refine wpQuiet_nil ⟨_, rfl, fun K hK => ?_⟩
            go_wp2_with fail
            refine hK _ _ (.inl trivial) ?_
            clear hK K
            refine wpStagesS_nil ?_
            go_wp2
            go_roundw
            case rel => exact ⟨i + 1, ps ++ [(⟨(i : Int) * 256 / (n : Int), (j : Int) * 256 / (n : Int), x, y, z⟩ : Pt)], _, by omega, by go_num, by have := HPL2.out; omega, HS9.out⟩
            case measure => simp [intOf]; omega
          · obtain rfl : i = n := by omega
            go_wp2
            go_roundw
            case rel => exact ⟨j + 1, ps, pu, by omega, by go_num, by rw [HPL2.out, Nat.succ_mul], HS4.out⟩
            case measure => simp [intOf]; omega
      · obtain rfl : j = n := by omega
        have b0 := HS.out.box.cell 0 rfl
        have b1 := HS.out.box.cell 1 rfl
        have b2 := HS.out.box.cell 2 rfl
        have b3 := HS.out.box.cell 3 rfl
        have b4 := HS.out.box.cell 4 rfl
        have q0 := HS.out.res.cell 0 rfl
        have q1 := HS.out.res.cell 1 rfl
        have q2 := HS.out.res.cell 2 rfl
        have q3 := HS.out.res.cell 3 rfl
        have q4 := HS.out.res.cell 4 rfl
        have g0 := HS.out.res.free 0
        have g1 := HS.out.res.free 1
        have g2 := HS.out.res.free 2
        have g3 := HS.out.res.free 3
        have g4 := HS.out.res.free 4
        have zq := HS.out.res.lt
        have za := HS.out.box.lt
        obtain ⟨pa, pc, rfl, -⟩ := OwnG.form HS.out.pts
        go_wp2
        refine bodyPost_ret (v := .tuple #[.agg #[.int .i64 (j : Nat), .slice pa ps.length pc, .int .i64 tm, .int .i64 t.log, .slice tua t.px.length tuc], .bool true]) (by simp [results, Tryz.results48, go_sem, *]) rfl ?_
        have hex := HS.out.ext
        have hzz := hex.size
        refine ⟨⟨(j : Nat), ps.length, ptF ps, tm, t⟩, _, rfl, ⟨_, _, rfl, ⟨by show (-9223372036854775808 : Int) ≤ ((j : Nat) : Int); omega, by show ((j : Nat) : Int) ≤ 9223372036854775807; omega⟩, ⟨by show (-9223372036854775808 : Int) ≤ tm; omega, by show tm ≤ 9223372036854775807; omega⟩, tlog, (((OwnPts.flats HS.out.pts HS.out.sm).same (set5_same wr zQ _ _ _ _ _)).wide z2 (by simp)), ((HS.out.tex.ints.same (set5_same wr zQ _ _ _ _ _)).wide z2 (by simp))⟩, ?_, (by repeat (first | with_reducible assumption | with_reducible exact Ext.refl _ | with_reducible apply Ext.alloc | with_reducible apply Ext.drew | with_reducible apply Ext.drewN | (with_reducible refine Ext.setCell ?_ (by simp; omega) _) | (with_reducible refine Ext.setCell ?_ (by simp) _)))⟩
        unfold Grd.okB
        simp only [Bool.and_eq_true]
        refine ⟨⟨⟨⟨HN.out, decide_eq_true ?_⟩, HM.out⟩, HK.out⟩, rng_all (fun i _ => ptB_small HS.out.sm i)⟩
        have := HPL.out
        rw [this]
        exact Int.natCast_mul j j
end Go.Proofs.YtaegmenjgjdimaaGreat
end

section
/- This text proves the draw of grids: a valid grid. -/
namespace Go.Proofs.YtaegmenjgjdimaaGreat
open Go.RowKit

theorem sGridOf_at (lo hi : Nat) (f : Nat → Int) (hf : SmF f) (c : Int) (hc : 1 ≤ c ∧ c ≤ 4) (tm : Int) (htm : 0 ≤ tm ∧ tm ≤ 256) (tv : Value) (t : Tex) (w : World) (ht : TexR lo hi w tv t) (hh : hi ≤ w.heap.size) (hok : t.Ok) :
    Calls Tryz.prog 48 #[.agg #[.int .i64 (f 0), .int .i64 (f 1), .int .i64 (f 2), .int .i64 (f 3), .int .i64 (f 4), .int .i64 (f 5), .int .i64 (f 6), .int .i64 (f 7), .int .i64 (f 8), .int .i64 (f 9), .int .i64 (f 10), .int .i64 (f 11)], .int .i64 c, .int .i64 tm, tv] w fun e w' => ∃ (g : Grd) (v : Value), e = .returned (.tuple #[v, .bool true]) ∧ g.R w.heap.size w'.heap.size w' v ∧ g.okB = true ∧ Ext w w' := by
  obtain ⟨n, rfl⟩ : ∃ n : Nat, c = (n : Int) := ⟨c.toNat, by omega⟩
  exact sGridOf_any lo hi f hf n (by omega) tm htm tv t w ht hh hok
theorem Grd.R.form {g : Grd} {lo hi : Nat} {w : World} {v : Value} (h : g.R lo hi w v) : ∃ a1 c1 a2 c2, v = .agg #[.int .i64 g.n, .slice a1 g.m c1, .int .i64 g.tm, .int .i64 g.t.log, .slice a2 g.t.px.length c2] := by
  obtain ⟨pu, tu, rfl, _, _, _, hp, hu⟩ := h
  obtain ⟨a1, c1, rfl, _⟩ := hp
  obtain ⟨a2, c2, rfl, _⟩ := hu
  exact ⟨a1, c1, a2, c2, rfl⟩
theorem Grd.R.set5 {g : Grd} {lo hi l2 Q : Nat} {w : World} {v : Value} (h : g.R lo hi w v) (hQ : Q < lo) (hl : l2 ≤ lo) (hh : hi ≤ w.heap.size) (a b c d e : Value) : g.R l2 (((((w.setCell ⟨Q, 0, none⟩ a).setCell ⟨Q, 1, none⟩ b).setCell ⟨Q, 2, none⟩ c).setCell ⟨Q, 3, none⟩ d).setCell ⟨Q, 4, none⟩ e).heap.size (((((w.setCell ⟨Q, 0, none⟩ a).setCell ⟨Q, 1, none⟩ b).setCell ⟨Q, 2, none⟩ c).setCell ⟨Q, 3, none⟩ d).setCell ⟨Q, 4, none⟩ e) v :=
  (h.same (set5_same w hQ a b c d e)).wide hl (by simp only [World.size_setCell]; exact hh)
set_option maxRecDepth 10000 in
set_option maxHeartbeats 3200000 in
theorem l17Grid_any (hi B : Nat) (w : World) (hc : Cur hi w B) : Calls Tryz.prog 21 #[.pointer (some ⟨B, 0, none⟩)] w fun e w' => ∃ (g : Grd) (v : Value), e = .returned v ∧ g.R w.heap.size w'.heap.size w' v ∧ g.okB = true ∧ Gr B w w' := by
  have zB := hc.lt
  have q0 := Blk.new w 33 [.int .i64 0, .slice none 0 0, .int .i64 0, .int .i64 0, .slice none 0 0]
  have x1 : Ext w (w.alloc (.cells #[.int .i64 0, .slice none 0 0, .int .i64 0, .int .i64 0, .slice none 0 0] 33)) := (by repeat (with_reducible (first | assumption | exact Ext.refl _ | apply Ext.alloc | apply Ext.drew | apply Ext.drewN)))
  have HC1 := hid (hc.ext x1)
  have HQ := hid q0
  have HX := hid x1
  have z1 : (w.alloc (.cells #[.int .i64 0, .slice none 0 0, .int .i64 0, .int .i64 0, .slice none 0 0] 33)).heap.size = w.heap.size + 1 := World.size_alloc _ _
  clear hc q0 x1
  go_enter Tryz.func21, Tryz.ntmps21
  go_wp2_with fail
  refine (l05Draw_any hi B _ HC1.out).mono ?_
  rintro e w2 ⟨f, rfl, hf, C2, G2⟩
  go_wp2_with fail
  refine (l01Below_any hi B 4 _ C2 (by decide) ⟨by decide, by decide⟩).mono ?_
  rintro e w3 ⟨x, rfl, hx, C3, G3⟩
  go_wp2_with fail
  refine (l01Below_any hi B 257 _ C3 (by decide) ⟨by decide, by decide⟩).mono ?_
  rintro e w4 ⟨tm, rfl, htm, C4, G4⟩
  go_wp2_with fail
  refine (l15Draw_any hi B _ C4).mono ?_
  rintro e w5 ⟨tv, t, rfl, O5, ok5, C5, G5⟩
  have G6 := hid (((G2.trans G3).trans G4).trans G5)
  have g6 := G6.out.size
  clear C2 C3 C4 C5 G2 G3 G4 G5
  obtain ⟨tu, rfl, hlog, o5⟩ := O5
  obtain ⟨ta, tc, rfl, -⟩ := o5.form
  have HT := hid (show TexR w4.heap.size w5.heap.size w5 (.agg #[.int .i64 t.log, .slice ta t.px.length tc]) t from ⟨_, rfl, hlog, o5.ints⟩)
  clear o5
  go_wp2_with fail
  refine (sGridOf_at _ _ f hf (1 + x) (by omega) tm (by omega) _ t _ HT.out (Nat.le_refl _) ok5).mono ?_
  rintro e w7 ⟨g, v, rfl, R7, ok7, x7⟩
  obtain ⟨a1, c1, a2, c2, rfl⟩ := R7.form
  have HR := hid R7
  have r0 := (G6.out.blk HQ.out (by omega)).ext x7
  have HG7 := hid (G6.out.ext x7)
  have z7 := x7.size
  have q0 := r0.cell 0 rfl
  have q1 := r0.cell 1 rfl
  have q2 := r0.cell 2 rfl
  have q3 := r0.cell 3 rfl
  have q4 := r0.cell 4 rfl
  have f0 := r0.free 0
  have f1 := r0.free 1
  have f2 := r0.free 2
  have f3 := r0.free 3
  have f4 := r0.free 4
  have zr := r0.lt
  clear R7 x7 r0
  go_wp2
  refine bodyPost_ret (v := .agg #[.int .i64 g.n, .slice a1 g.m c1, .int .i64 g.tm, .int .i64 g.t.log, .slice a2 g.t.px.length c2]) (by simp [results, Tryz.results21, go_sem, *]) rfl ?_
  have GG : Gr B w w7 := ((Gr.refl B w).ext HX.out).trans HG7.out
  exact ⟨g, _, rfl, ((HR.out.set5 (Q := w.heap.size) (l2 := w.heap.size) (by omega) (by omega) (Nat.le_refl _) _ _ _ _ _).ext (Nat.le_refl _) (by repeat (with_reducible (first | assumption | exact Ext.refl _ | apply Ext.alloc | apply Ext.drew | apply Ext.drewN)))).wide (Nat.le_refl _) (by rw [World.size_alloc]; omega), ok7, (((((GG.setNew (Nat.le_refl _) _ _).setNew (Nat.le_refl _) _ _).setNew (Nat.le_refl _) _ _).setNew (Nat.le_refl _) _ _).setNew (Nat.le_refl _) _ _).ext (by repeat (with_reducible (first | assumption | exact Ext.refl _ | apply Ext.alloc | apply Ext.drew | apply Ext.drewN)))⟩
set_option maxHeartbeats 1600000 in
theorem MakeGrid_any (hi : Nat) (v : Value) (n : Nat) (w : World) (hv : Byts hi w v n) (hh : hi ≤ w.heap.size) (hn : n ≤ 1048576) :
    Calls Tryz.prog 7 #[v] w fun e w' => ∃ (g : Grd) (v : Value), e = .returned v ∧ g.R w.heap.size w'.heap.size w' v ∧ g.okB = true ∧ Ext w w' := by
  have HV := hid hv
  obtain ⟨a, cap, rfl, k1, k2⟩ := hv.open
  clear hv
  go_enter Tryz.func7, Tryz.ntmps7
  go_wp2_with fail
  refine (l32New_any hi _ n 4 _ (HV.out.ext hh (by repeat (with_reducible (first | assumption | exact Ext.refl _ | apply Ext.alloc | apply Ext.drew | apply Ext.drewN)))) (by simp; omega) hn (by decide)).mono ?_
  rintro e w1 ⟨B, rfl, hB, C1, x1⟩
  go_wp2_with fail
  refine (l17Grid_any hi B _ C1).mono ?_
  rintro e w2 ⟨g, v2, rfl, R2, ok2, G2⟩
  obtain ⟨a1, c1, a2, c2, rfl⟩ := R2.form
  rw [World.size_alloc] at hB
  have x1' : Ext w w1 := Ext.trans (by repeat (with_reducible (first | assumption | exact Ext.refl _ | apply Ext.alloc | apply Ext.drew | apply Ext.drewN))) x1
  have R0 := G2.blk ((Blk.new w 33 [.int .i64 0, .slice none 0 0, .int .i64 0, .int .i64 0, .slice none 0 0]).ext x1) (by omega)
  have q0 := R0.cell 0 rfl
  have q1 := R0.cell 1 rfl
  have q2 := R0.cell 2 rfl
  have q3 := R0.cell 3 rfl
  have q4 := R0.cell 4 rfl
  have f0 := R0.free 0
  have f1 := R0.free 1
  have f2 := R0.free 2
  have f3 := R0.free 3
  have f4 := R0.free 4
  have z1 := R0.lt
  have zz := x1.size
  rw [World.size_alloc] at zz
  have HR := hid R2
  have HG := hid (G2.up x1' (by omega))
  clear R2
  go_wp2
  refine bodyPost_ret (v := .agg #[.int .i64 g.n, .slice a1 g.m c1, .int .i64 g.tm, .int .i64 g.t.log, .slice a2 g.t.px.length c2]) (by simp [results, Tryz.results7, go_sem, *]) rfl ?_
  have hg := HG.out
  exact ⟨g, _, rfl, HR.out.set5 (by omega) (by omega) (Nat.le_refl _) _ _ _ _ _, ok2, (by repeat (first | with_reducible assumption | with_reducible exact Ext.refl _ | with_reducible apply Ext.alloc | with_reducible apply Ext.drew | with_reducible apply Ext.drewN | (with_reducible refine Ext.setCell ?_ (by simp; omega) _) | (with_reducible refine Ext.setCell ?_ (by simp) _)))⟩
end Go.Proofs.YtaegmenjgjdimaaGreat
end

section
/- This text walks the law FnOptimize. -/
namespace Go.Proofs.YtaegmenjgjdimaaGreat
open Go.RowKit

theorem shade_runB {c : Cod} {g : Grd} {X Y : List Int} (h : c.shade g = (X, Y, true)) : c.runB = true := by
  unfold Cod.shade at h
  split at h
  · rename_i hc
    have := hc.1
    simp only [Bool.and_eq_true] at this
    exact this.1
  · cases h
theorem runB_depth {c : Cod} (h : c.runB = true) : ∃ m : Int, c.depth = some m := by
  unfold Cod.runB at h
  simp only [Bool.and_eq_true] at h
  exact Option.isSome_iff_exists.1 h.1
set_option maxRecDepth 10000 in
set_option maxHeartbeats 3200000 in
theorem lawOpt (v : Value) (n : Nat) (W : World) (hv : Byts W.heap.size W v n) :
    Calls Tryz.prog 5 #[v] W fun e w' => e = .returned (.bool true) ∧ Ext W w' := by
  have HV := hid hv
  obtain ⟨a, cap, rfl, k1, k2⟩ := hv.open
  clear hv
  by_cases hn : n ≤ 1048576
  · go_enter Tryz.func5, Tryz.ntmps5
    go_wp2_with fail
    refine (MakeProgram_any W.heap.size _ n _ HV.out (Nat.le_refl _) hn).mono ?_
    rintro e w1 ⟨p, v1, rfl, R1, bd1, sm1, ch1, x1⟩
    obtain ⟨a1, c1, a2, c2, rfl⟩ := R1.form2
    have y1 : Ext w1 (w1.alloc (.cells #[.slice a1 p.ns.length c1, .slice a2 p.gs.length c2] 26)) := (by repeat (with_reducible (first | assumption | exact Ext.refl _ | apply Ext.alloc | apply Ext.drew | apply Ext.drewN)))
    have X1 := hid (x1.trans y1)
    have B1 := hid (Bx.made w1 #[.slice a1 p.ns.length c1, .slice a2 p.gs.length c2] 26)
    have P1 := hid (R1.ext (Nat.le_refl _) y1)
    have zy1 := y1.size
    clear R1 x1 y1
    go_wp2_with fail
    refine (MakeGrid_any W.heap.size _ n _ (HV.out.ext (Nat.le_refl _) X1.out) X1.out.size hn).mono ?_
    rintro e w3 ⟨g, v3, rfl, R3, ok3, x3⟩
    obtain ⟨a3, c3, a4, c4, rfl⟩ := R3.form
    have y3 : Ext w3 (w3.alloc (.cells #[.int .i64 g.n, .slice a3 g.m c3, .int .i64 g.tm, .int .i64 g.t.log, .slice a4 g.t.px.length c4] 33)) := (by repeat (with_reducible (first | assumption | exact Ext.refl _ | apply Ext.alloc | apply Ext.drew | apply Ext.drewN)))
    have X3 := hid (X1.out.trans (x3.trans y3))
    have B3 := hid (B1.out.ext (x3.trans y3))
    have P3 := hid (P1.out.ext zy1 (x3.trans y3))
    have G3 := hid (R3.ext (Nat.le_refl _) y3)
    have Q3 := hid (Bx.made w3 #[.int .i64 g.n, .slice a3 g.m c3, .int .i64 g.tm, .int .i64 g.t.log, .slice a4 g.t.px.length c4] 33)
    have zy3 := y3.size
    have zx3 := (x3.trans y3).size
    have HK := hid (Prg.chkB_K ch1)
    obtain ⟨X, Y, hsh, hXl, hYl, hXY⟩ := HK.out.shade ch1 ok3
    have hcs : p.code.small := ⟨by have := code_len HK.out; omega, by show (p.gs.map (·.name)).length ≤ 1048576; rw [List.length_map]; exact sm1.2⟩
    have HCS := hid hcs
    have HSH := hid hsh
    have HCH := hid ch1
    have b0 := B3.out.cell 0
    have b1 := B3.out.cell 1
    simp only [List.getElem?_toArray, List.getElem?_cons_zero, List.getElem?_cons_succ] at b0 b1
    have bl3 := B3.out.lt
    clear R3 x3 y3 X1 B1 P1 hsh hXY hcs hXl hYl HK
    go_wp2_with fail
    refine (iCompile_any _ _ _ p _ P3.out (by omega) HCH.out bd1 sm1.2).mono ?_
    rintro e w5 ⟨u, rfl, R5, x5⟩
    obtain ⟨K, hK⟩ : ∃ K, p.code = K := ⟨_, rfl⟩
    rw [hK] at R5 HSH HCS
    obtain ⟨a5, c5, a6, c6, rfl, -, -⟩ := R5.form
    have y5 : Ext w5 (w5.alloc (.cells #[.slice a5 K.xs.length c5, .slice a6 K.ls.length c6] 44)) := (by repeat (with_reducible (first | assumption | exact Ext.refl _ | apply Ext.alloc | apply Ext.drew | apply Ext.drewN)))
    have X5 := hid (X3.out.trans (x5.trans y5))
    have Q5 := hid (Q3.out.ext (x5.trans y5))
    have G5 := hid (G3.out.ext zy3 (x5.trans y5))
    have K5 := hid (R5.ext (Nat.le_refl _) y5)
    have B5 := hid (Bx.made w5 #[.slice a5 K.xs.length c5, .slice a6 K.ls.length c6] 44)
    have zy5 := y5.size
    have zx5 := (x5.trans y5).size
    have hrb := hid (shade_runB HSH.out)
    have hls : K.ls.length ≤ 2000000 := by have := HCS.out.2; omega
    have b0 := B5.out.cell 0
    have b1 := B5.out.cell 1
    simp only [List.getElem?_toArray, List.getElem?_cons_zero, List.getElem?_cons_succ] at b0 b1
    have bl5 := B5.out.lt
    clear hK R5 x5 y5 X3 B3 Q3 P3 G3 HCH
    go_wp2_with fail
    refine (iOptimize_any _ _ _ K _ K5.out (by omega) hrb.out hls).mono ?_
    rintro e w7 ⟨u, O, rfl, hF, hFl, R7, x7⟩
    obtain ⟨a7, c7, a8, c8, rfl, -, -⟩ := R7.form
    have hkp := hF.keep hrb.out
    have hso : O.shade g = (X, Y, true) := (hF.shade hrb.out g).trans HSH.out
    have HSO := hid hso
    have HFL := hid hFl
    have ho := hid hkp.1
    have hlo : O.ls.length ≤ 2000000 := by rw [hkp.2.1]; exact hls
    have hos : O.small := ⟨by have := hkp.2.2.1; have := HCS.out.1; omega, by rw [hkp.2.1]; exact HCS.out.2⟩
    have HOS := hid hos
    have hxl : O.xs.length ≤ K.xs.length := hkp.2.2.1
    obtain ⟨m, hm⟩ := runB_depth hrb.out
    obtain ⟨m', hm', hmm⟩ := hkp.2.2.2.1 m hm
    have HM := hid (show K.depth.getD 0 = m ∧ K.depth.isSome = true by rw [hm]; exact ⟨rfl, rfl⟩)
    have HM' := hid (show O.depth.getD 0 = m' ∧ O.depth.isSome = true by rw [hm']; exact ⟨rfl, rfl⟩)
    have y7 : Ext w7 (w7.alloc (.cells #[.slice a7 O.xs.length c7, .slice a8 O.ls.length c8] 44)) := (by repeat (with_reducible (first | assumption | exact Ext.refl _ | apply Ext.alloc | apply Ext.drew | apply Ext.drewN)))
    have X7 := hid (X5.out.trans (x7.trans y7))
    have B7 := hid (B5.out.ext (x7.trans y7))
    have Q7 := hid (Q5.out.ext (x7.trans y7))
    have zx7 := (x7.trans y7).size
    have G7 := hid (G5.out.ext (by omega) (x7.trans y7))
    have K7 := hid (K5.out.ext (by omega) (x7.trans y7))
    have O7 := hid (R7.ext (Nat.le_refl _) y7)
    have D7 := hid (Bx.made w7 #[.slice a7 O.xs.length c7, .slice a8 O.ls.length c8] 44)
    have zy7 := y7.size
    have q0 := Q7.out.cell 0
    have q1 := Q7.out.cell 1
    have q2 := Q7.out.cell 2
    have q3 := Q7.out.cell 3
    have q4 := Q7.out.cell 4
    have ql := Q7.out.lt
    have b0 := B7.out.cell 0
    have b1 := B7.out.cell 1
    have bl7 := B7.out.lt
    simp only [List.getElem?_toArray, List.getElem?_cons_zero, List.getElem?_cons_succ] at b0 b1 q0 q1 q2 q3 q4
    clear R7 x7 y7 X5 B5 Q5 G5 K5 hkp hso hos hF hFl hm hm'
    go_wp2_with fail
    refine (iShadeGrid_any _ _ _ _ _ _ K g _ HSH.out K7.out (by omega) G7.out (by omega) HCS.out).mono ?_
    rintro e w9 ⟨r1, r2, rfl, h9, hh1, hh2, I1, I2, x9⟩
    obtain ⟨e1, d1, rfl, -⟩ := I1.1.form
    obtain ⟨e2, d2, rfl, -⟩ := I2.1.form
    have X9 := hid (X7.out.trans x9)
    have B9 := hid (B7.out.ext x9)
    have Q9 := hid (Q7.out.ext x9)
    have D9 := hid (D7.out.ext x9)
    have zx9 := x9.size
    have G9 := hid (G7.out.ext (by omega) x9)
    have K9 := hid (K7.out.ext (by omega) x9)
    have O9 := hid (O7.out.ext (by omega) x9)
    have J1 := hid I1.1.ints
    have J2 := hid I2.1.ints
    have q0 := Q9.out.cell 0
    have q1 := Q9.out.cell 1
    have q2 := Q9.out.cell 2
    have q3 := Q9.out.cell 3
    have q4 := Q9.out.cell 4
    have ql := Q9.out.lt
    have b0 := D9.out.cell 0
    have b1 := D9.out.cell 1
    have dl9 := D9.out.lt
    simp only [List.getElem?_toArray, List.getElem?_cons_zero, List.getElem?_cons_succ] at b0 b1 q0 q1 q2 q3 q4
    clear I1 I2 x9 X7 B7 Q7 G7 K7 O7 D7
    go_wp2_with fail
    refine (iShadeGrid_any _ _ _ _ _ _ O g _ HSO.out O9.out (by omega) G9.out (by omega) HOS.out).mono ?_
    rintro e w11 ⟨r3, r4, rfl, h11, hh3, hh4, I3, I4, x11⟩
    obtain ⟨e3, d3, rfl, -⟩ := I3.1.form
    obtain ⟨e4, d4, rfl, -⟩ := I4.1.form
    have X11 := hid (X9.out.trans x11)
    have B11 := hid (B9.out.ext x11)
    have D11 := hid (D9.out.ext x11)
    have zx11 := x11.size
    have K11 := hid (K9.out.ext (by omega) x11)
    have O11 := hid (O9.out.ext (by omega) x11)
    have J3 := hid (J1.out.ext (Nat.le_refl _) x11)
    have J4 := hid (J2.out.ext (Nat.le_refl _) x11)
    have J5 := hid I3.1.ints
    have J6 := hid I4.1.ints
    have b0 := B11.out.cell 0
    have b1 := B11.out.cell 1
    have bl11 := B11.out.lt
    simp only [List.getElem?_toArray, List.getElem?_cons_zero, List.getElem?_cons_succ] at b0 b1
    clear I3 I4 x11 X9 B9 Q9 D9 G9 K9 O9 J1 J2 q0 q1 q2 q3 q4
    go_wp2_with fail
    refine (iDepth_val HM.out _ _ _ _ K11.out (by omega) hls).mono ?_
    rintro e w12 ⟨rfl, x12⟩
    have X12 := hid (X11.out.trans x12)
    have B12 := hid (B11.out.ext x12)
    have D12 := hid (D11.out.ext x12)
    have zx12 := x12.size
    have O12 := hid (O11.out.ext (by omega) x12)
    have J7 := hid (J3.out.ext (by omega) x12)
    have J8 := hid (J4.out.ext (by omega) x12)
    have J9 := hid (J5.out.ext (Nat.le_refl _) x12)
    have J10 := hid (J6.out.ext (Nat.le_refl _) x12)
    have b0 := D12.out.cell 0
    have b1 := D12.out.cell 1
    have dl12 := D12.out.lt
    simp only [List.getElem?_toArray, List.getElem?_cons_zero, List.getElem?_cons_succ] at b0 b1
    clear x12 X11 B11 D11 K11 O11 J3 J4 J5 J6
    go_wp2_with fail
    refine (iDepth_val HM'.out _ _ _ _ O12.out (by omega) hlo).mono ?_
    rintro e w13 ⟨rfl, x13⟩
    have X13 := hid (X12.out.trans x13)
    have B13 := hid (B12.out.ext x13)
    have D13 := hid (D12.out.ext x13)
    have zx13 := x13.size
    have O13 := hid (O12.out.ext (by omega) x13)
    have I1 := hid (J7.out.ext (by omega) x13)
    have I2 := hid (J8.out.ext (by omega) x13)
    have I3 := hid (J9.out.ext (by omega) x13)
    have I4 := hid (J10.out.ext (by omega) x13)
    clear x13 X12 B12 D12 O12 J7 J8 J9 J10 b0 b1
    have bl13 := B13.out.lt
    have dl13 := D13.out.lt
    have hmm' : m' ≤ m := hmm
    have hle : decide ((O.xs.length : Int) ≤ (K.xs.length : Int)) = true := decide_eq_true (by omega)
    have p0 := B13.out.cell 0
    have p1 := B13.out.cell 1
    have d0 := D13.out.cell 0
    have d1' := D13.out.cell 1
    simp only [List.getElem?_toArray, List.getElem?_cons_zero, List.getElem?_cons_succ] at p0 p1 d0 d1'
    have zz13 : w11.heap.size ≤ w13.heap.size := Nat.le_trans zx12 zx13
    go_wp2_with fail
    refine wp_region_stages [([0, 1, 2, 3, 4, 5, 6, 7, 8, 9, 10, 11, 12, 13, 14, 15, 16, 17, 18, 19, 20], 21), ([22, 23, 24, 25], 26), ([27, 28, 29, 30, 31, 32, 33, 34, 35, 36, 37, 38, 40], 39), ([], 41), ([42], 43)] 99 w13.heap.size (by kernel_rfl) (by kernel_rfl) ?_
    refine wpStages_cons ?_
    simp only [List.filterMap_cons, List.filterMap_nil, List.getElem?_toArray, List.getElem?_cons_zero, List.getElem?_cons_succ]
    show wpQuiet _ _ _ _ [_, _, _, _, _, _, _, _, _, _, _, _, _, _, _, _, _, _, _, _, _] _
    repeat (go_big_quiet_step (fail))
    refine wpQuiet_nil ⟨_, rfl, fun K hK => ?_⟩
    go_wp2_with fail
    refine (sameInts_same _ _ _ _ _ _ X _ (I1.out.ext (by omega) (Ext.drew (Ext.refl _))) (I3.out.ext (by omega) (Ext.drew (Ext.refl _)))).mono ?_
    rintro e w14 ⟨rfl, x14⟩
    have y14 : Ext w13 w14 := Ext.trans (Ext.drew (Ext.refl _)) x14
    go_wp2_with fail
    refine hK _ _ (.inr (y14.same (Nat.le_refl _))) ?_
    clear hK K
    refine wpStages_cons ?_
    simp only [List.filterMap_cons, List.filterMap_nil, List.getElem?_toArray, List.getElem?_cons_zero, List.getElem?_cons_succ]
    show wpQuiet _ _ _ _ [_, _, _, _] _
    try simp only [Act.put, List.setIfInBounds_toArray, List.set_cons_succ, List.set_cons_zero]
    repeat (go_big_quiet_step (fail))
    refine wpQuiet_nil ⟨_, rfl, fun K hK => ?_⟩
    go_wp2_with fail
    refine (sameInts_same _ _ _ _ _ _ Y _ (I2.out.ext (by omega) y14) (I4.out.ext (by omega) y14)).mono ?_
    rintro e w15 ⟨rfl, x15⟩
    have y15 : Ext w13 w15 := y14.trans x15
    go_wp2_with fail
    refine hK _ _ (.inr (y15.same (Nat.le_refl _))) ?_
    clear hK K
    refine wpStages_cons ?_
    simp only [List.filterMap_cons, List.filterMap_nil, List.getElem?_toArray, List.getElem?_cons_zero, List.getElem?_cons_succ]
    show wpQuiet _ _ _ _ [_, _, _, _, _, _, _, _, _, _, _, _, _] _
    try simp only [Act.put, List.setIfInBounds_toArray, List.set_cons_succ, List.set_cons_zero]
    repeat (go_big_quiet_step (fail))
    refine wpQuiet_nil ⟨_, rfl, fun K hK => ?_⟩
    go_wp2_with fail
    refine (iOptimize_any _ _ _ O _ (O13.out.ext (by omega) y15) (by have := y15.size; omega) ho.out hlo).mono ?_
    rintro e w16 ⟨u, O2, rfl, hF2, -, R16, x16⟩
    obtain rfl := hF2.flat HFL.out
    obtain ⟨a9, c9, a10, c10, rfl, -, -⟩ := R16.form
    have y16 : Ext w13 w16 := y15.trans x16
    have R16' := hid R16
    clear R16
    go_wp2_with fail
    refine hK _ _ (.inr (y16.same (Nat.le_refl _))) ?_
    clear hK K
    refine wpStages_cons ?_
    simp only [List.filterMap_nil]
    show wpQuiet _ _ _ _ [] _
    try simp only [Act.put, List.setIfInBounds_toArray, List.set_cons_succ, List.set_cons_zero]
    repeat (go_big_quiet_step (fail))
    refine wpQuiet_nil ⟨_, rfl, fun K hK => ?_⟩
    go_wp2_with fail
    refine (sameCode_same _ _ _ _ _ _ O2 _ R16'.out (O13.out.ext (by omega) y16) (Nat.le_refl _) (by have := y16.size; omega)).mono ?_
    rintro e w17 ⟨rfl, x17⟩
    have y17 : Ext w13 w17 := y16.trans x17
    go_wp2_with fail
    refine hK _ _ (.inr (y17.same (Nat.le_refl _))) ?_
    clear hK K
    refine wpStages_cons ?_
    simp only [List.filterMap_cons, List.filterMap_nil, List.getElem?_toArray, List.getElem?_cons_zero, List.getElem?_cons_succ]
    show wpQuiet _ _ _ _ [_] _
    try simp only [Act.put, List.setIfInBounds_toArray, List.set_cons_succ, List.set_cons_zero]
    repeat (go_big_quiet_step (fail))
    refine wpQuiet_nil ⟨_, rfl, fun K hK => ?_⟩
    go_wp2_with fail
    go_wp2_with fail
    refine hK _ _ (.inr (y17.same (Nat.le_refl _))) ?_
    clear hK K
    refine wpStages_nil ?_
    go_wp2
    go_ret
    exact ⟨rfl, X13.out.trans y17⟩
  · go_enter Tryz.func5, Tryz.ntmps5
    go_wp2
    go_ret
    exact ⟨rfl, (by repeat (with_reducible (first | assumption | exact Ext.refl _ | apply Ext.alloc | apply Ext.drew | apply Ext.drewN)))⟩
end Go.Proofs.YtaegmenjgjdimaaGreat
end

section
/- This text reads the laws' arguments off the data that the row speaks of: integers, slices of integers, textures. -/
namespace Go.Proofs.YtaegmenjgjdimaaGreat
open Go.ChangeShapes Go.WideShapes Go.ChangeAt Go.RowKit

theorem laidOut : laidOutB Tryz.prog = true := by kernel_rfl

section
variable {H : Type} {enc : TypeId × Value → H} {W : World} {base b0 : Nat} {sp : Nat → Bool} {held : Bool}

theorem wf_I64 {n : Int} (h : (Lit.int .i64 n).wf = true) : I64 n := by
  simp [Lit.wf, IntKind.min, IntKind.max, IntKind.signed, IntKind.bits] at h
  exact ⟨by omega, by omega⟩
set_option maxRecDepth 100000 in
theorem argInt {v : Value} {d : DataW H} {p : List MemPlace} (hv : Value.okWide Tryz.prog W .any b0 3 v) (h : DataW.Trod enc Tryz.prog W base sp held 3 v d p) : ∃ n, v = .int .i64 n ∧ I64 n := by
  obtain ⟨n, rfl, _, _, hw⟩ := open_int Tryz.underlying3 hv h
  exact ⟨n, rfl, wf_I64 hw⟩
set_option maxRecDepth 100000 in
/-- what lies behind the cell of a slice of integers -/
theorem cellInts {fuel : Nat} {c : Value} {y : DataW H × List MemPlace} (h : DataW.trod enc Tryz.prog W base sp held fuel 29 [c] = some y) : ∃ xs, Ints 0 W.heap.size W c xs := by
  rcases open_ints Tryz.underlying29 Tryz.underlying3 (by kernel_rfl) h with ⟨hcs, _⟩ | ⟨a, len, cap, zs, hcs, _, hl, hm, hz, _, hcell, hwz⟩
  · obtain rfl : c = .slice none 0 0 := by simpa using hcs
    exact ⟨[], none, 0, rfl, Nat.le_refl _, by unfold maxLen; omega, fun i x hx => by simp at hx⟩
  · obtain rfl : c = .slice (some a) len cap := by simpa using hcs
    have hlen : (zs.take len).length = len := by
      rw [List.length_take, hz]
      split <;> omega
    refine ⟨zs.take len, some a, cap, by rw [hlen], by omega, hm, fun i x hx => ?_⟩
    have hi : i < len := by have := (List.getElem?_eq_some_iff.1 hx).1; omega
    rw [List.getElem?_take, if_pos hi] at hx
    have hzi := (List.getElem?_eq_some_iff.1 hx).1
    have hxx : zs.getD i 0 = x := by simp [List.getD, hx]
    obtain ⟨b, o, s⟩ := a
    obtain rfl : s = none := by
      cases s with
      | none => rfl
      | some s =>
        have h0 := hcell 0 (by omega)
        simp only [World.cell?, Addr.add, if_true] at h0
        split at h0 <;> simp at h0
    have hc := hcell i hzi
    rw [hxx] at hc
    have ha : (⟨b, o, none⟩ : Addr).add i = ⟨b, o + i, none⟩ := by
      unfold Addr.add
      split
      · rename_i e; subst e; rfl
      · rfl
    rw [ha] at hc
    refine ⟨wf_I64 (hwz x (List.mem_of_getElem? hx)), b, o, rfl, Nat.zero_le _, ?_, hc⟩
    simp only [World.cell?] at hc
    split at hc
    · rename_i e; exact (Array.getElem?_eq_some_iff.1 e).1
    · cases hc
end

end Go.Proofs.YtaegmenjgjdimaaGreat
end

section
/- This text reads the laws' arguments that are slices of bytes. -/
namespace Go.Proofs.YtaegmenjgjdimaaGreat
open Go.ChangeShapes Go.WideShapes Go.ChangeAt Go.RowKit
section
variable {H : Type} {enc : TypeId × Value → H} {W : World} {base b0 : Nat} {sp : Nat → Bool} {held : Bool}

theorem wf_U8 {n : Int} (h : (Lit.int .u8 n).wf = true) : 0 ≤ n ∧ n ≤ 255 := by
  simp [Lit.wf, IntKind.min, IntKind.max, IntKind.signed, IntKind.bits] at h
  omega
set_option maxRecDepth 100000 in
theorem cellByts {fuel : Nat} {c : Value} {y : DataW H × List MemPlace} (h : DataW.trod enc Tryz.prog W base sp held fuel 22 [c] = some y) : ∃ n, Byts W.heap.size W c n := by
  rcases open_ints Tryz.underlying22 Tryz.underlying5 (by kernel_rfl) h with ⟨hcs, _⟩ | ⟨a, len, cap, zs, hcs, _, hl, hm, hz, _, hcell, hwz⟩
  · obtain rfl : c = .slice none 0 0 := by simpa using hcs
    exact ⟨0, none, 0, rfl, Nat.le_refl _, by unfold maxLen; omega, fun i hx => by omega⟩
  · obtain rfl : c = .slice (some a) len cap := by simpa using hcs
    refine ⟨len, some a, cap, rfl, by omega, hm, fun i hi => ?_⟩
    have hlz : len ≤ zs.length := by rw [hz]; split <;> omega
    have hzi : i < zs.length := by omega
    obtain ⟨b, o, s⟩ := a
    obtain rfl : s = none := by
      cases s with
      | none => rfl
      | some s =>
        have h0 := hcell 0 (by omega)
        simp only [World.cell?, Addr.add, if_true] at h0
        split at h0 <;> simp at h0
    have hc := hcell i hzi
    have ha : (⟨b, o, none⟩ : Addr).add i = ⟨b, o + i, none⟩ := by
      unfold Addr.add
      split
      · rename_i e; subst e; rfl
      · rfl
    rw [ha] at hc
    have hw := wf_U8 (hwz (zs.getD i 0) (by rw [List.getD_eq_getElem?_getD, List.getElem?_eq_getElem hzi]; exact List.getElem_mem hzi))
    refine ⟨b, o, zs.getD i 0, rfl, ?_, hw.1, hw.2, hc⟩
    simp only [World.cell?] at hc
    split at hc
    · rename_i e; exact (Array.getElem?_eq_some_iff.1 e).1
    · cases hc
set_option maxRecDepth 100000 in
theorem argByts {v : Value} {d : DataW H} {p : List MemPlace} (hv : Value.okWide Tryz.prog W .any b0 22 v) (h : DataW.Trod enc Tryz.prog W base sp held 22 v d p) : ∃ n, Byts W.heap.size W v n := by
  obtain ⟨a, len, cap, rfl⟩ := okWide_slice Tryz.underlying22 hv
  obtain ⟨fuel, hf⟩ := h
  exact cellByts hf
end
end Go.Proofs.YtaegmenjgjdimaaGreat
end

section
/- This text lifts the walk of FnOptimize to the given statement. -/
namespace Go.Proofs.YtaegmenjgjdimaaGreat.fnOptimize
open Go.ChangeShapes Go.WideShapes Go.ChangeAt Go.RowKit
set_option linter.unusedVariables false

theorem own : ownKnob Tryz.prog.godebug = none := by kernel_rfl
theorem laid : laidOutB Tryz.prog = true := by kernel_rfl

set_option maxRecDepth 100000 in
theorem lifted (os : Os) (started : os.Started) (H : Type) (enc : TypeId × Value → H) :
    ReturnsInHanded {} Tryz.checked os 5 .any (Rows.fnOptimizeSpec.pre6 enc Tryz.prog Tryz.f5 Rows.fnOptimizeRow.domain false) (Rows.fnOptimizeSpec.post enc Tryz.prog Tryz.f5 false true false false) := by
  refine returnsInHanded_of_change (C := Tryz.checked) own started (by kernel_rfl) Tryz.func5
    (ChangeSpec.witness6 (enc := enc) (C := Tryz.checked) false ⟨#[], #[.slice none 0 0], []⟩ 8 (by kernel_rfl) (by kernel_rfl) (by kernel_rfl) (by kernel_rfl)) ?_
  intro W base args ds gs before hval0 hW hcnd _
  have hval : ∀ (j : Nat) t v, Tryz.f5.params[j]? = some t → args[j]? = some v → Value.okWide Tryz.prog W .any base t v := hval0
  have hW' := hW
  obtain ⟨p, q, hA0, hV, rfl, hfz, hnd⟩ := hW
  have hA : DataW.TrodAll enc Tryz.prog W 0 (fun _ => true) true Tryz.f5.params.toList args.toList ds p := hA0
  rw [Tryz.params5] at hA hval
  obtain ⟨v0, vs0, d0, ds0, p0, q0, hargs, rfl, rfl, h0, r0⟩ := trodAll_cons hA
  obtain ⟨rfl, rfl, rfl⟩ := trodAll_nil r0
  obtain rfl : args = #[v0] := by cases args; simp_all
  obtain ⟨rfl, rfl⟩ := trodVars_none hV
  have k0 := h0
  have lt0 : ∀ x ∈ p0, x.block < W.heap.size := by obtain ⟨m, hm⟩ := k0; exact DataW.trod_lt m _ _ _ hm
  obtain ⟨n0, w0⟩ := argByts (hval 0 22 v0 rfl rfl) h0
  clear hA0 hval0
  refine (lawOpt v0 n0 W w0).mono fun e W' ⟨he, bel0⟩ => ?_
  have bel : Below W.heap.size W W' := bel0
  subst he
  exact ⟨_, rfl, _, _, _, [], _, [], hW', trodAll_mk1 (shut_bool Tryz.underlying4 _), (trodAll_cons_mk (Below.trod laid (by kernel_rfl) (of_decide_eq_true (by kernel_rfl)) k0 bel lt0) trodAll_mk0), rfl, bel.frame _, fun h => by cases h⟩

theorem over : Rows.fnOptimizeRow.holds Tryz.pinned (OpenSpec.ofChange Rows.fnOptimizeSpec) :=
  OpenClaim.holds_of_wide 5 Tryz.f5 rfl rfl rfl rfl rfl rfl rfl ⟨rfl, rfl, rfl, rfl, rfl⟩ rfl rfl rfl rfl rfl (by kernel_rfl) Tryz.func5 (by kernel_rfl)
    (of_decide_eq_true (by kernel_rfl)) (by unfold Func.isWrapper; first | (rw [if_pos (by decide +kernel)]; kernel_rfl) | (rw [if_neg (by decide +kernel)]; exact ⟨rfl, rfl⟩))
    (fun os started H enc _ => lifted os started H enc)

theorem proved : Rows.FnOptimizeSaid := over
end Go.Proofs.YtaegmenjgjdimaaGreat.fnOptimize
end
