/- This text proves what the program's ImageOf hands back. -/
import Derived.Test.YteeclghkfcanlaaFilm3
namespace Go.Proofs.Yteeclghkfcanlaa
open Go.RowKit Go.Conc

set_option maxRecDepth 100000 in
set_option maxHeartbeats 1600000 in
theorem iImageOf_any (lo hi : Nat) (v : Value) (F : Fm) (w : World) (hv : F.R lo hi w v) (hh : hi ≤ w.heap.size) :
    Calls Try.prog 18 #[v] w fun e w' => ∃ v', e = .returned (.tuple #[v', .bool F.img.2]) ∧ F.img.1.Own w.heap.size w' v' ∧ Ext w w' := by
  have HV := hid hv
  obtain ⟨u, d, rfl, _, _, hu, hd⟩ := hv
  have HUI := hid hu
  obtain ⟨a, cap, rfl, _⟩ := hu.open
  obtain ⟨a', cap', rfl, _⟩ := hd.open
  clear hu hd
  cases h1 : F.done
  · have e : F.img = (⟨0, 0, []⟩, false) := by unfold Fm.img; rw [h1]; rfl
    rw [e]
    have HI := hid (fun w0 hv hh => iIsComplete_val h1 lo hi (.agg #[.int .i64 F.w, .int .i64 F.h, .slice a F.px.length cap, .slice a' F.n cap']) w0 hv hh)
    clear e h1
    go_enter Try.func18, Try.ntmps18
    go_wp2_with fail
    refine (HI.out _ (HV.out.ext hh (by repeat (with_reducible (first | assumption | exact Ext.refl _ | apply Ext.alloc | apply Ext.drew | apply Ext.drewN)))) (by simp; omega)).mono ?_
    rintro e w1 ⟨rfl, h1⟩
    obtain ⟨c1, f1⟩ := h1.cells
    have z1 := h1.size
    simp only [World.size_alloc] at z1
    have q1 : w.heap.size < w1.heap.size := by omega
    have q2 : w.heap.size + 1 < w1.heap.size := by omega
    have E1 : Ext w w1 := Ext.trans (by repeat (with_reducible (first | assumption | exact Ext.refl _ | apply Ext.alloc | apply Ext.drew | apply Ext.drewN))) h1
    go_wp2
    exact bodyPost_ret (v := .tuple #[.agg #[.int .i64 0, .int .i64 0, .slice none 0 0], .bool false]) (by simp [results, Try.results18, go_sem, *]) rfl ⟨_, rfl, ⟨_, rfl, OwnInts.nil _ _⟩, (by repeat (first | with_reducible assumption | with_reducible exact Ext.refl _ | with_reducible apply Ext.alloc | with_reducible apply Ext.drew | with_reducible apply Ext.drewN | (with_reducible refine Ext.setCell ?_ (by simp; omega) _) | (with_reducible refine Ext.setCell ?_ (by simp) _)))⟩
  · have e : F.img = (⟨F.w, F.h, F.px⟩, true) := by unfold Fm.img; rw [h1]; rfl
    rw [e]
    have hl := Fm.done_len h1
    have HI := hid (fun w0 hv hh => iIsComplete_val h1 lo hi (.agg #[.int .i64 F.w, .int .i64 F.h, .slice a F.px.length cap, .slice a' F.n cap']) w0 hv hh)
    clear e h1
    refine calls_of_runsN Try.func18 rfl ?_
    simp only [Try.ntmps18, List.size_toArray, List.length_cons, List.length_nil, Nat.reduceAdd, Nat.reduceSub, Array.replicate_succ, Array.replicate_zero, List.push_toArray, List.append_toArray, List.nil_append, List.cons_append]
    refine runsN_seq (runsN_wp ?_)
    go_wp2
    refine runsN_seq (runsN_wp ?_)
    go_wp2_with fail
    refine (HI.out _ (HV.out.ext hh (by repeat (with_reducible (first | assumption | exact Ext.refl _ | apply Ext.alloc | apply Ext.drew | apply Ext.drewN)))) (by simp; omega)).mono ?_
    rintro e w1 ⟨rfl, h1⟩
    obtain ⟨c1, f1⟩ := h1.cells
    have z1 := h1.size
    simp only [World.size_alloc] at z1
    have q1 : w.heap.size < w1.heap.size := by omega
    have q2 : w.heap.size + 1 < w1.heap.size := by omega
    have E1 : Ext w w1 := Ext.trans (by repeat (with_reducible (first | assumption | exact Ext.refl _ | apply Ext.alloc | apply Ext.drew | apply Ext.drewN))) h1
    go_wp2_with fail
    refine runsN_seq (runsN_wp ?_)
    refine wp_region_stages [([0, 1, 2, 3, 4, 5], 6), ([7], 8)] 99 w1.heap.size (by kernel_rfl) (by kernel_rfl) ?_
    refine wpStages_cons ?_
    simp only [List.filterMap_cons, List.filterMap_nil, List.getElem?_toArray, List.getElem?_cons_zero, List.getElem?_cons_succ]
    show wpQuiet _ _ _ _ [_, _, _, _, _, _] _
    repeat (go_big_quiet_step (fail))
    refine wpQuiet_nil ⟨_, rfl, fun K hK => ?_⟩
    go_wp2_with fail
    refine (cloneInts_any lo hi _ F.px _ (HUI.out.ext hh (E1.trans (by repeat (with_reducible (first | assumption | exact Ext.refl _ | apply Ext.alloc | apply Ext.drew | apply Ext.drewN))))) (by simp; omega) hl.1 hl.2).mono ?_
    rintro e w2 ⟨v2, rfl, O2, h2⟩
    obtain ⟨a2, n2, rfl, _⟩ := O2.form
    have E12 : Ext w1 w2 := Ext.trans (by repeat (with_reducible (first | assumption | exact Ext.refl _ | apply Ext.alloc | apply Ext.drew | apply Ext.drewN))) h2
    go_wp2_with fail
    refine hK _ _ (.inr (E12.same (Nat.le_refl _))) ?_
    clear hK K
    refine wpStages_cons ?_
    simp only [List.filterMap_cons, List.filterMap_nil, List.getElem?_toArray, List.getElem?_cons_zero, List.getElem?_cons_succ]
    show wpQuiet _ _ _ _ [_] _
    try simp only [Act.put, List.getElem_toArray, List.getElem_cons_succ, List.getElem_cons_zero, List.setIfInBounds_toArray, List.set_cons_succ, List.set_cons_zero]
    repeat (go_big_quiet_step (fail))
    refine wpQuiet_nil ⟨_, rfl, fun K hK => ?_⟩
    go_wp2_with fail
    refine (finished_any F.w F.h F.px.length n2 a2 _).mono ?_
    rintro e w3 ⟨rfl, hch, h3⟩
    have z3 := h3.size
    go_wp2_with fail
    refine hK _ _ (.inr ((E12.trans h3).same (Nat.le_refl _))) ?_
    clear hK K
    refine wpStages_nil ?_
    go_wp2_with fail
    refine runsN_seq (runsN_region ?_)
    show runsR _ _ [0, 1, 2] _ _ _
    refine runsR_select (c := w2.heap.size + 1) (cap := 1) (buf := #[.agg #[.int .i64 F.w, .int .i64 F.h, .slice a2 F.px.length n2]]) (s := 1) (r := 0) (tm := false) (closed := false) (z := .agg #[.int .i64 0, .int .i64 0, .slice none 0 0]) rfl rfl (by simp [execOp, Act.eval, go_sem, rcase]) hch (by simp) ?_
    have H4 := below_setChan h3 (c := w2.heap.size + 1) (by omega) 1 #[] false 1 1 false
    obtain ⟨w4, hw4⟩ : ∃ w4, w3.setChan (w2.heap.size + 1) 1 #[] false 1 1 false = w4 := ⟨_, rfl⟩
    have e0 : (#[Value.agg #[.int .i64 F.w, .int .i64 F.h, .slice a2 F.px.length n2]] : Array Value).extract 1 (#[Value.agg #[.int .i64 F.w, .int .i64 F.h, .slice a2 F.px.length n2]] : Array Value).size = #[] := by simp
    have e5 : (#[Value.agg #[.int .i64 F.w, .int .i64 F.h, .slice a2 F.px.length n2]] : Array Value).getD 0 undef = .agg #[.int .i64 F.w, .int .i64 F.h, .slice a2 F.px.length n2] := rfl
    rw [e0, hw4, e5]
    rw [hw4] at H4
    have h4 : Ext w2 w4 := H4
    clear hw4 H4 e0 e5 hch
    refine runsR_value (v := .int .i64 0) rfl rfl (by simp [execOp, Act.eval, Act.put, go_sem]) ?_
    refine runsR_value (v := .bool true) rfl rfl (by simp [execOp, Act.eval, Act.put, go_sem]) ?_
    refine runsR_ops ?_
    refine runsN_wp ?_
    simp only [Act.put, List.getElem_toArray, List.getElem_cons_succ, List.getElem_cons_zero, List.setIfInBounds_toArray, List.set_cons_succ, List.set_cons_zero]
    have E14 : Ext w1 w4 := E12.trans h4
    have z4 := E14.size
    obtain ⟨c4, f4⟩ := E14.cells
    have q3 : w.heap.size < w4.heap.size := by omega
    have q4 : w.heap.size + 1 < w4.heap.size := by omega
    have E4 : Ext w w4 := E1.trans E14
    have O4 := hid (O2.ext h4)
    have z2 := E12.size
    go_wp2
    refine endPost_ret (v := .tuple #[.agg #[.int .i64 F.w, .int .i64 F.h, .slice a2 F.px.length n2], .bool true]) (by simp [results, Try.results18, go_sem, *]) rfl ⟨_, rfl, ⟨_, rfl, ?_⟩, (by repeat (first | with_reducible assumption | with_reducible exact Ext.refl _ | with_reducible apply Ext.alloc | with_reducible apply Ext.drew | with_reducible apply Ext.drewN | (with_reducible refine Ext.setCell ?_ (by simp; omega) _) | (with_reducible refine Ext.setCell ?_ (by simp) _)))⟩
    exact ((((O4.out.setLow (by simp; omega) _).setLow (by simp; omega) _).setLow (by simp; omega) _).alloc _).low (by simp; omega)
end Go.Proofs.Yteeclghkfcanlaa
