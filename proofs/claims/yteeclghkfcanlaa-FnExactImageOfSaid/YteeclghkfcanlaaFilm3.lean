/- This text proves what ImageOf of both sides hands back. -/
import Derived.Test.YteeclghkfcanlaaFilm2
import Derived.Test.YteeclghkfcanlaaL15g
import Derived.Test.YteeclghkfcanlaaChanN
namespace Go.Proofs.Yteeclghkfcanlaa
open Go.RowKit Go.Conc

/-- an image: sides and pixels -/
structure Im where
  (w h : Int) (px : List Int)
def Im.Own (I : Im) (lo : Nat) (w : World) (v : Value) : Prop := ∃ u, v = .agg #[.int .i64 I.w, .int .i64 I.h, u] ∧ OwnInts lo w u I.px
/-- the image and true; or the empty image and false -/
def Fm.img (F : Fm) : Im × Bool := if F.done then (⟨F.w, F.h, F.px⟩, true) else (⟨0, 0, []⟩, false)
theorem Fm.done_len {F : Fm} (h : F.done = true) : 1 ≤ F.px.length ∧ F.px.length ≤ 144 := by
  unfold Fm.done Fm.okB at h
  simp only [Bool.and_eq_true, decide_eq_true_eq] at h
  obtain ⟨⟨⟨⟨⟨⟨h1, h2⟩, h3⟩, _⟩, _⟩, _⟩, _⟩ := h
  have := prod_bd h1 h2
  omega

theorem sliceNil (b off n cap : Nat) (w : World) : (binOp .eql 34 (.slice (some ⟨b, off, none⟩) n cap) (.slice none 0 0)).run Try.prog w = .ok (.bool false) w := by
  simp only [binOp]
  simp [Op.equal, Op.maxDepth, Lib.run_equalIn_slice_nil w 9999 34 3 (some ⟨b, off, none⟩) n cap 0 0 Try.underlying34]
set_option maxRecDepth 100000 in
set_option maxHeartbeats 800000 in
theorem cloneInts_any (lo hi : Nat) (u : Value) (xs : List Int) (w : World) (hu : Ints lo hi w u xs) (hh : hi ≤ w.heap.size) (h1 : 1 ≤ xs.length) (h2 : xs.length ≤ 144) :
    Calls Try.prog 54 #[u] w fun e w' => ∃ v', e = .returned v' ∧ OwnInts w.heap.size w' v' xs ∧ Ext w w' := by
  obtain ⟨a, cap, rfl, HU⟩ := hu.open
  obtain ⟨b, off, rfl, hb1, hb2, _⟩ := HU.at (k := 0) (by omega)
  have l1 := HU.le
  have l2 := HU.cap
  clear hu
  go_enter Try.func54, Try.ntmps54
  have HC : ∀ i y, xs[i]? = some y → I64 y ∧ (w.alloc (.cells #[] 3)).cell? ⟨b, off + i, none⟩ = some (.int .i64 y) := by
    intro i y hy
    obtain ⟨h3, b', off', e, h4, h5, h6⟩ := HU.cell i y hy
    simp only [Option.some.injEq, Addr.mk.injEq, and_true] at e
    obtain ⟨rfl, rfl⟩ := e
    exact ⟨h3, (((Ext.refl w).alloc _).cells.1 b _ (by omega)).trans h6⟩
  have HC := hid HC
  have hnil := fun w => sliceNil b off xs.length cap w
  go_wp2_with (at_builtin; refine wpList_append_ints _ rfl _ _ rfl w.heap.size (.slice (some ⟨w.heap.size, 0, none⟩) 0 0) [] xs rfl (OwnInts.empty (Nat.le_refl _) (heap_alloc_new w _)) b off cap rfl HC.out (by simp; omega) (by simp) ?_; intro v' w1 hown hg; obtain ⟨a', c', rfl, _⟩ := hown.form)
  go_ret
  exact ⟨_, rfl, by simpa using hown, ((Ext.refl w).alloc _).grown hg (fun k e => by simp [Value.ownBlock] at e; omega)⟩

theorem info_Image : ∃ i, Try.prog.info? 40 = some i ∧ i.bytes = 40 := by
  have h : (Try.prog.info? 40).map (·.bytes) = some 40 := by kernel_rfl
  obtain ⟨i, hi, hb⟩ := Option.map_eq_some_iff.1 h
  exact ⟨i, hi, hb⟩
theorem mkChan (w : World) : (Instr.makeChan 137 (.int .i64 1)).run Try.prog w = .ok (.chan (some w.heap.size)) (w.alloc (.chan 1 #[] false 0 0 false)) := by
  obtain ⟨i, hi, hb⟩ := info_Image
  simpa using run_makeChan (P := Try.prog) (w := w) Try.underlying137 hi .i64 1 (by omega) (by rw [hb]; omega)

set_option maxRecDepth 100000 in
set_option maxHeartbeats 800000 in
theorem finished_any (a b : Int) (n cap : Nat) (ad : Option Addr) (w : World) :
    Calls Try.prog 53 #[.agg #[.int .i64 a, .int .i64 b, .slice ad n cap]] w fun e w' => e = .returned (.chan (some (w.heap.size + 1))) ∧ w'.heap[w.heap.size + 1]? = some (.chan 1 #[.agg #[.int .i64 a, .int .i64 b, .slice ad n cap]] false 1 0 false) ∧ Ext w w' := by
  have hmc := mkChan
  refine calls_of_runsN Try.func53 rfl ?_
  simp only [Try.ntmps53, List.size_toArray, List.length_cons, List.length_nil, Nat.reduceAdd, Nat.reduceSub, Array.replicate_succ, Array.replicate_zero, List.push_toArray, List.append_toArray, List.nil_append, List.cons_append]
  refine runsN_seq (runsN_wp ?_)
  go_wp2
  refine runsN_seq (runsN_wp ?_)
  go_wp2
  refine runsN_seq (runsN_region ?_)
  show runsR _ _ [0, 1, 2] _ _ _
  refine runsR_value (v := .chan (some (w.heap.size + 1))) rfl rfl (by simp [execOp, Act.eval]) ?_
  refine runsR_value (v := .agg #[.int .i64 a, .int .i64 b, .slice ad n cap]) rfl rfl (by simp [execOp, Act.eval, go_sem]) ?_
  refine runsR_send (c := w.heap.size + 1) (cap := 1) (buf := #[]) (s := 0) (r := 0) (tm := false) (v := .agg #[.int .i64 a, .int .i64 b, .slice ad n cap]) (z := .tuple #[]) rfl rfl (by simp [execOp, Act.eval, go_sem, scase]) ?_ (by decide) ?_
  · have := Go.Deep.blk_alloc_new (w.alloc (.cells #[.int .i64 a, .int .i64 b, .slice ad n cap] 40)) (.chan 1 #[] false 0 0 false)
    rw [World.size_alloc] at this
    exact this
  refine runsR_ops ?_
  refine runsN_seq (runsN_wp ?_)
  simp only [Act.put, List.getElem_toArray, List.getElem_cons_succ, List.getElem_cons_zero, List.setIfInBounds_toArray, List.set_cons_succ, List.set_cons_zero]
  go_wp2
  refine runsN_wp ?_
  go_wp2
  refine endPost_ret (v := .chan (some (w.heap.size + 1))) (by simp [results, Try.results53, go_sem]) rfl ⟨rfl, ?_, ?_⟩
  · exact heap_setChan _ _ _ _ _ _ _ _ (by simp)
  · exact below_setChan (((Ext.refl w).alloc _).alloc _) (by omega) _ _ _ _ _ _

set_option maxRecDepth 100000 in
set_option maxHeartbeats 1600000 in
theorem sImageOf_any (lo hi : Nat) (v : Value) (F : Fm) (w : World) (hv : F.R lo hi w v) (hh : hi ≤ w.heap.size) :
    Calls Try.prog 16 #[v] w fun e w' => ∃ v', e = .returned (.tuple #[v', .bool F.img.2]) ∧ F.img.1.Own w.heap.size w' v' ∧ Ext w w' := by
  have HV := hid hv
  obtain ⟨u, d, rfl, _, _, hu, hd⟩ := hv
  obtain ⟨a, cap, rfl, HU⟩ := hu.open
  obtain ⟨a', cap', rfl, _⟩ := hd.open
  clear hu hd
  cases h1 : F.done
  · have e : F.img = (⟨0, 0, []⟩, false) := by unfold Fm.img; rw [h1]; rfl
    rw [e]
    have HI := hid (fun w0 hv hh => sIsComplete_val h1 lo hi (.agg #[.int .i64 F.w, .int .i64 F.h, .slice a F.px.length cap, .slice a' F.n cap']) w0 hv hh)
    clear e h1
    go_enter Try.func16, Try.ntmps16
    go_wp2_with fail
    refine (HI.out _ (HV.out.ext hh (by repeat (with_reducible (first | assumption | exact Ext.refl _ | apply Ext.alloc | apply Ext.drew | apply Ext.drewN)))) (by simp; omega)).mono ?_
    rintro e w1 ⟨rfl, h1⟩
    obtain ⟨c1, f1⟩ := h1.cells
    have z1 := h1.size
    simp only [World.size_alloc] at z1
    have q1 : w.heap.size < w1.heap.size := by omega
    have q2 : w.heap.size + 1 < w1.heap.size := by omega
    have E1 : Ext w w1 := Ext.trans (by repeat (with_reducible (first | assumption | exact Ext.refl _ | apply Ext.alloc | apply Ext.drew | apply Ext.drewN))) h1
    go_wp2
    exact bodyPost_ret (v := .tuple #[.agg #[.int .i64 0, .int .i64 0, .slice none 0 0], .bool false]) (by simp [results, Try.results16, go_sem, *]) rfl ⟨_, rfl, ⟨_, rfl, OwnInts.nil _ _⟩, (by repeat (first | with_reducible assumption | with_reducible exact Ext.refl _ | with_reducible apply Ext.alloc | with_reducible apply Ext.drew | with_reducible apply Ext.drewN | (with_reducible refine Ext.setCell ?_ (by simp; omega) _) | (with_reducible refine Ext.setCell ?_ (by simp) _)))⟩
  · have e : F.img = (⟨F.w, F.h, F.px⟩, true) := by unfold Fm.img; rw [h1]; rfl
    rw [e]
    have hl := Fm.done_len h1
    obtain ⟨b, off, rfl, hb1, hb2, _⟩ := HU.at (k := 0) (by omega)
    have HI := hid (fun w0 hv hh => sIsComplete_val h1 lo hi (.agg #[.int .i64 F.w, .int .i64 F.h, .slice (some ⟨b, off, none⟩) F.px.length cap, .slice a' F.n cap']) w0 hv hh)
    clear e h1
    go_enter Try.func16, Try.ntmps16
    go_wp2_with fail
    refine (HI.out _ (HV.out.ext hh (by repeat (with_reducible (first | assumption | exact Ext.refl _ | apply Ext.alloc | apply Ext.drew | apply Ext.drewN)))) (by simp; omega)).mono ?_
    rintro e w1 ⟨rfl, h1⟩
    obtain ⟨c1, f1⟩ := h1.cells
    have z1 := h1.size
    simp only [World.size_alloc] at z1
    have q1 : w.heap.size < w1.heap.size := by omega
    have q2 : w.heap.size + 1 < w1.heap.size := by omega
    have E1 : Ext w w1 := Ext.trans (by repeat (with_reducible (first | assumption | exact Ext.refl _ | apply Ext.alloc | apply Ext.drew | apply Ext.drewN))) h1
    have HC : ∀ i y, F.px[i]? = some y → I64 y ∧ w1.cell? ⟨b, off + i, none⟩ = some (.int .i64 y) := by
      intro i y hy
      obtain ⟨h3, b', off', e, h4, h5, h6⟩ := HU.cell i y hy
      simp only [Option.some.injEq, Addr.mk.injEq, and_true] at e
      obtain ⟨rfl, rfl⟩ := e
      exact ⟨h3, (E1.cells.1 b _ (by omega)).trans h6⟩
    have HC := hid HC
    go_wp2_with fail
    refine wp_region_stages [([0, 1, 2, 3, 5, 6], 4), ([], 7), ([8], 9), ([], 10)] 10 (w.heap.size + 1) (by kernel_rfl) (by kernel_rfl) ?_
    refine wpStages_cons ?_
    simp only [List.filterMap_cons, List.filterMap_nil, List.getElem?_toArray, List.getElem?_cons_zero, List.getElem?_cons_succ]
    show wpQuiet _ _ _ _ [_, _, _, _, _, _] _
    repeat (go_big_quiet_step (fail))
    refine wpQuiet_nil ⟨_, rfl, fun K hK => ?_⟩
    go_wp2_with fail
    refine hK _ _ (.inr (fun b _ hb => Ext.block (w := w1) (by repeat (with_reducible (first | assumption | exact Ext.refl _ | apply Ext.alloc | apply Ext.drew | apply Ext.drewN))) (by omega))) ?_
    clear hK K
    refine wpStages_cons ?_
    simp only [List.filterMap_nil]
    show wpQuiet _ _ _ _ [] _
    try simp only [Act.put, List.getElem_toArray, List.getElem_cons_succ, List.getElem_cons_zero, List.setIfInBounds_toArray, List.set_cons_succ, List.set_cons_zero]
    refine wpQuiet_nil ⟨_, rfl, fun K hK => ?_⟩
    have HC2 : ∀ i y, F.px[i]? = some y → I64 y ∧ (w1.alloc (.cells #[] 3)).cell? ⟨b, off + i, none⟩ = some (.int .i64 y) := fun i y hy =>
      ⟨(HC.out i y hy).1, (((Ext.refl w1).alloc (.cells #[] 3)).cells.1 b _ (by omega)).trans (HC.out i y hy).2⟩
    refine wpList_append_ints _ rfl _ _ rfl w1.heap.size (.slice (some ⟨w1.heap.size, 0, none⟩) 0 0) [] F.px rfl (OwnInts.empty (Nat.le_refl _) (heap_alloc_new w1 _)) b off cap rfl HC2 (by simp; omega) (by simp) ?_
    intro v' w2 hown hg
    obtain ⟨a2, n2, rfl, _⟩ := hown.form
    simp only [List.nil_append] at hown
    have E2 : Ext w w2 := ((E1.alloc _).drew).grown hg (fun k e => by simp [Value.ownBlock] at e; omega)
    have E12 : Ext w1 w2 := (((Ext.refl w1).alloc _).drew).grown hg (fun k e => by simp [Value.ownBlock] at e; omega)
    have HO := hid hown
    obtain ⟨c2, f2⟩ := E12.cells
    have z2 := E12.size
    have q3 : w.heap.size < w2.heap.size := by omega
    have q4 : w.heap.size + 1 < w2.heap.size := by omega
    clear hown hg HC2
    go_wp2
    refine hK _ _ (.inr (fun b _ hb => E12.block (by omega))) ?_
    clear hK K
    refine wpStages_cons ?_
    simp only [List.filterMap_cons, List.filterMap_nil, List.getElem?_toArray, List.getElem?_cons_zero, List.getElem?_cons_succ]
    show wpQuiet _ _ _ _ [_] _
    try simp only [Act.put, List.getElem_toArray, List.getElem_cons_succ, List.getElem_cons_zero, List.setIfInBounds_toArray, List.set_cons_succ, List.set_cons_zero]
    repeat (go_big_quiet_step (fail))
    refine wpQuiet_nil ⟨_, rfl, fun K hK => ?_⟩
    go_wp2
    have B2 : Below (w.heap.size + 1) w1 w2 := Below.mono E12 (by omega)
    refine hK _ _ (.inr (fun b _ hb => Below.block (Below.setCell (Below.setCell (Below.setCell B2 (p := ⟨w.heap.size + 1, 0, none⟩) (Nat.le_refl _) _) (p := ⟨w.heap.size + 1, 1, none⟩) (Nat.le_refl _) _) (p := ⟨w.heap.size + 1, 2, none⟩) (Nat.le_refl _) _) b hb)) ?_
    clear hK K
    refine wpStages_cons ?_
    simp only [List.filterMap_nil]
    show wpQuiet _ _ _ _ [] _
    try simp only [Act.put, List.getElem_toArray, List.getElem_cons_succ, List.getElem_cons_zero, List.setIfInBounds_toArray, List.set_cons_succ, List.set_cons_zero]
    refine wpQuiet_nil ⟨_, rfl, fun K hK => ?_⟩
    go_wp2
    refine hK _ _ (.inl (by trivial)) (wpStages_nil ?_)
    clear hK K
    go_wp2
    refine bodyPost_ret (v := .tuple #[.agg #[.int .i64 F.w, .int .i64 F.h, .slice a2 F.px.length n2], .bool true]) (by simp [results, Try.results16, go_sem, *]) rfl ⟨_, rfl, ⟨_, rfl, ?_⟩, (by repeat (first | with_reducible assumption | with_reducible exact Ext.refl _ | with_reducible apply Ext.alloc | with_reducible apply Ext.drew | with_reducible apply Ext.drewN | (with_reducible refine Ext.setCell ?_ (by simp; omega) _) | (with_reducible refine Ext.setCell ?_ (by simp) _)))⟩
    exact (((HO.out.setLow (by simp; omega) _).setLow (by simp; omega) _).setLow (by simp; omega) _).low (by omega)
end Go.Proofs.Yteeclghkfcanlaa
