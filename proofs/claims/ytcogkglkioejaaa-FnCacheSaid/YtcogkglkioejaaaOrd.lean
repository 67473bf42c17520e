/- This text holds the program's order of the tiles in a cache: the closure that compares two tiles by their ages. -/
import Derived.Test.YtcogkglkioejaaaSrt
import Derived.Test.YtcogkglkioejaaaShelf
import Derived.Maps.OwnSet
import Derived.Maps.OwnOps
import Derived.Shelf.SlicesG.Cmp
namespace Go.Proofs.Ytcogkglkioejaaa
open Go.RowKit Go.Maps Go.Shelf
open Go.Sort (alloc_eq_grow grow_grow)

/-- the number at a tile, nought if it is not there -/
def ageOf (D : DataW Unit) (t : T3) : Int := match D.atKey t.key (.lit (.int .i64 0)) with | .lit (.int _ c) => c | _ => 0
theorem ageOf_of {D : DataW Unit} {t : T3} {c : Int} (h : D.atKey t.key (.lit (.int .i64 0)) = .lit (.int .i64 c)) : ageOf D t = c := by
  simp [ageOf, h]
theorem zeroInt (w : World) : (zeroValue 3).run Try.prog w = .ok (.int .i64 0) w := by
  simp [go_sem]

set_option maxHeartbeats 1600000 in
theorem ordCmp (s t : T3) (hs : s.I) (ht : t.I) (W : World) (ba b n : Nat) (D : DataW Unit) (hb : W.cell? ⟨ba, 0, none⟩ = some (.map (some b))) (hba : ba < W.heap.size)
    (hcmp : ∀ (x y : Int) (W' : World), Calls Try.prog 79 #[.int .i64 x, .int .i64 y] W' fun e w' => e = .returned (.int .i64 (Lib.compareInt x y)) ∧ w' = W')
    (hD : W.ownsMap Try.prog 60 (plainElem Try.prog 3) b n D) :
    Calls Try.prog 78 #[s.val, t.val, .pointer (some ⟨ba, 0, none⟩)] W fun e w' => e = .returned (.int .i64 (Lib.compareInt (ageOf D s) (ageOf D t))) ∧ ∃ q os', w' = Sort.grow (W.drewN q) os' := by
  have hbb : b < W.heap.size := hD.lt
  have hL : ∀ (x : T3), x.I → ∃ c, (∀ W2 : World, W2.heap[b]? = W.heap[b]? → (Instr.lookup 92 (.map (some b)) x.val false).run Try.prog W2 = .ok (.int .i64 c) W2) ∧ D.atKey x.key (.lit (.int .i64 0)) = .lit (.int .i64 c) := by
    intro x hx
    obtain ⟨c, _, ha, _⟩ := hD.lookup_int tileLaw Try.underlying92 Try.underlying3 (zeroInt W) (keyOf_tile hx)
    refine ⟨c, fun W2 h2 => ?_, ha⟩
    have hD2 : W2.ownsMap Try.prog 60 (plainElem Try.prog 3) b n D := by
      obtain ⟨es, clock, hb, r⟩ := hD
      exact ⟨es, clock, h2.trans hb, r⟩
    obtain ⟨c', hr', ha', _⟩ := hD2.lookup_int tileLaw Try.underlying92 Try.underlying3 (zeroInt W2) (keyOf_tile hx)
    rw [ha] at ha'
    simp at ha'
    rw [ha']
    exact hr'
  obtain ⟨c1, hr1, ha1⟩ := hL s hs
  obtain ⟨c2, hr2, ha2⟩ := hL t ht
  clear hL
  rw [ageOf_of ha1, ageOf_of ha2]
  clear ha1 ha2
  simp only [T3.val] at hr1 hr2 ⊢
  go_enter Try.func78, Try.ntmps78
  go_wp2_with fail
  have q1 : ∀ d, (Instr.lookup 92 (.map (some b)) (.agg #[.int .i64 s.l, .int .i64 s.x, .int .i64 s.y]) false).run Try.prog (lowg (W.heap.size + 2) ((W.alloc (.cells #[.int .i64 s.l, .int .i64 s.x, .int .i64 s.y] 60)).alloc (.cells #[.int .i64 t.l, .int .i64 t.x, .int .i64 t.y] 60)) d) = .ok (.int .i64 c1) (lowg (W.heap.size + 2) ((W.alloc (.cells #[.int .i64 s.l, .int .i64 s.x, .int .i64 s.y] 60)).alloc (.cells #[.int .i64 t.l, .int .i64 t.x, .int .i64 t.y] 60)) d) := fun d =>
    hr1 _ ((lowg_same _ _ d b (Nat.zero_le _) (by omega)).trans (((Ext.refl W).alloc _).alloc _ |>.block hbb))
  have q2 : ∀ d, (Instr.lookup 92 (.map (some b)) (.agg #[.int .i64 t.l, .int .i64 t.x, .int .i64 t.y]) false).run Try.prog (lowg (W.heap.size + 2) ((W.alloc (.cells #[.int .i64 s.l, .int .i64 s.x, .int .i64 s.y] 60)).alloc (.cells #[.int .i64 t.l, .int .i64 t.x, .int .i64 t.y] 60)) d) = .ok (.int .i64 c2) (lowg (W.heap.size + 2) ((W.alloc (.cells #[.int .i64 s.l, .int .i64 s.x, .int .i64 s.y] 60)).alloc (.cells #[.int .i64 t.l, .int .i64 t.x, .int .i64 t.y] 60)) d) := fun d =>
    hr2 _ ((lowg_same _ _ d b (Nat.zero_le _) (by omega)).trans (((Ext.refl W).alloc _).alloc _ |>.block hbb))
  clear hr1 hr2
  have hba2 : ba < W.heap.size + 2 := by omega
  refine wp_region_stages [([0, 1, 2, 3, 4, 5], 6), ([], 7)] 7 (W.heap.size + 2) (by kernel_rfl) (by kernel_rfl) ?_
  refine wpStages_cons ?_
  simp only [List.filterMap_cons, List.filterMap_nil, List.getElem?_toArray, List.getElem?_cons_zero, List.getElem?_cons_succ]
  show wpQuiet _ _ _ _ [_, _, _, _, _, _] _
  repeat (go_big_quiet_step (fail))
  refine wpQuiet_nil ⟨_, rfl, fun K hK => ?_⟩
  clear q1 q2
  go_wp2_with (go_at_call 79; refine (hcmp _ _ _).mono ?_; rintro e w' ⟨rfl, rfl⟩)
  refine hK _ _ (.inr (fun _ _ _ => rfl)) ?_
  clear hK K
  refine wpStages_cons ?_
  simp only [List.filterMap_nil]
  show wpQuiet _ _ _ _ [] _
  refine wpQuiet_nil ⟨_, rfl, fun K hK => ?_⟩
  go_wp2
  refine hK _ _ (.inl trivial) ?_
  clear hK K
  refine wpStages_nil ?_
  go_wp2_with fail
  go_ret
  exact ⟨rfl, 1, _, by rw [alloc_eq_grow, alloc_eq_grow, grow_grow]; rfl⟩
theorem sortTile_any (d : Array TI) (lo g cap ba b n : Nat) (D : DataW Unit) (w : World) (hv : (TLof (d.toList.map (·.1))).Own lo w (.slice (some ⟨g, 0, none⟩) d.size cap))
    (hb : w.cell? ⟨ba, 0, none⟩ = some (.map (some b))) (hba : ba < w.heap.size) (hbg : ba ≠ g) (hD : w.ownsMap Try.prog 60 (plainElem Try.prog 3) b n D) (hbg' : b ≠ g) (hg : g < w.heap.size) (hsz : d.size < 1000) :
    Calls Try.prog 77 #[.slice (some ⟨g, 0, none⟩) d.size cap, .func (.func 78) #[] #[.pointer (some ⟨ba, 0, none⟩)]] w fun e w' =>
      e = .returned (.tuple #[]) ∧ ∃ (d' : Array TI) (m : Nat) (os : Array Obj), d'.toList.Perm d.toList ∧ (d'.toList.Pairwise fun x y => ageOf D x.1 ≤ ageOf D y.1) ∧ w' = sortWorldK encT 3 w g 0 m d' os := by
  have hbb : b < w.heap.size := hD.lt
  have eg : ∀ args w, (callFunc 78 args).run Try.prog w = .ok (.enter 78 args) w := enters_of Try.func78 (by kernel_rfl) rfl
  have hl : CmpLays Try.prog 78 #[.pointer (some ⟨ba, 0, none⟩)] encT 3 (fun x y => Lib.compareInt (ageOf D x.1) (ageOf D y.1)) g 0 d.size w := by
    intro m os dk _ x y
    refine ordCmp x.1 y.1 x.2 y.2 _ ba b n D ?_ (Nat.lt_of_lt_of_le hba sorted_size) (fun x y W' => Try.cmp_Compare_int x y W') ?_
    · have := sorted_other (d' := dk) (m := m) (os := os) hba hbg
      rw [World.cell?_of_block this]
      exact hb
    · obtain ⟨es, clock, h1, r⟩ := hD
      exact ⟨es, clock, (sorted_other hbb hbg').trans h1, r⟩
  have hlt : ∀ x y : TI, ltOf (fun x y : TI => Lib.compareInt (ageOf D x.1) (ageOf D y.1)) x y = decide (ageOf D x.1 < ageOf D y.1) := by
    intro x y
    unfold ltOf Lib.compareInt
    by_cases h1 : ageOf D x.1 < ageOf D y.1
    · simp [h1]
    · by_cases h2 : ageOf D y.1 < ageOf D x.1 <;> simp [h1, h2]
  have swo : Sort.SWO (ltOf fun x y : TI => Lib.compareInt (ageOf D x.1) (ageOf D y.1)) := {
    irrefl := fun x => by rw [hlt]; simp
    trans := fun x y z h1 h2 => by rw [hlt] at *; simp at *; omega
    ntrans := fun x y z h1 h2 => by rw [hlt] at *; simp at *; omega }
  have hcon := AnyQ.slices_SortFunc Try.sortTile 3 Try.isAgg60 Try.sizeOf60 encT (fun _ => rfl) (fun x v hv => by simp [encT] at hv; rcases hv with rfl | rfl | rfl <;> rfl) (fun x y => Lib.compareInt (ageOf D x.1) (ageOf D y.1)) swo 78 #[.pointer (some ⟨ba, 0, none⟩)] g 0 cap d w eg hl (holds_own hv) hg (by omega)
  refine hcon.mono ?_
  rintro e w' ⟨rfl, d', m, os, hp, hs, rfl⟩
  refine ⟨rfl, d', m, os, ?_, ?_, rfl⟩
  · have := hp.2.2
    have hz := hp.1
    simp only [← hz, Array.extract_size] at this
    rw [hz, Array.extract_size] at this
    exact this
  · rw [List.pairwise_iff_getElem]
    intro i j hi hj hij
    have hz := hp.1
    simp only [Array.length_toList] at hi hj
    have h := hs i j (Nat.zero_le _) hij (by omega)
    rw [hlt] at h
    simp [hi, hj] at h
    simpa using h
end Go.Proofs.Ytcogkglkioejaaa
