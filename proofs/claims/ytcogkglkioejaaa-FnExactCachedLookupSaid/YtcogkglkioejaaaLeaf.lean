/- This text reads the cells of nested structs and arrays off the data that a row speaks of: which type each cell has, and what lies behind it. -/
import Derived.Test.YtcogkglkioejaaaFlat
import Derived.OpenShut
import Derived.ShutString
import Derived.ChangeOld
import Derived.Below
import Derived.Carry
import Derived.Lib.SmallJoins
import Derived.Deep.Slices
namespace Go.Proofs.Ytcogkglkioejaaa
open Go.ChangeShapes Go.WideShapes Go.ChangeAt Go.RowKit

/-- the type of cell i of a value of type t, through structs and arrays -/
def leafAt (P : Program) : Nat → TypeId → Nat → Option TypeId
  | 0, _, _ => none
  | d + 1, t, i =>
    match P.underlying t with
    | some (.struct fs) =>
      match fs.toList.find? (fun f => decide (f.offset ≤ i) && decide (i < f.offset + P.cellsOf f.type)) with
      | some f =>
        match leafAt P d f.type (i - f.offset) with
        | some u => if (i - f.offset) + P.cellsOf u ≤ P.cellsOf f.type then some u else none
        | none => none
      | none => none
    | some (.array n e) =>
      if i / P.cellsOf e < n then
        match leafAt P d e (i % P.cellsOf e) with
        | some u => if (i % P.cellsOf e) + P.cellsOf u ≤ P.cellsOf e then some u else none
        | none => none
      else none
    | some _ => if i = 0 then some t else none
    | none => none

section
variable {H : Type} {enc : TypeId × Value → H} {P : Program} {W : World} {base : Nat} {sp : Nat → Bool} {held : Bool}

theorem take_drop_in {α : Type} (l : List α) (o k i c : Nat) (h1 : o ≤ i) (h2 : i - o + c ≤ k) : ((((l.drop o).take k).drop (i - o)).take c) = (l.drop i).take c := by
  rw [List.drop_take, List.take_take, List.drop_drop, Nat.min_eq_left (by omega)]
  congr 2
  omega

theorem trod_leaf (d : Nat) : ∀ {t u : TypeId} {i fuel : Nat} {cs : List Value} {x : DataW H × List MemPlace}, leafAt P d t i = some u → DataW.trod enc P W base sp held fuel t cs = some x →
    (i = 0 ∧ t = u) ∨ ∃ (m : Nat) (y : DataW H × List MemPlace), DataW.trod enc P W base sp held m u ((cs.drop i).take (P.cellsOf u)) = some y := by
  induction d with
  | zero => intro t u i fuel cs x h; simp [leafAt] at h
  | succ d ih =>
    intro t u i fuel cs x h hx
    unfold leafAt at h
    split at h
    · rename_i fs hfs
      split at h
      · rename_i f hf
        have hp := List.find?_some hf
        simp only [Bool.and_eq_true, decide_eq_true_eq] at hp
        have hm := List.mem_of_find?_eq_some hf
        split at h
        · rename_i u' hu
          split at h
          · rename_i hfit
            simp only [Option.some.injEq] at h
            subst h
            obtain ⟨xs, n, _, _, hl, hlen, hg⟩ := DataW.trod_struct hfs hx
            obtain ⟨j, hj⟩ := List.getElem?_of_mem hm
            have hj' : fs[j]? = some f := by simpa using hj
            have h1 := hg j f hj'
            have hjl : j < xs.length := by rw [hlen]; exact (Array.getElem?_eq_some_iff.1 hj').1
            rw [List.getElem?_eq_getElem hjl] at h1
            refine .inr ?_
            rcases ih hu h1 with ⟨h2, rfl⟩ | ⟨m, y, hy⟩
            · refine ⟨n, xs[j], ?_⟩
              have : f.offset = i := by omega
              rw [← this]
              exact h1
            · rw [take_drop_in _ _ _ _ _ hp.1 hfit] at hy
              exact ⟨m, y, hy⟩
          · cases h
        · cases h
      · cases h
    · rename_i n e hfs
      split at h
      · rename_i hn
        split at h
        · rename_i u' hu
          split at h
          · rename_i hfit
            simp only [Option.some.injEq] at h
            subst h
            obtain ⟨xs, m', _, _, hl, hlen, hg⟩ := DataW.trod_array hfs hx
            have h1 := hg _ hn
            rw [List.getElem?_eq_getElem (by omega)] at h1
            have hdm := Nat.div_add_mod i (P.cellsOf e)
            rw [Nat.mul_comm] at hdm
            refine .inr ?_
            rcases ih hu h1 with ⟨h2, rfl⟩ | ⟨m, y, hy⟩
            · refine ⟨m', xs[i / P.cellsOf e]'(by omega), ?_⟩
              have : i / P.cellsOf e * P.cellsOf e = i := by omega
              rw [this] at h1
              exact h1
            · have h3 : i % P.cellsOf e = i - i / P.cellsOf e * P.cellsOf e := by omega
              rw [h3] at hy hfit
              rw [take_drop_in _ _ _ _ _ (by omega) hfit] at hy
              exact ⟨m, y, hy⟩
          · cases h
        · cases h
      · cases h
    · split at h
      · rename_i hi
        simp only [Option.some.injEq] at h
        exact .inl ⟨hi, h⟩
      · cases h
    · cases h
/-- all cells of the type are integers of 64 bits -/
def onlyInts (P : Program) (t : TypeId) (k : Nat) (ti : TypeId) : Bool := decide (P.cellsOf t = k) && decide (P.cellsOf ti = 1) && decide (t ≠ ti) && (List.range k).all fun i => decide (leafAt P 6 t i = some ti)

theorem trod_ints {t ti : TypeId} {k fuel : Nat} {cs : List Value} {x : DataW H × List MemPlace} (hi : P.underlying ti = some (.int .i64)) (ho : onlyInts P t k ti = true) (h : DataW.trod enc P W base sp held fuel t cs = some x) :
    ∀ i, i < k → ∃ n, cs[i]? = some (.int .i64 n) ∧ I64 n := by
  intro i hik
  simp only [onlyInts, Bool.and_eq_true, decide_eq_true_eq, List.all_eq_true, List.mem_range] at ho
  obtain ⟨⟨⟨h1, h2⟩, h3⟩, h4⟩ := ho
  rcases trod_leaf 6 (h4 i hik) h with ⟨_, e⟩ | ⟨m, y, hy⟩
  · exact absurd e h3
  · rw [h2] at hy
    obtain ⟨n, e0, _, hw⟩ := DataW.trod_int hi hy
    refine ⟨n, ?_, ?_⟩
    · have : ((cs.drop i).take 1)[0]? = some (.int .i64 n) := by rw [e0]; rfl
      rw [List.getElem?_take, if_pos (by decide), List.getElem?_drop] at this
      exact this
    · simp [Lit.wf, IntKind.min, IntKind.max, IntKind.signed, IntKind.bits] at hw
      exact ⟨by omega, by omega⟩

theorem cellFlats {t e ti : TypeId} {k fuel : Nat} {c : Value} {y : DataW H × List MemPlace} (ht : P.underlying t = some (.slice e)) (hi : P.underlying ti = some (.int .i64)) (ho : onlyInts P e k ti = true) (hk : 0 < k)
    (h : DataW.trod enc P W base sp held fuel t [c] = some y) : ∃ n f, Flats k 0 W.heap.size W c n f := by
  have hC : P.cellsOf e = k := by
    simp only [onlyInts, Bool.and_eq_true, decide_eq_true_eq] at ho
    exact ho.1.1.1
  rcases Go.Deep.open_slice ht h with ⟨h0, _⟩ | ⟨a, len, cap, m, n, D, Pl, hcs, hb, hl, hm, hmm, hx, hel⟩
  · obtain rfl : c = .slice none 0 0 := by simpa using h0
    exact ⟨0, fun _ => 0, none, 0, rfl, Nat.le_refl _, by unfold maxLen; omega, fun i hx => by omega⟩
  · obtain rfl : c = .slice (some a) len cap := by simpa using hcs
    have hlm : len ≤ m := by rw [hmm]; split <;> omega
    rw [hC] at hel
    have key : ∀ i, i < len * k → ∃ x, I64 x ∧ W.cell? (a.add (i / k * k) |>.add (i % k)) = some (.int .i64 x) := by
      intro i hil
      have h1 : i / k < len := (Nat.div_lt_iff_lt_mul hk).2 hil
      obtain ⟨cs', hc, ht'⟩ := hel (i / k) (by omega)
      obtain ⟨x, hx1, hx2⟩ := trod_ints hi ho ht' (i % k) (Nat.mod_lt _ hk)
      obtain ⟨_, hcl, hat⟩ := World.cells?_some hc
      exact ⟨x, hx2, (hat _ (Nat.mod_lt _ hk)).trans hx1⟩
    have key2 : ∀ i, ∃ x, i < len * k → I64 x ∧ W.cell? (a.add i) = some (.int .i64 x) := by
      intro i
      by_cases hil : i < len * k
      · obtain ⟨x, h1, h2⟩ := key i hil
        rw [Go.Deep.add_add] at h2
        have : i / k * k + i % k = i := by have := Nat.div_add_mod i k; rw [Nat.mul_comm] at this; omega
        rw [this] at h2
        exact ⟨x, fun _ => ⟨h1, h2⟩⟩
      · exact ⟨0, fun h => absurd h hil⟩
    obtain ⟨f, hf⟩ := Classical.axiomOfChoice key2
    refine ⟨len, f, some a, cap, rfl, hl, hm, fun i hil => ⟨(hf i hil).1, ?_⟩⟩
    have h0 := (hf 0 (by omega)).2
    obtain ⟨b, o, s⟩ := a
    obtain rfl : s = none := by
      cases s with
      | none => rfl
      | some s =>
        simp only [World.cell?, Addr.add, if_true] at h0
        split at h0 <;> simp at h0
    have hc := (hf i hil).2
    have ha : (⟨b, o, none⟩ : Addr).add i = ⟨b, o + i, none⟩ := by
      unfold Addr.add
      split
      · rename_i e; subst e; rfl
      · rfl
    rw [ha] at hc
    refine ⟨b, o, rfl, Nat.zero_le _, ?_, hc⟩
    simp only [World.cell?] at hc
    split at hc
    · rename_i e; exact (Array.getElem?_eq_some_iff.1 e).1
    · cases hc

/-- a struct of integers by value -/
theorem argAgg {t ti : TypeId} {fs : Array Field} {k b0 : Nat} {v : Value} {d : DataW H} {p : List MemPlace} (ht : P.underlying t = some (.struct fs)) (hi : P.underlying ti = some (.int .i64)) (ho : onlyInts P t k ti = true)
    (hv : Value.okWide P W .any b0 t v) (h : DataW.Trod enc P W base sp held t v d p) : ∃ f : Nat → Int, v = .agg ((Array.range k).map fun i => .int .i64 (f i)) ∧ ∀ i, i < k → I64 (f i) := by
  obtain ⟨cs, rfl, hsz⟩ := okWide_struct ht hv
  obtain ⟨fuel, hf⟩ := h
  have hC : P.cellsOf t = k := by
    simp only [onlyInts, Bool.and_eq_true, decide_eq_true_eq] at ho
    exact ho.1.1.1
  have key : ∀ i, ∃ n, i < k → cs[i]? = some (.int .i64 n) ∧ I64 n := by
    intro i
    by_cases hik : i < k
    · obtain ⟨n, h1, h2⟩ := trod_ints hi ho hf i hik
      exact ⟨n, fun _ => ⟨by simpa [Value.cells] using h1, h2⟩⟩
    · exact ⟨0, fun h => absurd h hik⟩
  obtain ⟨f, hf⟩ := Classical.axiomOfChoice key
  refine ⟨f, ?_, fun i hik => (hf i hik).2⟩
  congr 1
  apply Array.ext_getElem?
  intro i
  by_cases hik : i < k
  · rw [(hf i hik).1]
    simp [hik]
  · simp [hik]
    omega
end
end Go.Proofs.Ytcogkglkioejaaa
