/- This text holds the pieces of a string between separators, and what they are good for. -/
import Derived.Test.YtkcghoeklbcihaaGreatDoorStrs2
import Derived.Test.YtkcghoeklbcihaaGreatDoorNum
import Derived.Lib.IndexLaws
import Derived.Lib.Strings
import Derived.Lib.PathFns
namespace Go.Proofs.YtkcghoeklbcihaaGreatDoor
open Go.RowKit

/-- x put ahead of the first of the pieces -/
def glue (x : List UInt8) : List (List UInt8) → List (List UInt8)
  | [] => [x]
  | h :: t => (x ++ h) :: t
/-- the pieces of l between the bytes that p marks -/
def splitL (p : UInt8 → Bool) : List UInt8 → List (List UInt8)
  | [] => [[]]
  | c :: r => if p c then [] :: splitL p r else glue [c] (splitL p r)
theorem glue_glue (x y : List UInt8) (l : List (List UInt8)) : glue x (glue y l) = glue (x ++ y) l := by cases l <;> simp [glue]
theorem splitL_ne (p : UInt8 → Bool) (l : List UInt8) : ∃ h t, splitL p l = h :: t := by
  induction l with
  | nil => exact ⟨_, _, rfl⟩
  | cons c r ih =>
    obtain ⟨h, t, e⟩ := ih
    unfold splitL
    split
    · exact ⟨_, _, rfl⟩
    · rw [e]; exact ⟨_, _, rfl⟩
theorem glue_nil (p : UInt8 → Bool) (l : List UInt8) : glue [] (splitL p l) = splitL p l := by
  obtain ⟨h, t, e⟩ := splitL_ne p l
  rw [e]; rfl
theorem splitL_length (p : UInt8 → Bool) (l : List UInt8) : (splitL p l).length ≤ l.length + 1 := by
  induction l with
  | nil => simp [splitL]
  | cons c r ih =>
    unfold splitL
    split
    · simp; exact ih
    · obtain ⟨h, t, e⟩ := splitL_ne p r
      rw [e] at ih ⊢
      simp [glue] at ih ⊢
      omega
theorem splitL_mem (p : UInt8 → Bool) (l : List UInt8) : ∀ x ∈ splitL p l, x.length ≤ l.length := by
  induction l with
  | nil => intro x hx; simp [splitL] at hx; subst hx; simp
  | cons c r ih =>
    intro x hx
    unfold splitL at hx
    split at hx
    · rcases List.mem_cons.1 hx with rfl | h
      · simp
      · have := ih x h; simp; omega
    · obtain ⟨h, t, e⟩ := splitL_ne p r
      rw [e] at ih hx
      simp only [glue, List.singleton_append, List.mem_cons] at hx
      rcases hx with rfl | hx
      · have := ih h (by simp); simp; omega
      · have := ih x (by simp [hx]); simp; omega
/-- what has no separator in it stays whole -/
theorem splitL_app (p : UInt8 → Bool) : ∀ (x l : List UInt8), (∀ c ∈ x, p c = false) → splitL p (x ++ l) = glue x (splitL p l)
  | [], l, _ => (glue_nil p l).symm
  | c :: r, l, h => by
    rw [List.cons_append, splitL, if_neg (by simp [h c]), splitL_app p r l (fun d hd => h d (List.mem_cons_of_mem _ hd)), glue_glue]
    rfl
theorem splitL_one (p : UInt8 → Bool) (x : List UInt8) (h : ∀ c ∈ x, p c = false) : splitL p x = [x] := by
  have := splitL_app p x [] h
  rw [List.append_nil] at this
  rw [this]
  simp [splitL, glue]
theorem splitL_cut (p : UInt8 → Bool) (x : List UInt8) (c : UInt8) (l : List UInt8) (h : ∀ c ∈ x, p c = false) (hc : p c = true) : splitL p (x ++ c :: l) = x :: splitL p l := by
  rw [splitL_app p x _ h, splitL, if_pos hc]
  simp [glue]
/-- the pieces of pieces put one behind the other -/
theorem splitL_join (p : UInt8 → Bool) (c : UInt8) (hc : p c = true) (x l : List UInt8) : splitL p (x ++ c :: l) = splitL p x ++ splitL p l := by
  induction x with
  | nil => simp [splitL, hc]
  | cons d r ih =>
    rw [List.cons_append, splitL, splitL]
    split
    · rw [ih]; rfl
    · rw [ih]
      obtain ⟨h, t, e⟩ := splitL_ne p r
      rw [e]; rfl

/-- the pieces as strings -/
def splitB (p : UInt8 → Bool) (s : ByteArray) : List ByteArray := (splitL p s.data.toList).map fun l => ⟨l.toArray⟩
theorem splitB_length (p : UInt8 → Bool) (s : ByteArray) : (splitB p s).length ≤ s.size + 1 := by
  have := splitL_length p s.data.toList
  have e : s.data.toList.length = s.size := by simp
  unfold splitB
  rw [List.length_map]
  omega
theorem splitB_ne (p : UInt8 → Bool) (s : ByteArray) : 1 ≤ (splitB p s).length := by
  obtain ⟨h, t, e⟩ := splitL_ne p s.data.toList
  unfold splitB
  rw [e]; simp
theorem splitB_size (p : UInt8 → Bool) (s : ByteArray) : ∀ x ∈ splitB p s, x.size ≤ s.size := by
  intro x hx
  obtain ⟨l, hl, rfl⟩ := List.mem_map.1 hx
  have := splitL_mem p _ l hl
  have e : s.data.toList.length = s.size := by simp
  show l.toArray.size ≤ _
  rw [List.size_toArray]
  omega
theorem splitB_data (p : UInt8 → Bool) (s : ByteArray) : (splitB p s).map (·.data.toList) = splitL p s.data.toList := by
  unfold splitB
  rw [List.map_map]
  conv => rhs; rw [← List.map_id (splitL p s.data.toList)]
  exact List.map_congr_left fun l _ => by simp
theorem strs_of_data {xs ys : List ByteArray} (h : xs.map (·.data.toList) = ys.map (·.data.toList)) : xs = ys := by
  induction xs generalizing ys with
  | nil => cases ys with | nil => rfl | cons y r => simp at h
  | cons x r ih =>
    cases ys with
    | nil => simp at h
    | cons y t =>
      simp only [List.map_cons, List.cons.injEq] at h
      rw [bytes_ext h.1, ih h.2]

/-- the loop's state: what has been cut off, where the piece under way begins -/
def CutAt (p : UInt8 → Bool) (s : ByteArray) (parts : List ByteArray) (frm k : Nat) : Prop :=
  splitL p s.data.toList = parts.map (·.data.toList) ++ glue ((s.data.toList.drop frm).take (k - frm)) (splitL p (s.data.toList.drop k))
theorem CutAt.start (p : UInt8 → Bool) (s : ByteArray) : CutAt p s [] 0 0 := by
  unfold CutAt
  simp [glue_nil]
theorem drop_get (l : List UInt8) (k : Nat) (c : UInt8) (h : l[k]? = some c) : l.drop k = c :: l.drop (k + 1) := by
  obtain ⟨hk, e⟩ := List.getElem?_eq_some_iff.1 h
  rw [List.drop_eq_getElem_cons hk, e]
theorem CutAt.mark {p : UInt8 → Bool} {s : ByteArray} {parts : List ByteArray} {frm k : Nat} (h : CutAt p s parts frm k) {c : UInt8} (hk : s.data.toList[k]? = some c) (hc : p c = true) :
    CutAt p s (parts ++ [s.extract frm k]) (k + 1) (k + 1) := by
  unfold CutAt at h ⊢
  rw [h, drop_get _ _ _ hk, splitL, if_pos hc, Nat.sub_self, List.take_zero, glue_nil]
  simp [glue]
theorem CutAt.step {p : UInt8 → Bool} {s : ByteArray} {parts : List ByteArray} {frm k : Nat} (h : CutAt p s parts frm k) (hf : frm ≤ k) {c : UInt8} (hk : s.data.toList[k]? = some c) (hc : p c = false) :
    CutAt p s parts frm (k + 1) := by
  unfold CutAt at h ⊢
  rw [h, drop_get _ _ _ hk, splitL, if_neg (by simp [hc]), glue_glue]
  have e : k + 1 - frm = (k - frm) + 1 := by omega
  have hk2 : (s.data.toList.drop frm)[k - frm]? = some c := by rw [List.getElem?_drop, show frm + (k - frm) = k by omega]; exact hk
  rw [e, List.take_add_one, hk2]
  rfl
theorem CutAt.done {p : UInt8 → Bool} {s : ByteArray} {parts : List ByteArray} {frm : Nat} (h : CutAt p s parts frm s.size) : parts ++ [s.extract frm s.size] = splitB p s := by
  refine strs_of_data ?_
  rw [splitB_data]
  unfold CutAt at h
  have e : s.data.toList.drop s.size = [] := List.drop_eq_nil_of_le (by simp)
  rw [h, e]
  simp [splitL, glue]

/-- the bytes of sep -/
def inSep (sep : ByteArray) (c : UInt8) : Bool := sep.data.toList.contains c
theorem inSep_index {sep : ByteArray} {c : UInt8} : inSep sep c = decide (0 ≤ Lib.indexByte sep.data.toList c) := by
  have h1 := Lib.indexByte_ge sep.data.toList c
  by_cases h : 0 ≤ Lib.indexByte sep.data.toList c
  · rw [decide_eq_true h]
    have e : Lib.indexByte sep.data.toList c = ((Lib.indexByte sep.data.toList c).toNat : Int) := by omega
    have := (Lib.indexByte_some e).1
    simpa [inSep] using List.mem_of_getElem? this
  · rw [decide_eq_false h]
    have := Lib.indexByte_none (show Lib.indexByte sep.data.toList c = -1 by omega)
    rw [← Bool.not_eq_true]
    intro hc
    obtain ⟨i, hi, e⟩ := List.getElem_of_mem (show c ∈ sep.data.toList by simpa [inSep] using hc)
    exact this i (by rw [List.getElem?_eq_getElem hi, e])
end Go.Proofs.YtkcghoeklbcihaaGreatDoor
