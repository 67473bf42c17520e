/- This text holds lists of tiles as the readings of slices: the flat function of a list, and what owning and reading it mean. -/
import Derived.Test.YtcogkglkioejaaaMapT
namespace Go.Proofs.Ytcogkglkioejaaa
open Go.RowKit

/-- a tile's j-th number -/
def T3.c (t : T3) (j : Nat) : Int := if j = 0 then t.l else if j = 1 then t.x else t.y
instance : Inhabited T3 := ⟨⟨0, 0, 0⟩⟩
/-- the tiles of a list as a slice holds them -/
def TLof (L : List T3) : TL := ⟨L.length, fun i => (L.getD (i / 3) default).c (i % 3)⟩
theorem TLof_nil : TLof [] = TL.nil := by
  unfold TLof TL.nil
  congr 1
  funext i
  simp [T3.c, default]
theorem TLof_n (L : List T3) : (TLof L).n = L.length := rfl
theorem T3.c_I {t : T3} (h : t.I) (j : Nat) : I64 (t.c j) := by
  unfold T3.c
  split
  · exact h.1
  · split
    · exact h.2.1
    · exact h.2.2
theorem TLof_f {L : List T3} {i : Nat} (hi : i < L.length) (j : Nat) (hj : j < 3) : (TLof L).f (i * 3 + j) = (L[i]).c j := by
  have e1 : (i * 3 + j) / 3 = i := by omega
  have e2 : (i * 3 + j) % 3 = j := by omega
  simp [TLof, e1, e2, List.getD_eq_getElem?_getD, hi]
theorem TLof_at {L : List T3} {i : Nat} (hi : i < L.length) : (TLof L).f (i * 3) = (L[i]).l ∧ (TLof L).f (i * 3 + 1) = (L[i]).x ∧ (TLof L).f (i * 3 + 2) = (L[i]).y := by
  have h0 := TLof_f hi 0 (by omega)
  have h1 := TLof_f hi 1 (by omega)
  have h2 := TLof_f hi 2 (by omega)
  simp [T3.c] at h0 h1 h2
  exact ⟨h0, h1, h2⟩

theorem TL.Own.congr {s s' : TL} {lo : Nat} {w : World} {v : Value} (h : s.Own lo w v) (hn : s.n = s'.n) (hf : ∀ i, i < s.n * 3 → s.f i = s'.f i) : s'.Own lo w v := by
  obtain ⟨h1, h2⟩ := h
  have e : ((List.range (s.n * 3)).map fun i => Value.int .i64 (s.f i)) = (List.range (s'.n * 3)).map fun i => Value.int .i64 (s'.f i) := by
    rw [← hn]
    exact List.map_congr_left fun i hi => by rw [hf i (List.mem_range.1 hi)]
  unfold TL.Own
  rw [← hn] at e ⊢
  rw [← e]
  exact ⟨h1, fun i hi => by rw [← hf i hi]; exact h2 i hi⟩
theorem TL.R.congr {s s' : TL} {lo hi : Nat} {w : World} {v : Value} (h : s.R lo hi w v) (hn : s.n = s'.n) (hf : ∀ i, i < s.n * 3 → s.f i = s'.f i) : s'.R lo hi w v := by
  unfold TL.R Flats at h ⊢
  rw [← hn]
  obtain ⟨a, cap, h1, h2, h3, h4⟩ := h
  exact ⟨a, cap, h1, h2, h3, fun i hi => by rw [← hf i hi]; exact h4 i hi⟩
theorem TLof_snoc_f (L : List T3) (t : T3) : ((TLof L).snoc t).n = (TLof (L ++ [t])).n ∧ ∀ i, i < ((TLof L).snoc t).n * 3 → ((TLof L).snoc t).f i = (TLof (L ++ [t])).f i := by
  refine ⟨by simp [TL.snoc, TLof], fun i hi => ?_⟩
  have hi : i < (L.length + 1) * 3 := hi
  by_cases e : i < L.length * 3
  · refine (if_pos (show i < (TLof L).n * 3 from e)).trans ?_
    have : i / 3 < L.length := by omega
    simp only [TLof]
    simp [List.getD_eq_getElem?_getD, List.getElem?_append, this]
  · refine (if_neg (show ¬ i < (TLof L).n * 3 from e)).trans ?_
    have e3 : i / 3 = L.length := by omega
    have : (L ++ [t]).getD (i / 3) default = t := by simp [List.getD_eq_getElem?_getD, e3]
    have hr : (TLof (L ++ [t])).f i = t.c (i % 3) := congrArg (fun x => T3.c x (i % 3)) this
    rw [hr]
    unfold T3.c
    by_cases e0 : i = L.length * 3
    · exact (if_pos (show i = (TLof L).n * 3 from e0)).trans (if_pos (by omega)).symm
    · refine (if_neg (show ¬ i = (TLof L).n * 3 from e0)).trans (Eq.trans ?_ (if_neg (show ¬ i % 3 = 0 by omega)).symm)
      by_cases e1 : i = L.length * 3 + 1
      · exact (if_pos (show i = (TLof L).n * 3 + 1 from e1)).trans (if_pos (by omega)).symm
      · exact (if_neg (show ¬ i = (TLof L).n * 3 + 1 from e1)).trans (if_neg (by omega)).symm
theorem TLof_snoc_own {L : List T3} {t : T3} {lo : Nat} {w : World} {v : Value} (h : ((TLof L).snoc t).Own lo w v) : (TLof (L ++ [t])).Own lo w v := h.congr (TLof_snoc_f L t).1 (TLof_snoc_f L t).2

/-- any reading is a list's -/
def TL.list (s : TL) : List T3 := (List.range s.n).map fun i => ⟨s.f (i * 3), s.f (i * 3 + 1), s.f (i * 3 + 2)⟩
theorem TL.list_length (s : TL) : s.list.length = s.n := by simp [TL.list]
theorem TL.list_f (s : TL) : ∀ i, i < s.n * 3 → s.f i = (TLof s.list).f i := fun i hi => by
  have h3 : i / 3 < s.n := by omega
  have hl : i / 3 < s.list.length := by rw [s.list_length]; exact h3
  have h := TLof_f hl (i % 3) (by omega)
  have e : i / 3 * 3 + i % 3 = i := by omega
  rw [e] at h
  rw [h]
  simp only [TL.list, List.getElem_map, List.getElem_range, T3.c]
  by_cases e0 : i % 3 = 0
  · rw [if_pos e0]; congr 1; omega
  · rw [if_neg e0]
    by_cases e1 : i % 3 = 1
    · rw [if_pos e1]; congr 1; omega
    · rw [if_neg e1]; congr 1; omega
theorem eqT_iff (t : T3) (a b c : Int) : eqT t a b c = true ↔ t = ⟨a, b, c⟩ := by
  cases t
  simp [eqT]
theorem TLof_has (L : List T3) (t : T3) : (TLof L).has t = decide (t ∈ L) := by
  rw [Bool.eq_iff_iff, decide_eq_true_iff]
  unfold TL.has
  rw [List.any_eq_true]
  constructor
  · rintro ⟨i, hi, h⟩
    have hi' : i < L.length := List.mem_range.1 hi
    obtain ⟨e0, e1, e2⟩ := TLof_at hi'
    rw [eqT_iff, e0, e1, e2] at h
    have : t = L[i] := h
    rw [this]
    exact List.getElem_mem hi'
  · intro h
    obtain ⟨i, hi, e⟩ := List.getElem_of_mem h
    obtain ⟨e0, e1, e2⟩ := TLof_at hi
    refine ⟨i, List.mem_range.2 hi, ?_⟩
    rw [eqT_iff, e0, e1, e2, ← e]
theorem TLof_I {L : List T3} {lo hi : Nat} {w : World} {v : Value} (h : (TLof L).R lo hi w v) : ∀ t ∈ L, t.I := fun t ht => by
  obtain ⟨a, cap, rfl, H⟩ := Flats.open h
  obtain ⟨i, hi', e⟩ := List.getElem_of_mem ht
  obtain ⟨e0, e1, e2⟩ := TLof_at hi'
  have b0 := H.i64 (i := i) (j := 0) hi' (by omega)
  have b1 := H.i64 (i := i) (j := 1) hi' (by omega)
  have b2 := H.i64 (i := i) (j := 2) hi' (by omega)
  rw [Nat.add_zero, e0, e] at b0
  rw [e1, e] at b1
  rw [e2, e] at b2
  exact ⟨b0, b1, b2⟩
end Go.Proofs.Ytcogkglkioejaaa
