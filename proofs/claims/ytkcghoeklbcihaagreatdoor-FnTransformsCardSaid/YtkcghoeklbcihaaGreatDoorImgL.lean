/- This text holds what ParseImage of both sides reads in a text, and that both read the same. -/
import Derived.Test.YtkcghoeklbcihaaGreatDoorSplitL
import Derived.Test.YtkcghoeklbcihaaGreatDoorPgm5
namespace Go.Proofs.YtkcghoeklbcihaaGreatDoor
open Go.RowKit

/-- the numbers of a line -/
noncomputable def numsOf (x : ByteArray) : List Int := (splitB (inSep ⟨#[32]⟩) x).map fun y => (parseO y).getD 0
theorem parseO_i64 (y : ByteArray) : I64 ((parseO y).getD 0) := by
  cases h : parseO y with
  | none => exact ⟨by decide, by decide⟩
  | some n =>
    have := inB_iff.1 (parseO_in h)
    exact ⟨by simp; omega, by simp; omega⟩
theorem numsOf_i64 (x : ByteArray) : ∀ n ∈ numsOf x, I64 n := by
  intro n hn
  obtain ⟨y, _, rfl⟩ := List.mem_map.1 hn
  exact parseO_i64 y

/-- no byte of a numeral is a separator -/
theorem itoa_bytes (n : Int) : ∀ c ∈ Lib.itoa n, c = 45 ∨ (48 ≤ c.toNat ∧ c.toNat ≤ 57) := by
  have hd : ∀ u : Nat, ∀ c ∈ Lib.decDigits u, 48 ≤ c.toNat ∧ c.toNat ≤ 57 := by
    intro u c hc
    obtain ⟨i, hi, rfl⟩ := List.getElem_of_mem hc
    obtain ⟨d, hd⟩ := Lib.digit_of_decFrom _ _ _ (decFrom_digits u) i _ (List.getElem?_eq_getElem hi)
    have := Lib.digitVal_eq hd
    exact ⟨this.1, this.2.1⟩
  intro c hc
  unfold Lib.itoa at hc
  split at hc
  · rcases List.mem_cons.1 hc with rfl | h
    · exact .inl rfl
    · exact .inr (hd _ c h)
  · exact .inr (hd _ c hc)
theorem fmtT_bytes (n : Int) : ∀ c ∈ (fmtT n).data.toList, c = 45 ∨ (48 ≤ c.toNat ∧ c.toNat ≤ 57) := by
  cases h : inB n (-1000000000) 1000000000
  · rw [fmtT_out h]; intro c hc; simp at hc
  · rw [fmtT_of h, fmtB_data]; exact itoa_bytes n
theorem inSep_one {d c : UInt8} : inSep ⟨#[d]⟩ c = (c == d) := by
  rw [Bool.eq_iff_iff]
  simp [inSep]
theorem fmtT_noSep (n : Int) {d : UInt8} (hd : d ≠ 45 ∧ (d.toNat < 48 ∨ 57 < d.toNat)) : ∀ c ∈ (fmtT n).data.toList, inSep ⟨#[d]⟩ c = false := by
  intro c hc
  rw [inSep_one, beq_eq_false_iff_ne]
  intro e
  subst e
  rcases fmtT_bytes n c hc with h | h
  · exact hd.1 h
  · omega
theorem fmtT_clean32 (n : Int) : ∀ c ∈ (fmtT n).data.toList, inSep ⟨#[32]⟩ c = false := fmtT_noSep n ⟨by decide, by decide⟩
theorem fmtT_clean10 (n : Int) : ∀ c ∈ (fmtT n).data.toList, inSep ⟨#[10]⟩ c = false := fmtT_noSep n ⟨by decide, by decide⟩
/-- the pieces of strings that were joined by a separator that none of them holds -/
theorem splitL_joined {d : UInt8} : ∀ (xs : List (List UInt8)), xs ≠ [] → (∀ x ∈ xs, ∀ c ∈ x, inSep ⟨#[d]⟩ c = false) → splitL (inSep ⟨#[d]⟩) (Lib.join xs [d]) = xs
  | [], h, _ => absurd rfl h
  | [x], _, h => by rw [Lib.join_one, splitL_one _ _ (h x (by simp))]
  | x :: y :: r, _, h => by
    have e : Lib.join (x :: y :: r) [d] = x ++ d :: Lib.join (y :: r) [d] := by simp [Lib.join_cons, Lib.joinTail]
    rw [e, splitL_cut _ _ _ _ (h x (by simp)) (by rw [inSep_one]; simp), splitL_joined (y :: r) (by simp) (fun z hz => h z (List.mem_cons_of_mem _ hz))]
theorem splitB_joined {d : UInt8} (xs : List ByteArray) (h0 : xs ≠ []) (h : ∀ x ∈ xs, ∀ c ∈ x.data.toList, inSep ⟨#[d]⟩ c = false) : splitB (inSep ⟨#[d]⟩) (joinB xs ⟨#[d]⟩) = xs := by
  refine strs_of_data ?_
  rw [splitB_data, joinB]
  show splitL _ (Lib.join _ [d]) = _
  exact splitL_joined _ (by simpa using h0) (fun x hx c hc => by
    obtain ⟨y, hy, rfl⟩ := List.mem_map.1 hx
    exact h y hy c hc)
/-- what joins clean strings by another separator is clean -/
theorem join_clean {p : UInt8 → Bool} (sep : List UInt8) (hs : ∀ c ∈ sep, p c = false) : ∀ (xs : List (List UInt8)), (∀ x ∈ xs, ∀ c ∈ x, p c = false) → ∀ c ∈ Lib.join xs sep, p c = false
  | [], _, c, hc => by simp [Lib.join_nil] at hc
  | [x], h, c, hc => by rw [Lib.join_one] at hc; exact h x (by simp) c hc
  | x :: y :: r, h, c, hc => by
    have e : Lib.join (x :: y :: r) sep = x ++ (sep ++ Lib.join (y :: r) sep) := by simp [Lib.join_cons, Lib.joinTail]
    rw [e] at hc
    rcases List.mem_append.1 hc with h1 | h1
    · exact h x (by simp) c h1
    · rcases List.mem_append.1 h1 with h2 | h2
      · exact hs c h2
      · exact join_clean sep hs (y :: r) (fun z hz => h z (List.mem_cons_of_mem _ hz)) c h2
theorem joinB_clean {p : UInt8 → Bool} {sep : ByteArray} (hs : ∀ c ∈ sep.data.toList, p c = false) (xs : List ByteArray) (h : ∀ x ∈ xs, ∀ c ∈ x.data.toList, p c = false) : ∀ c ∈ (joinB xs sep).data.toList, p c = false := by
  intro c hc
  refine join_clean sep.data.toList hs (xs.map (·.data.toList)) (fun x hx => ?_) c (by simpa [joinB] using hc)
  obtain ⟨y, hy, rfl⟩ := List.mem_map.1 hx
  exact h y hy
theorem nums_clean (xs : List Int) : ∀ c ∈ (joinB (xs.map fmtT) spB).data.toList, inSep ⟨#[10]⟩ c = false := by
  refine joinB_clean (by intro c hc; simp [spB] at hc; subst hc; decide) _ fun x hx => ?_
  obtain ⟨n, _, rfl⟩ := List.mem_map.1 hx
  exact fmtT_clean10 n
theorem linesL_clean (px : List Int) (W H k : Nat) : ∀ x ∈ linesL px W H k, ∀ c ∈ x.data.toList, inSep ⟨#[10]⟩ c = false := by
  intro x hx
  rcases List.mem_append.1 hx with h | h
  · simp only [headL, List.mem_cons, List.not_mem_nil, or_false] at h
    rcases h with rfl | rfl | rfl
    · intro c hc; simp at hc; rcases hc with rfl | rfl <;> decide
    · exact nums_clean [(W : Int), (H : Int)]
    · intro c hc; simp at hc; rcases hc with rfl | rfl | rfl <;> decide
  · obtain ⟨y, _, rfl⟩ := List.mem_map.1 h
    exact nums_clean _
/-- the lines of a text of lines -/
theorem linesB_of (xs : List ByteArray) (h0 : xs ≠ []) (h : ∀ x ∈ xs, ∀ c ∈ x.data.toList, inSep ⟨#[10]⟩ c = false) : linesB (joinB xs nlB ++ nlB) = xs := by
  have e : splitB (inSep ⟨#[10]⟩) (joinB xs nlB ++ nlB) = xs ++ [⟨#[]⟩] := by
    refine strs_of_data ?_
    rw [splitB_data, Go.Joins.data_append]
    show splitL _ (_ ++ 10 :: []) = _
    rw [splitL_join _ 10 (by decide)]
    have e2 := congrArg (List.map fun x : ByteArray => x.data.toList) (splitB_joined xs h0 h)
    rw [splitB_data] at e2
    rw [show nlB = ⟨#[10]⟩ from rfl, e2]
    simp [splitL]
  unfold linesB
  rw [e, if_pos (by simp; rfl)]
  simp

/-- what the line of the sides reads as -/
theorem nums_two {W H : Nat} (hW : W ≤ 12) (hH : H ≤ 12) : numsOf (joinB [fmtT W, fmtT H] spB) = [(W : Int), (H : Int)] := by
  have e := splitB_joined (d := 32) [fmtT W, fmtT H] (by simp) (fun x hx => by
    simp only [List.mem_cons, List.not_mem_nil, or_false] at hx
    rcases hx with rfl | rfl
    · exact fmtT_clean32 _
    · exact fmtT_clean32 _)
  have hf : ∀ n : Nat, n ≤ 12 → (parseO (fmtT n)).getD 0 = n := by
    intro n hn
    have hi : inB (n : Int) (-1000000000) 1000000000 = true := by rw [inB_iff]; omega
    rw [fmtT_of hi, parseO_fmt hi]
    rfl
  unfold numsOf
  rw [show spB = ⟨#[32]⟩ from rfl, e]
  simp [hf W hW, hf H hH]

/-- the pixels that the reference reads -/
noncomputable def pxS (L : List ByteArray) : List Int := (L.drop 3).flatMap numsOf
/-- the pixels that the program reads -/
noncomputable def pxI (L : List ByteArray) : List Int := numsOf (joinB (L.drop 3) ⟨#[32]⟩)
theorem splitL_flat : ∀ (xs : List (List UInt8)), xs ≠ [] → splitL (inSep ⟨#[32]⟩) (Lib.join xs [32]) = xs.flatMap (splitL (inSep ⟨#[32]⟩))
  | [], h => absurd rfl h
  | [x], _ => by rw [Lib.join_one]; simp
  | x :: y :: r, _ => by
    have e : Lib.join (x :: y :: r) [32] = x ++ 32 :: Lib.join (y :: r) [32] := by simp [Lib.join_cons, Lib.joinTail]
    rw [e, splitL_join _ 32 (by decide), splitL_flat (y :: r) (by simp), List.flatMap_cons]
    rfl
theorem px_same {L : List ByteArray} (h : 4 ≤ L.length) : pxI L = pxS L := by
  have hne : L.drop 3 ≠ [] := by
    intro e
    have := congrArg List.length e
    rw [List.length_drop, List.length_nil] at this
    omega
  have e : splitB (inSep ⟨#[32]⟩) (joinB (L.drop 3) ⟨#[32]⟩) = (L.drop 3).flatMap (splitB (inSep ⟨#[32]⟩)) := by
    refine strs_of_data ?_
    rw [splitB_data, joinB]
    show splitL _ (Lib.join _ [32]) = _
    rw [splitL_flat _ (by simpa using hne), List.map_flatMap, List.flatMap_map]
    congr 1
    funext x
    exact (splitB_data _ x).symm
  unfold pxI pxS numsOf
  rw [e, List.map_flatMap]

noncomputable def picS (t : ByteArray) : Pic := ⟨(numsOf ((linesB t).getD 1 ⟨#[]⟩)).head?.getD 0, (numsOf ((linesB t).getD 1 ⟨#[]⟩)).getLast?.getD 0, pxS (linesB t)⟩
noncomputable def picI (t : ByteArray) : Pic :=
  if (numsOf ((linesB t).getD 1 ⟨#[]⟩)).length = 2 then ⟨(numsOf ((linesB t).getD 1 ⟨#[]⟩)).getD 0 0, (numsOf ((linesB t).getD 1 ⟨#[]⟩)).getD 1 0, pxS (linesB t)⟩ else ⟨0, 0, pxS (linesB t)⟩
open Classical in
noncomputable def resS (t : ByteArray) : Pic × Bool := if 4 ≤ (linesB t).length ∧ (picS t).text = t ∧ t.size ≠ 0 then (picS t, true) else (⟨0, 0, []⟩, false)
open Classical in
noncomputable def resI (t : ByteArray) : Pic × Bool := if 4 ≤ (linesB t).length ∧ (linesB t).length ≤ 15 ∧ (picI t).okB = true ∧ (picI t).text = t then (picI t, true) else (⟨0, 0, []⟩, false)
theorem text_of {I : Pic} {t : ByteArray} (h : I.text = t) (h0 : t.size ≠ 0) : I.okB = true := by
  unfold Pic.text at h
  split at h
  · assumption
  · subst h; exact absurd rfl h0
theorem text_lines {I : Pic} (h : I.okB = true) : ∃ W H : Nat, I = ⟨W, H, I.px⟩ ∧ W ≤ 12 ∧ 1 ≤ H ∧ H ≤ 12 ∧ I.px.length = H * W ∧ linesB I.text = linesL I.px W H H := by
  obtain ⟨W, H, e, h1, h2, h3⟩ := Pic.ok_shape h
  refine ⟨W, H, e, h1.2, h2.1, h2.2, h3, ?_⟩
  have et : I.text = pgmB I.px W H := by
    unfold Pic.text
    rw [if_pos h, e]
    simp
  rw [et]
  exact linesB_of _ (fun e => by have := congrArg List.length e; rw [linesL_length] at this; simp at this) (linesL_clean _ _ _ _)
theorem text_size {I : Pic} (h : I.okB = true) : I.text.size ≠ 0 := by
  intro e
  obtain ⟨W, H, _, _, _, _, _, hl⟩ := text_lines h
  have h1 := linesB_length I.text
  have h2 := congrArg List.length hl
  rw [linesL_length] at h2
  omega
theorem res_same (t : ByteArray) : resI t = resS t := by
  by_cases hS : 4 ≤ (linesB t).length ∧ (picS t).text = t ∧ t.size ≠ 0
  · obtain ⟨h4, ht, h0⟩ := hS
    have hok := text_of ht h0
    obtain ⟨W, H, e, hW, hH1, hH, _, hl⟩ := text_lines hok
    rw [ht] at hl
    have h1 : (linesB t).getD 1 ⟨#[]⟩ = joinB [fmtT W, fmtT H] spB := by rw [hl]; rfl
    have hn : numsOf ((linesB t).getD 1 ⟨#[]⟩) = [(W : Int), (H : Int)] := by rw [h1, nums_two hW hH]
    have ep : picI t = picS t := by
      unfold picI picS
      rw [hn]
      simp
    have hlen : (linesB t).length ≤ 15 := by rw [hl, linesL_length]; omega
    unfold resI resS
    rw [ep, if_pos ⟨h4, hlen, hok, ht⟩, if_pos ⟨h4, ht, h0⟩]
  · by_cases hI : 4 ≤ (linesB t).length ∧ (linesB t).length ≤ 15 ∧ (picI t).okB = true ∧ (picI t).text = t
    · obtain ⟨h4, _, hok, ht⟩ := hI
      have h2 : (numsOf ((linesB t).getD 1 ⟨#[]⟩)).length = 2 := by
        by_cases h : (numsOf ((linesB t).getD 1 ⟨#[]⟩)).length = 2
        · exact h
        · unfold picI at hok
          rw [if_neg h] at hok
          unfold Pic.okB at hok
          simp [inB] at hok
      have ep : picI t = picS t := by
        unfold picI picS
        rw [if_pos h2]
        obtain ⟨a, b, e⟩ : ∃ a b, numsOf ((linesB t).getD 1 ⟨#[]⟩) = [a, b] := by
          match hq : numsOf ((linesB t).getD 1 ⟨#[]⟩), h2 with
          | [a, b], _ => exact ⟨a, b, rfl⟩
        rw [e]
        simp
      refine absurd ⟨h4, ?_, ?_⟩ hS
      · rw [← ep]; exact ht
      · rw [← ht]; exact text_size hok
    · unfold resI resS
      rw [if_neg hI, if_neg hS]
end Go.Proofs.YtkcghoeklbcihaaGreatDoor
