/- This text holds appends of slices of tiles to owned ones, and the library's Clone at tiles. -/
import Derived.Test.YtcogkglkioejaaaTls
import Derived.Laws.AppendOwnNone
namespace Go.Proofs.Ytcogkglkioejaaa
open Go.RowKit

/-- a tile's three cells -/
def T3.cs (t : T3) : List Value := [.int .i64 t.l, .int .i64 t.x, .int .i64 t.y]
theorem TLof_cells : ∀ (n : Nat) (L : List T3), L.length = n → ((List.range (n * 3)).map fun i => Value.int .i64 ((TLof L).f i)) = L.flatMap T3.cs
  | 0, L, h => by
    have : L = [] := List.length_eq_zero_iff.1 h
    subst this
    rfl
  | n + 1, L, h => by
    rcases List.eq_nil_or_concat L with rfl | ⟨K, t, rfl⟩
    · simp at h
    · rw [List.concat_eq_append] at h ⊢
      have hk : K.length = n := by simpa using h
      have ih := TLof_cells n K hk
      have hc := snoc_cells (TLof K) t
      have hf := TLof_snoc_f K t
      rw [List.flatMap_append, ← ih]
      have e1 : ((List.range ((n + 1) * 3)).map fun i => Value.int .i64 ((TLof (K ++ [t])).f i)) = (List.range (((TLof K).snoc t).n * 3)).map fun i => Value.int .i64 (((TLof K).snoc t).f i) := by
        have hn : ((TLof K).snoc t).n = n + 1 := by rw [hf.1, TLof_n]; simpa using hk
        rw [← hn]
        exact List.map_congr_left fun i hi => by rw [hf.2 i (List.mem_range.1 hi)]
      rw [e1, hc, TLof_n, hk]
      simp [T3.cs]
theorem ownT_iff {L : List T3} {lo : Nat} {w : World} {v : Value} : (TLof L).Own lo w v ↔ w.ownsRow lo 60 3 v L.length (L.flatMap T3.cs) ∧ ∀ t ∈ L, t.I := by
  unfold TL.Own
  rw [TLof_n, TLof_cells L.length L rfl]
  refine and_congr_right fun _ => ⟨fun h t ht => ?_, fun h i hi => ?_⟩
  · obtain ⟨i, hi, rfl⟩ := List.getElem_of_mem ht
    obtain ⟨e0, e1, e2⟩ := TLof_at hi
    refine ⟨?_, ?_, ?_⟩
    · rw [← e0]; exact h _ (by omega)
    · rw [← e1]; exact h _ (by omega)
    · rw [← e2]; exact h _ (by omega)
  · have h3 : i / 3 < L.length := by omega
    simp only [TLof]
    refine T3.c_I (h _ ?_) _
    simp [List.getD_eq_getElem?_getD, h3]
theorem cs_at {M : List T3} {i : Nat} (hi : i < M.length * 3) : (M.flatMap T3.cs)[i]? = some (.int .i64 ((TLof M).f i)) := by
  rw [← TLof_cells M.length M rfl, List.getElem?_map, List.getElem?_range hi]
  rfl
theorem cs_length (M : List T3) : (M.flatMap T3.cs).length = M.length * 3 := by
  rw [← TLof_cells M.length M rfl]
  simp

/-- append of a slice of tiles to an owned row -/
theorem wpList_append_tiles (w : World) {ops : Array Oper} {rest : List Oper} {o : Oper} {a : Act} {Q : Exit → Act → World → Prop} (hg : o.guard = none) (c x : Operand)
    (hop : o.op = Op.call { callee := Callee.builtin Builtin.append, args := #[c, x], argTypes := #[27, 27] }) (lo : Nat) (v : Value) (L : List T3) (hs : a.eval c = v) (hown : (TLof L).Own lo w v)
    (M : List T3) (hM : ∀ t ∈ M, t.I) (u : Value) (hx : a.eval x = u) (hu : (u = .slice none 0 0 ∧ M = []) ∨ ∃ ad cap, u = .slice (some ad) M.length cap ∧ ∀ i, i < M.length * 3 → w.cell? (ad.add i) = some (.int .i64 ((TLof M).f i)))
    (hlen : L.length + M.length < 1000000000) (hlo : lo ≤ w.heap.size)
    (hK : ∀ v' w', (TLof (L ++ M)).Own lo w' v' → w.grownBy w' v.ownBlock → wpList Try.prog ops Q rest (a.put o.dst v') w') : wpList Try.prog ops Q (o :: rest) a w := by
  obtain ⟨i0, hi0, hz0, hz1, hz2⟩ := info_parts info_Tile
  have ho := ownT_iff.1 hown
  rcases hu with ⟨rfl, rfl⟩ | ⟨ad, cap, rfl, hc⟩
  · refine wpList_append_own_none hg c x 27 hop lo 60 i0 3 Try.underlying27 hi0 v L.length _ hs ho.1 hx ?_
    exact hK v w (by simpa using hown) (grownBy.refl _ _)
  · refine wpList_append_own w hg c x 27 hop lo 60 i0 (.agg #[.int .i64 0, .int .i64 0, .int .i64 0]) 3 24 Try.underlying27 hi0 hz0 hz1 hz2 rfl (by decide) v L.length _ hs ho.1 ad M.length cap (M.flatMap T3.cs) hx (cs_length M) ?_ ?_ ?_ ?_ hlo ?_
    · intro j u hj
      have hjl : j < M.length * 3 := by
        rw [← cs_length M]
        exact (List.getElem?_eq_some_iff.1 hj).1
      rw [cs_at hjl] at hj
      rw [hc j hjl, hj]
    · intro u hu
      obtain ⟨t, _, ht⟩ := List.mem_flatMap.1 hu
      simp only [T3.cs, List.mem_cons, List.not_mem_nil, or_false] at ht
      rcases ht with rfl | rfl | rfl <;> rfl
    · unfold maxLen; omega
    · omega
    · intro v' w1 hown' hgrow _
      refine hK v' w1 (ownT_iff.2 ⟨by rw [List.length_append, List.flatMap_append]; exact hown', fun t ht => ?_⟩) hgrow
      rcases List.mem_append.1 ht with h | h
      · exact ho.2 t h
      · exact hM t h
/-- an owned row as that which is appended -/
theorem TL.Own.appd {M : List T3} {lo : Nat} {w : World} {u : Value} (h : (TLof M).Own lo w u) : (u = .slice none 0 0 ∧ M = []) ∨ ∃ ad cap, u = .slice (some ad) M.length cap ∧ ∀ i, i < M.length * 3 → w.cell? (ad.add i) = some (.int .i64 ((TLof M).f i)) := by
  have ho := ownT_iff.1 h
  rcases ho.1.2 with ⟨rfl, h0⟩ | ⟨g, cap, cur, rfl, hb, hg, hc, hm, hs, ht⟩
  · exact .inl ⟨rfl, List.length_eq_zero_iff.1 h0⟩
  · refine .inr ⟨_, _, rfl, fun i hi => ?_⟩
    have e := cs_at hi
    rw [← ht, List.getElem?_take, if_pos hi] at e
    have ea : (⟨g, 0, none⟩ : Addr).add i = ⟨g, i, none⟩ := by
      unfold Addr.add
      split <;> simp_all
    rw [ea]
    simp only [World.cell?, hg]
    simpa using e
end Go.Proofs.Ytcogkglkioejaaa
