/- This text proves the program's rows of a function of the language: what it looks up in its table, and the walk of 'called' at a function that lies in the table. -/
import Derived.Test.YtaegmenjgjdimaaGreatSh17
import Derived.Test.YtaegmenjgjdimaaGreatGr1
import Derived.Test.YtaegmenjgjdimaaGreatLawKit
import Derived.Lib.SmallJoins
namespace Go.Proofs.YtaegmenjgjdimaaGreat
open Go.RowKit

theorem conc {s : ByteArray} {l : List UInt8} (h : s.toList = l) : s = ⟨l.toArray⟩ := by
  rw [Lib.toList_data] at h
  subst h
  cases s
  simp
/-- v reads in w as the rows S -/
def SS (lo hi : Nat) (w : World) (v : Value) (S : List (List Int)) : Prop :=
  ∃ a cap, v = .slice a S.length cap ∧ S.length ≤ cap ∧ cap ≤ maxLen ∧ ∀ i xs, S[i]? = some xs → ∃ b off u, a = some ⟨b, off, none⟩ ∧ lo ≤ b ∧ b < hi ∧ w.cell? ⟨b, off + i, none⟩ = some u ∧ Ints lo hi w u xs
theorem SS.same {lo hi : Nat} {w w' : World} {v : Value} {S : List (List Int)} (h : SS lo hi w v S) (s : Same lo hi w w') : SS lo hi w' v S := by
  obtain ⟨a, cap, h1, h2, h3, h4⟩ := h
  refine ⟨a, cap, h1, h2, h3, fun i xs hx => ?_⟩
  obtain ⟨b, off, u, h6, h7, h8, h9, h10⟩ := h4 i xs hx
  exact ⟨b, off, u, h6, h7, h8, by rw [s.cell h7 h8]; exact h9, h10.same s⟩
theorem SS.ext {lo hi : Nat} {w w' : World} {v : Value} {S : List (List Int)} (h : SS lo hi w v S) (hh : hi ≤ w.heap.size) (e : Ext w w') : SS lo hi w' v S := h.same (e.same hh)
structure SSAt (lo hi : Nat) (w : World) (a : Option Addr) (cap : Nat) (S : List (List Int)) : Prop where
  le : S.length ≤ cap
  cap : cap ≤ 9223372036854775807
  cell : ∀ i xs, S[i]? = some xs → ∃ b off u, a = some ⟨b, off, none⟩ ∧ lo ≤ b ∧ b < hi ∧ w.cell? ⟨b, off + i, none⟩ = some u ∧ Ints lo hi w u xs
theorem SS.open {lo hi : Nat} {w : World} {v : Value} {S : List (List Int)} (h : SS lo hi w v S) : ∃ a cap, v = .slice a S.length cap ∧ SSAt lo hi w a cap S := by
  obtain ⟨a, cap, g1, g2, g3, g4⟩ := h
  exact ⟨a, cap, g1, g2, by unfold maxLen at g3; omega, g4⟩
theorem SSAt.shut {lo hi : Nat} {w : World} {a : Option Addr} {cap : Nat} {S : List (List Int)} (h : SSAt lo hi w a cap S) : SS lo hi w (.slice a S.length cap) S :=
  ⟨a, cap, rfl, h.le, by unfold maxLen; have := h.cap; omega, h.cell⟩
theorem SSAt.at {lo hi : Nat} {w : World} {a : Option Addr} {cap : Nat} {S : List (List Int)} (h : SSAt lo hi w a cap S) {k : Nat} (hk : k < S.length) {wr : World} (hx : Ext w wr) (hh : hi ≤ w.heap.size) :
    ∃ b off u, a = some ⟨b, off, none⟩ ∧ b < w.heap.size ∧ b < wr.heap.size ∧ wr.cell? ⟨b, off + k, none⟩ = some u ∧ Ints lo hi wr u S[k] := by
  obtain ⟨b, off, u, e, h1, h2, c0, hu⟩ := h.cell k S[k] (by simp [hk])
  have hz := hx.size
  exact ⟨b, off, u, e, by omega, by omega, (hx.cells.1 b _ (by omega)).trans c0, hu.ext hh hx⟩
/-- a whole block of integers as an owned row -/
theorem RowI.ownInts {w : World} {b n : Nat} {f : Nat → Int} {lo : Nat} (h : RowI w b 3 n f) (hb : lo ≤ b) (hm : n ≤ maxLen) (hi : ∀ i, i < n → I64 (f i)) : OwnInts lo w (.slice (some ⟨b, 0, none⟩) n n) ((List.range n).map f) := by
  obtain ⟨c, h1, h2, h3⟩ := h
  have hl : ((List.range n).map f).length = n := by simp
  refine ⟨⟨by simp, .inr ⟨b, n, c, by rw [hl], hb, h1, by rw [hl]; exact Nat.le_refl _, hm, by rw [h2, Nat.mul_one], ?_⟩⟩, fun x hx => ?_⟩
  · apply List.ext_getElem?
    intro i
    rw [List.getElem?_take, hl, Nat.mul_one, List.getElem?_map, List.getElem?_map]
    by_cases hlt : i < n
    · rw [if_pos hlt, List.getElem?_range hlt]
      simpa using h3 i hlt
    · rw [if_neg hlt, List.getElem?_eq_none (by simp; omega)]
      rfl
  · obtain ⟨i, hi', rfl⟩ := List.mem_map.1 hx
    exact hi i (List.mem_range.1 hi')

theorem run_look (w : World) (r clock i : Nat) (es : Array MapEntry) (s : ByteArray) (v : Value) (hb : w.heap[r]? = some (.map es clock)) (hf : Instr.findNow .string (.string s) es.toList 0 = some (some (i, v))) :
    (Instr.lookup 166 (.map (some r)) (.string s) false).run Tryz.prog w = .ok v w := by
  have hc := fun b => MapKept.run_checkKey (P := Tryz.prog) (w := w) (k := .string s) Tryz.underlying9 (by simp [MapKept.IsKey]) b 9999
  have hm := Tryz.underlying166
  simp [Instr.lookup, run_underlying hm, MapKept.run_getObj_map hb, hc, MapKept.run_findKey Tryz.underlying9 hf, Result.andThen]
theorem wpList_look (w : World) {ops : Array Oper} {rest : List Oper} {o : Oper} {a : Act} {Q : Exit → Act → World → Prop} (hg : o.guard = none) (m x : Operand) (hop : o.op = Op.lookup 166 m x false)
    (b clock i : Nat) (es : Array MapEntry) (hm : a.eval m = .map (some b)) (hb : w.heap[b]? = some (.map es clock)) (s : ByteArray) (hx : a.eval x = .string s) (v : Value) (hf : Instr.findNow .string (.string s) es.toList 0 = some (some (i, v)))
    (hK : wpList Tryz.prog ops Q rest (a.put o.dst v) w) : wpList Tryz.prog ops Q (o :: rest) a w := by
  refine wpList_plain hg fun K' hK' => ?_
  have hrun := run_look w b clock i es s v hb hf
  unfold Oper.wp
  simp [execOp, hop, hm, hx, hrun, Result.andThen]
  exact hK' _ _ hK
end Go.Proofs.YtaegmenjgjdimaaGreat
