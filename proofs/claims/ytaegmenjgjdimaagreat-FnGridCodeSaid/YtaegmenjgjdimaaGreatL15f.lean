/- This text proves what the program's mip levels compute. -/
import Derived.Test.YtaegmenjgjdimaaGreatLawKit
import Derived.Deep.Cut
import Derived.Deep.CutRange
import Derived.Laws.CopyOwn
namespace Go.Proofs.YtaegmenjgjdimaaGreat
open Go.RowKit

/-- k levels down -/
def Tex.mip (t : Tex) : Nat → Tex
  | 0 => t
  | k + 1 => (t.mip k).half
theorem Tex.Ok.mip {t : Tex} (h : t.Ok) : ∀ k : Nat, k ≤ t.log → (t.mip k).Ok ∧ (t.mip k).log = t.log - k
  | 0, _ => ⟨h, by simp [Tex.mip]⟩
  | k + 1, hk => by
    obtain ⟨h1, h2⟩ := h.mip k (by omega)
    refine ⟨h1.half (by omega), ?_⟩
    show (t.mip k).log - 1 = _
    omega

theorem OwnInts.keptAt {lo : Nat} {w w' : World} {v : Value} {xs : List Int} (h : OwnInts lo w v xs) (s : ∀ g, v.ownBlock = some g → w'.heap[g]? = w.heap[g]?) : OwnInts lo w' v xs := by
  obtain ⟨⟨h1, h2⟩, h3⟩ := h
  refine ⟨⟨h1, ?_⟩, h3⟩
  rcases h2 with hn | ⟨g, cap, cur, hv, hb, hg, r⟩
  · exact .inl hn
  · exact .inr ⟨g, cap, cur, hv, hb, by rw [s g (by rw [hv]; rfl)]; exact hg, r⟩

theorem add_none (b o j : Nat) : (⟨b, o, none⟩ : Addr).add j = ⟨b, o + j, none⟩ := by
  unfold Addr.add
  split
  · rename_i e; subst e; rfl
  · rfl

/-- copy of as many integers as the owned row holds -/
theorem wpList_copy_ints {w : World} {ops : Array Oper} {rest : List Oper} {o : Oper} {a : Act} {Q : Exit → Act → World → Prop} (hgd : o.guard = none) (d s : Operand)
    (hop : o.op = Op.call { callee := Callee.builtin Builtin.copy, args := #[d, s], argTypes := #[29, 29] }) (lo B b off n m cap : Nat) (xs zs : List Int)
    (hd : a.eval d = .slice (some ⟨B, 0, none⟩) n m) (hs : a.eval s = .slice (some ⟨b, off, none⟩) n cap) (hn : xs.length = n) (hz : zs.length = n) (hown : OwnInts lo w (.slice (some ⟨B, 0, none⟩) n m) zs)
    (hx : ∀ i x, xs[i]? = some x → I64 x ∧ w.cell? ⟨b, off + i, none⟩ = some (.int .i64 x))
    (h : ∀ w', OwnInts lo w' (.slice (some ⟨B, 0, none⟩) n m) xs → (∀ k, k ≠ B → w'.heap[k]? = w.heap[k]?) → Below lo w w' → wpList Tryz.prog ops Q rest (a.put o.dst (goInt n)) w') :
    wpList Tryz.prog ops Q (o :: rest) a w := by
  obtain ⟨⟨hl, h2⟩, h3⟩ := hown
  obtain ⟨i0, hi0, hz0, hz1, hz2⟩ := info_parts info_int
  rcases h2 with ⟨h1, _⟩ | ⟨g, cap', cur, h1, hb, hg, hc, hm, hsz, ht⟩
  · simp at h1
  simp only [Value.slice.injEq, Option.some.injEq, Addr.mk.injEq, and_true] at h1
  obtain ⟨rfl, _, rfl⟩ := h1
  subst hn
  have hcs : (xs.map (Value.int .i64)).length = Nat.min xs.length xs.length := by simp
  refine wpList_copy_own hgd d s 29 29 hop 3 Tryz.underlying29 (by rw [hi0]; simp [hz1]) B 0 xs.length m ⟨b, off, none⟩ xs.length cap hd hs cur 3 hg (xs.map (Value.int .i64)) hcs ?_ ?_ ?_ ?_
  · intro j v hj
    rw [List.getElem?_map] at hj
    cases hxj : xs[j]? with
    | none => rw [hxj] at hj; cases hj
    | some x =>
      rw [hxj] at hj
      simp only [Option.map_some, Option.some.injEq] at hj
      subst hj
      rw [add_none]
      exact (hx j x hxj).2
  · simp; omega
  · intro v hv
    obtain ⟨x, _, rfl⟩ := List.mem_map.1 hv
    rfl
  · have hlen : (xs.map (Value.int .i64)).length = xs.length := by simp
    rw [hlen]
    refine h _ ⟨⟨by simp, .inr ⟨B, m, _, rfl, hb, setRow_heap w B _ _ _ _ hg, by omega, hm, ?_, ?_⟩⟩, fun x hx' => ?_⟩ (fun k hk => setRow_other w B k _ hk) (below_setRow (Below.refl _ _) hb _)
    · simp; omega
    · simp
    · obtain ⟨i, hi⟩ := List.getElem?_of_mem hx'
      exact (hx i x hi).1

/-- the boxes of the program's mip: the texture is at t -/
structure MSt (w wr : World) (t : Tex) (A : Nat) (a : Option Addr) (c : Nat) : Prop where
  ext : Ext w wr
  pos : w.heap.size + 1 < A
  box : TBox wr A (.int .i64 t.log) (.slice a t.px.length c)
  f0 : wr.frozen? ⟨A, 0, none⟩ = false
  f1 : wr.frozen? ⟨A, 1, none⟩ = false
  res : TBox wr (w.heap.size + 1) (.int .i64 0) (.slice none 0 0)
  r0 : wr.frozen? ⟨w.heap.size + 1, 0, none⟩ = false
  r1 : wr.frozen? ⟨w.heap.size + 1, 1, none⟩ = false
  own : OwnInts (w.heap.size + 1 + 1) wr (.slice a t.px.length c) t.px
  ne : ∀ g, (Value.slice a t.px.length c).ownBlock = some g → g ≠ A

theorem MSt.fill {w wr w2 : World} {l : Int} {px zs : List Int} {A B n : Nat} (h : MSt w wr ⟨l, zs⟩ A (some ⟨B, 0, none⟩) n) (hz : zs.length = px.length) (hown : OwnInts (w.heap.size + 1 + 1) w2 (.slice (some ⟨B, 0, none⟩) px.length n) px)
    (ho : ∀ k, k ≠ B → w2.heap[k]? = wr.heap[k]?) (hb : Below (w.heap.size + 1 + 1) wr w2) : MSt w w2 ⟨l, px⟩ A (some ⟨B, 0, none⟩) n := by
  have h1 := h.own.lt
  have hB : w.heap.size + 1 + 1 ≤ B := (h1 B rfl).1
  have hne : A ≠ B := fun e => h.ne B rfl e.symm
  have hz' := hb.size
  have b1 := h.box.at hz' (ho A hne)
  simp only [hz] at b1
  refine ⟨Below.trans h.ext (Below.mono hb (by omega)), h.pos, b1, (World.frozen?_of_block (w := wr) (ho A hne)).trans h.f0, (World.frozen?_of_block (w := wr) (ho A hne)).trans h.f1, h.res.at hz' (ho _ (by omega)),
    (World.frozen?_of_block (w := wr) (ho (w.heap.size + 1) (by omega))).trans h.r0, (World.frozen?_of_block (w := wr) (ho (w.heap.size + 1) (by omega))).trans h.r1, hown, fun g hg => ?_⟩
  exact h.ne g hg
theorem MSt.step {w wr w1 : World} {t t2 : Tex} {A : Nat} {a a2 : Option Addr} {c c2 : Nat} (h : MSt w wr t A a c) (e : Ext wr w1) (hown : OwnTex wr.heap.size w1 (.agg #[.int .i64 t2.log, .slice a2 t2.px.length c2]) t2) :
    MSt w ((w1.setCell ⟨A, 0, none⟩ (.int .i64 t2.log)).setCell ⟨A, 1, none⟩ (.slice a2 t2.px.length c2)) t2 A a2 c2 := by
  obtain ⟨u, hu, _, hown⟩ := hown
  obtain rfl : Value.slice a2 t2.px.length c2 = u := by simpa using hu
  have hA := h.box.lt
  have hz := e.size
  have hp := h.pos
  have hk : ∀ b o, b ≠ A → ((w1.setCell ⟨A, 0, none⟩ (.int .i64 t2.log)).setCell ⟨A, 1, none⟩ (.slice a2 t2.px.length c2)).cell? ⟨b, o, none⟩ = w1.cell? ⟨b, o, none⟩ := fun b o hb => by
    rw [World.cell?_setCell_other _ _ _ _ (fun e => by simp only [Addr.mk.injEq] at e; omega), World.cell?_setCell_other _ _ _ _ (fun e => by simp only [Addr.mk.injEq] at e; omega)]
  have b1 := h.box.ext e
  have r1 := h.res.ext e
  obtain ⟨_, hf⟩ := e.cells
  refine ⟨((h.ext.trans e).setCell (by show w.heap.size ≤ A; omega) _).setCell (by show w.heap.size ≤ A; omega) _, hp, ⟨by simp; omega, ?_, ?_⟩, ?_, ?_, ⟨by simp; omega, by rw [hk _ _ (by omega)]; exact r1.c0, by rw [hk _ _ (by omega)]; exact r1.c1⟩, ?_, ?_, ?_, ?_⟩
  · rw [World.cell?_setCell_other _ _ _ _ (by simp)]
    exact World.cell?_setCell_same _ _ _ b1.c0
  · refine World.cell?_setCell_same _ _ _ (?_ : _ = some (Value.slice a t.px.length c))
    rw [World.cell?_setCell_other _ _ _ _ (by simp)]
    exact b1.c1
  · rw [World.frozen?_setCell, World.frozen?_setCell, hf _ _ hA]; exact h.f0
  · rw [World.frozen?_setCell, World.frozen?_setCell, hf _ _ hA]; exact h.f1
  · rw [World.frozen?_setCell, World.frozen?_setCell, hf _ _ (by omega)]; exact h.r0
  · rw [World.frozen?_setCell, World.frozen?_setCell, hf _ _ (by omega)]; exact h.r1
  · exact ((hown.setLow (by exact hA) _).setLow (by exact hA) _).low (by omega)
  · intro g hg
    have := (hown.lt g hg).1
    omega
theorem Tex.Ok.tex {lo : Nat} {w : World} {t : Tex} {a : Option Addr} {c : Nat} (h : t.Ok) (hown : OwnInts lo w (.slice a t.px.length c) t.px) : OwnTex lo w (.agg #[.int .i64 t.log, .slice a t.px.length c]) t :=
  ⟨_, rfl, ⟨by have := h.log0; omega, by have := h.log4; omega⟩, hown⟩

end Go.Proofs.YtaegmenjgjdimaaGreat
