/- This text holds the walk of the program's order of a cache's tiles: the keys of the map, sorted by their ages. -/
import Derived.Test.YtcogkglkioejaaaOrd
import Derived.Test.YtcogkglkioejaaaL16b
import Derived.Maps.RangeWalk
namespace Go.Proofs.Ytcogkglkioejaaa
open Go.RowKit Go.Maps Go.Shelf

/-- the loop over the map's keys: L are the map's, M those met -/
structure RgSt (w wr : World) (b : Nat) (L M : List T3) (left : Lit → Bool) (o : Value) : Prop where
  own : (TLof M).Own (w.heap.size + 1) wr o
  ext : Ext w wr
  nod : M.Nodup
  mem : ∀ t : T3, t ∈ M ↔ t ∈ L ∧ left t.key = false
  cell : wr.cell? ⟨w.heap.size, 0, none⟩ = some (.map (some b))
  lt : w.heap.size + 2 < wr.heap.size

theorem RgSt.ne {w wr : World} {b r n : Nat} {L M : List T3} {left left' : Lit → Bool} {o : Value} {D : DataW Unit} {cnt : Nat} (h : RgSt w wr b L M left o) (hr : wr.ranges Try.prog 60 (plainElem Try.prog 3) b r n D left' cnt) : some r ≠ o.ownBlock := by
  intro e
  obtain ⟨es, clock, since, seen, c0, _, _, _, _, hi, _⟩ := hr
  rcases h.own.1.2 with ⟨hn, _⟩ | ⟨g, cap, cur, hv, hb, hg, _⟩
  · rw [hn] at e
    simp [Value.ownBlock] at e
  · rw [hv] at e
    simp only [Value.ownBlock, Option.some.injEq] at e
    subst e
    rw [hg] at hi
    simp at hi
theorem RgSt.step {w wr w1 : World} {b r : Nat} {L M : List T3} {left : Lit → Bool} {o : Value} (h : RgSt w wr b L M left o) (hg : wr.grownBy w1 (some r)) (hne : some r ≠ o.ownBlock) (hr : w.heap.size + 1 ≤ r) : RgSt w w1 b L M left o := by
  have hl := h.lt
  have hs := hg.size
  have hb : w1.heap[w.heap.size]? = wr.heap[w.heap.size]? := hg.block _ (by omega) (by simp; omega)
  refine ⟨?_, h.ext.grown hg (fun k e => by simp at e; omega), h.nod, h.mem, (World.cell?_of_block hb).trans h.cell, by omega⟩
  obtain ⟨⟨h1, h2⟩, h3⟩ := h.own
  refine ⟨⟨h1, ?_⟩, h3⟩
  rcases h2 with hn | ⟨g, cap, cur, hv, hb, hgc, rr⟩
  · exact .inl hn
  · refine .inr ⟨g, cap, cur, hv, hb, ?_, rr⟩
    rw [hg.block g (Array.getElem?_eq_some_iff.1 hgc).1 (fun e => hne (by rw [hv]; exact e.symm))]
    exact hgc
theorem RgSt.to {w wr w1 : World} {b : Nat} {L M : List T3} {left : Lit → Bool} {o : Value} (h : RgSt w wr b L M left o) (e : Ext wr w1) : RgSt w w1 b L M left o :=
  ⟨h.own.ext e, h.ext.trans e, h.nod, h.mem, (e.cells.1 _ _ (by have := h.lt; omega)).trans h.cell, Nat.lt_of_lt_of_le h.lt e.size⟩
theorem RgSt.push {w wr w4 : World} {b : Nat} {L M : List T3} {left : Lit → Bool} {o o' : Value} {x : T3} (h : RgSt w wr b L M left o) (hg : wr.grownBy w4 o.ownBlock) (hown : ((TLof M).snoc x).Own (w.heap.size + 1) w4 o') (hL : ∀ t ∈ L, t.I) (hx : x ∈ L) (hlx : left x.key = true) :
    RgSt w w4 b L (M ++ [x]) (fun z => left z && !z.sameKey x.key) o' := by
  have hl := h.lt
  have hs := hg.size
  have hb : w4.heap[w.heap.size]? = wr.heap[w.heap.size]? := hg.block _ (by omega) (fun e => by have := (h.own.lt _ e.symm).1; omega)
  have hxM : x ∉ M := fun hm => by
    have := ((h.mem x).1 hm).2
    rw [hlx] at this
    cases this
  refine ⟨TLof_snoc_own hown, h.ext.grown hg (fun k e => by have := (h.own.lt k e).1; omega), ?_, fun t => ?_, (World.cell?_of_block hb).trans h.cell, by omega⟩
  · rw [List.nodup_append]
    refine ⟨h.nod, by simp, fun a ha c hc => ?_⟩
    simp at hc
    subst hc
    rintro rfl
    exact hxM ha
  · rw [List.mem_append, List.mem_singleton, h.mem t]
    constructor
    · rintro (⟨h1, h2⟩ | rfl)
      · exact ⟨h1, by simp [h2]⟩
      · exact ⟨hx, by simp [WideAt.sameKey_self (isKey_tile (hL _ hx))]⟩
    · rintro ⟨h1, h2⟩
      by_cases e : t = x
      · exact .inr e
      · refine .inl ⟨h1, ?_⟩
        have hne : t.key ≠ x.key := fun ek => e (T3.key_inj (hL t h1) (hL x hx) ek)
        rw [sameKey_ne hne] at h2
        simpa using h2
theorem order_eq {D : DataW Unit} {L M : List T3} {age : T3 → Int} (hA : AgesD D L age) (hs : L.Pairwise fun x y => age x < age y) (hp : M.Perm L) (hM : M.Pairwise fun x y => ageOf D x ≤ ageOf D y) : M = L := by
  have ha : ∀ t ∈ L, ageOf D t = age t := fun t ht => ageOf_of ((hA.2.2.2.2 t (hA.2.2.1 t ht)).2 ht _)
  refine List.Perm.eq_of_pairwise (le := fun x y => ageOf D x ≤ ageOf D y) ?_ hM ?_ hp
  · intro x y hx hy h1 h2
    have hx' := hp.mem_iff.1 hx
    rw [ha x hx', ha y hy] at h1 h2
    have he : age x = age y := by omega
    obtain ⟨i, hi, rfl⟩ := List.getElem_of_mem hx'
    obtain ⟨j, hj, rfl⟩ := List.getElem_of_mem hy
    rw [List.pairwise_iff_getElem] at hs
    rcases Nat.lt_trichotomy i j with h | h | h
    · have := hs i j hi hj h; omega
    · subst h; rfl
    · have := hs j i hj hi h; omega
  · exact hs.imp_of_mem (fun hx hy h => by rw [ha _ hx, ha _ hy]; omega)
theorem nodup_len : ∀ (M L : List T3), M.Nodup → (∀ t ∈ M, t ∈ L) → M.length ≤ L.length
  | [], _, _, _ => Nat.zero_le _
  | x :: M, L, hn, hs => by
    obtain ⟨h1, h2⟩ := List.nodup_cons.1 hn
    have hx : x ∈ L := hs x (by simp)
    have := nodup_len M (L.erase x) h2 fun t ht => (List.mem_erase_of_ne (fun e : t = x => h1 (by rw [← e]; exact ht))).2 (hs t (by simp [ht]))
    have h3 := List.length_erase_of_mem hx
    have h4 := List.length_pos_of_mem hx
    simp only [List.length_cons]
    omega
theorem has_of_at {D : DataW Unit} {kl : Lit} {y : DataW Unit} (h : ∀ z, D.atKey kl z = y) : has D kl = true := by
  cases hh : has D kl with
  | true => rfl
  | false =>
    have h1 := h (.lit (.bool true))
    have h2 := h (.lit (.bool false))
    rw [atKey_of_not_has hh] at h1 h2
    rw [← h2] at h1
    simp at h1

set_option maxRecDepth 10000 in
set_option maxHeartbeats 1600000 in
theorem ordered_any (L : List T3) (age : T3 → Int) (b n : Nat) (w : World) (h : Ages w b n L age) (hlen : L.length < 1000) (hne : L ≠ []) (hs : L.Pairwise fun x y => age x < age y) :
    Calls Try.prog 61 #[.map (some b)] w fun e w' => ∃ v, e = .returned v ∧ (TLof L).Own w.heap.size w' v ∧ Ext w w' := by
  obtain ⟨D, hown, hA⟩ := h
  have hbb := hown.lt
  go_enter Try.func61, Try.ntmps61
  go_wp2_with (first | (at_range; refine wpList_range_own _ rfl _ 92 rfl 60 3 tileLaw Try.underlying92 _ b n D rfl ((hown.alloc _).alloc _) ?_; intro w0 hrg0 hg0 hs0) | go_in)
  go_frame
  simp only [World.size_alloc] at hrg0 hs0
  simp only [World.size_alloc]
  have hst0 : RgSt w w0 b L [] (has D) (.slice (some ⟨w.heap.size + 1, 0, none⟩) 0 0) := by
    have hb0 : w0.heap[w.heap.size]? = ((w.alloc (.cells #[.map (some b)] 92)).alloc (.cells #[] 60)).heap[w.heap.size]? := hg0.block _ (by simp; omega) (by simp)
    have hb1 : w0.heap[w.heap.size + 1]? = ((w.alloc (.cells #[.map (some b)] 92)).alloc (.cells #[] 60)).heap[w.heap.size + 1]? := hg0.block _ (by simp) (by simp)
    refine ⟨?_, (((Ext.refl w).alloc _).alloc _).grown hg0 (fun k e => by simp at e), List.nodup_nil, fun t => ?_, (World.cell?_of_block hb0).trans (by simp [go_sem]), by omega⟩
    · rw [TLof_nil]
      have hnew := TL.nil_new (w.alloc (.cells #[.map (some b)] 92)) (w.heap.size + 1) (by simp)
      simp only [World.size_alloc] at hnew
      exact hnew.kept (fun c _ hc => hg0.block c hc (by simp))
    · simp only [List.not_mem_nil, false_iff, not_and, Bool.not_eq_false]
      intro ht
      rw [(hA.2.2.2.2 t (hA.2.2.1 t ht)).1]
      simpa using ht
  clear hg0
  go_loopw [3] (fun o wr => ∃ left cnt M, wr.ranges Try.prog 60 (plainElem Try.prog 3) b (w.heap.size + 1 + 1) n D left cnt ∧ RgSt w wr b L M left o) (fun _ wr => wr.rangeLeft b (w.heap.size + 1 + 1))
  case atStart => exact ⟨_, _, [], hrg0, hst0⟩
  case round =>
    obtain ⟨left, cnt, M, hrg, hst⟩ := hrel
    go_wp2_with (first | (at_next; refine wpList_next_ranges _ rfl _ rfl 60 tileLaw (plainElem Try.prog 3) T3.val (Value.int .i64) (fun key kl hk => by obtain ⟨t, _, e, _⟩ := keyOf_tile_inv hk; exact ⟨t, e⟩) (fun v y hv => by obtain ⟨c, e, _⟩ := plainElem_int_inv Try.underlying3 hv; exact ⟨c, e⟩) b _ n D left cnt rfl hrg ?_ ?_) | go_in)
    · intro hc0 hl0
      have hp : M.Perm L := (List.perm_ext_iff_of_nodup hst.nod hA.2.1).2 fun t => by rw [hst.mem t]; simp [hl0]
      obtain ⟨d, hd⟩ : ∃ d : Array TI, d.toList.map (·.1) = M := ⟨(M.attach.map fun x => (⟨x.1, hA.2.2.1 x.1 (hp.mem_iff.1 x.2)⟩ : TI)).toArray, by simp [List.map_map, Function.comp_def]⟩
      have hdl : d.size = L.length := by rw [← hp.length_eq, ← hd]; simp
      obtain ⟨g, cap, rfl, hgl, hgs⟩ : ∃ g cap, u3 = .slice (some ⟨g, 0, none⟩) d.size cap ∧ w.heap.size + 1 ≤ g ∧ g < wr.heap.size := by
        rcases hst.own.1.2 with ⟨_, h0⟩ | ⟨g, cap, cur, hv, hb, hgc, _⟩
        · exact absurd (List.length_eq_zero_iff.1 (hp.length_eq ▸ h0)) hne
        · exact ⟨g, cap, by rw [hv, hdl, ← hp.length_eq]; rfl, hb, (Array.getElem?_eq_some_iff.1 hgc).1⟩
      have hown1 := hst.own
      rw [← hd] at hown1
      have hl := hst.lt
      have hcon := sortTile_any d (w.heap.size + 1) g cap w.heap.size b n D wr hown1 hst.cell (by omega) (by omega) hrg.owns (by omega) hgs (by omega)
      have hDL := hid hdl
      clear hdl
      go_wp2_with fail
      refine hcon.mono ?_
      rintro e w' ⟨rfl, d', m, os, hp', hs', rfl⟩
      clear hcon
      have hM : d'.toList.map (·.1) = L := order_eq hA hs ((hp'.map _).trans (hd ▸ hp)) (List.pairwise_map.2 hs')
      have hfin := sorted_own (m := m) (os := os) hown1 (show d'.size = d.size by simpa using hp'.length_eq)
      rw [hM, hDL.out] at hfin
      have hE : Ext w (sortWorldK encT 3 wr g 0 m d' os) := by
        refine ⟨hst.ext.os, hst.ext.tape, hst.ext.output, Nat.le_trans hst.ext.size sorted_size, fun c hc => (sorted_other (by omega) (by omega)).trans (hst.ext.block hc)⟩
      have HF := hid (hfin.low (Nat.le_succ _))
      have HE := hid hE
      generalize sortWorldK encT 3 wr g 0 m d' os = wz at HF HE ⊢
      clear hfin hE hown1 hs' hp' hM hst hrg
      go_wp2_with fail
      go_ret
      exact ⟨_, by rw [hDL.out]; rfl, HF.out, HE.out⟩
    · intro x c kl ya yp w1 cnt' hk hlk hv hat hrg1 hlt hg1 hs1 hen
      obtain ⟨t, ht, hxt, rfl⟩ := keyOf_tile_inv hk
      obtain rfl := T3.val_inj hxt
      clear hxt hk hv
      have hxL : x ∈ L := by
        have := (hA.2.2.2.2 x ht).1
        rw [has_of_at hat] at this
        simpa using this.symm
      clear hat
      have hst1 := hst.step hg1 (hst.ne hrg) (by omega)
      have hneo := hst.ne hrg
      have HC := hid hrg
      clear hst hrg hg1 hs1
      simp only [T3.val] at hen ⊢
      have hlM : M.length ≤ L.length := nodup_len M L hst1.nod fun t ht => ((hst1.mem t).1 ht).1
      obtain ⟨oa, oc, rfl, hol⟩ := hst1.own.form
      have hl := hst1.lt
      have hblk : ∀ k, (Value.slice oa (TLof M).n oc).ownBlock = some k → w.heap.size + 1 ≤ k := fun k e => (hst1.own.lt k e).1
      have HN := hid hneo
      have HS := hid hst1
      have HR := hid hrg1
      clear hst1 hrg1 hneo
      go_wp2_with (at_builtin; refine wpList_append_tile _ rfl _ _ rfl (w.heap.size + 1) (.slice oa (TLof M).n oc) (TLof M) rfl (HS.out.own.ext (by repeat (with_reducible (first | assumption | exact Ext.refl _ | apply Ext.alloc | apply Ext.drew | apply Ext.drewN)))) x ht (w1.heap.size + 1) rfl (by simp [go_sem]) (by simp [go_sem]) (by simp [go_sem]) (by rw [TLof_n]; omega) (by simp; omega) ?_; intro v' w4 hown4 hg4)
      have hrg4 := ((HR.out.alloc (.cells #[.int .i64 x.l, .int .i64 x.x, .int .i64 x.y] 60)).alloc (.cells #[.int .i64 x.l, .int .i64 x.x, .int .i64 x.y] 60)).kept hg4 (fun e => by have := hblk _ e.symm; omega) HN.out
      go_roundw
      case rel => exact ⟨_, _, M ++ [x], hrg4, (HS.out.to (by repeat (with_reducible (first | assumption | exact Ext.refl _ | apply Ext.alloc | apply Ext.drew | apply Ext.drewN)))).push hg4 hown4 hA.2.2.1 hxL hlk⟩
      case measure => rw [hrg4.left_eq, HC.out.left_eq]; exact hlt
end Go.Proofs.Ytcogkglkioejaaa
