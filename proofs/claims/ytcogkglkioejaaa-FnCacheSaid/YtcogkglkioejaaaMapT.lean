/- This text holds maps whose keys are tiles and whose values are integers: what such a map reads as, told by the list of its keys and a function of their values. -/
import Derived.Test.YtcogkglkioejaaaTileS
import Derived.Maps.RangeWalk
import Derived.Maps.Views
import Derived.DeepKeys4
namespace Go.Proofs.Ytcogkglkioejaaa
open Go.RowKit Go.Maps

instance : DecidableEq T3 := fun a b => by
  cases a; cases b
  simp only [T3.mk.injEq]
  exact inferInstance

/-- a tile's value -/
def T3.val (t : T3) : Value := .agg #[.int .i64 t.l, .int .i64 t.x, .int .i64 t.y]
/-- what it reads as, as a key -/
def T3.key (t : T3) : Lit := .string (keyBytes [.int .i64 t.l, .int .i64 t.x, .int .i64 t.y])
theorem T3.val_inj {a b : T3} (h : a.val = b.val) : a = b := by
  cases a; cases b
  simpa [T3.val] using h

theorem tileRow : (60 : TypeId) < Try.prog.types.size := of_decide_eq_true (by kernel_rfl)
theorem tileLaw : Keyed Try.prog 60 := Keyed.of_law (deep_law_laid (m := 2) (show laidOutB Try.prog = true by kernel_rfl) (by omega) tileRow (by kernel_rfl) (by rw [Try.underlying60]))

theorem litI {n : Int} (h : I64 n) : (Lit.int .i64 n).wf = true := by
  unfold I64 at h
  simp [Lit.wf, IntKind.min, IntKind.max, IntKind.bits, IntKind.signed]
  omega
theorem litI_inv {n : Int} (h : (Lit.int .i64 n).wf = true) : I64 n := by
  simp [Lit.wf, IntKind.min, IntKind.max, IntKind.bits, IntKind.signed] at h
  unfold I64
  omega
theorem keyLits_int (d : Nat) {n : Int} (h : I64 n) : Try.prog.keyLits (d + 1) 3 [.int .i64 n] = some [.int .i64 n] := by
  simp [Program.keyLits, Try.underlying3, litI h]
theorem tileSize : ∃ d, Try.prog.types.size = d + 1 := ⟨Try.prog.types.size - 1, by have h := tileRow; generalize Try.prog.types.size = n at h ⊢; exact (Nat.succ_pred_eq_of_pos (Nat.lt_of_le_of_lt (Nat.zero_le _) h)).symm⟩
theorem keyLits_int_inv (d : Nat) {v : Value} {l : List Lit} (h : Try.prog.keyLits (d + 1) 3 [v] = some l) : ∃ n, v = .int .i64 n ∧ I64 n := by
  cases v <;> simp [Program.keyLits, Try.underlying3] at h
  obtain ⟨⟨rfl, hw⟩, _⟩ := h
  exact ⟨_, rfl, litI_inv hw⟩
theorem keyOf_tile {t : T3} (h : t.I) : keyOf Try.prog 60 t.val = some t.key := by
  have hk : Try.prog.keyType 60 = true := by kernel_rfl
  have hc : Try.prog.cellsOf 60 = 3 := by kernel_rfl
  have hc3 : Try.prog.cellsOf 3 = 1 := by kernel_rfl
  have hf : Value.formed Try.prog 60 t.val = true := by simp [Value.formed, T3.val, Try.underlying60, hc]
  have hl : Try.prog.keyLits (Try.prog.types.size + 1) 60 t.val.cells.toList = some [.int .i64 t.l, .int .i64 t.x, .int .i64 t.y] := by
    obtain ⟨d, hd⟩ : ∃ d, Try.prog.types.size = d + 1 := tileSize
    rw [hd]
    unfold Program.keyLits
    simp [Try.underlying60, T3.val, Value.cells, hc, hc3, keyLits_int d h.1, keyLits_int d h.2.1, keyLits_int d h.2.2]
  unfold keyOf
  simp only [Try.underlying60, hk, hf, hl, Bool.and_self, if_true, Option.map_some, T3.key]
theorem three_of {α : Type} {l : List α} (h : l.length = 3) : ∃ x y z, l = [x, y, z] := by
  rcases l with _ | ⟨x, _ | ⟨y, _ | ⟨z, _ | ⟨u, r⟩⟩⟩⟩ <;> simp at h
  exact ⟨x, y, z, rfl⟩
theorem keyOf_tile_inv {v : Value} {kl : Lit} (h : keyOf Try.prog 60 v = some kl) : ∃ t : T3, t.I ∧ v = t.val ∧ kl = t.key := by
  have hf : ∃ a b c, v = .agg #[.int .i64 a, .int .i64 b, .int .i64 c] ∧ I64 a ∧ I64 b ∧ I64 c := by
    obtain ⟨xs, L, rfl, hl, _⟩ := keyOf_top (by rw [Try.underlying60]) h
    have hc : Try.prog.cellsOf 60 = 3 := by kernel_rfl
    have hc3 : Try.prog.cellsOf 3 = 1 := by kernel_rfl
    obtain ⟨d, hd⟩ : ∃ d, Try.prog.types.size = d + 1 := tileSize
    rw [hd] at hl
    unfold Program.keyLits at hl
    obtain ⟨xs⟩ := xs
    simp [Try.underlying60, hc, hc3] at hl
    obtain ⟨hlen, hl⟩ := hl
    clear hd h
    obtain ⟨x, y, z, rfl⟩ := three_of hlen
    simp at hl
    cases h1 : Try.prog.keyLits (d + 1) 3 [x] with
    | none => simp [h1] at hl
    | some l1 =>
    cases h2 : Try.prog.keyLits (d + 1) 3 [y] with
    | none => simp [h1, h2] at hl
    | some l2 =>
    cases h3 : Try.prog.keyLits (d + 1) 3 [z] with
    | none => simp [h1, h2, h3] at hl
    | some l3 =>
    obtain ⟨a, rfl, ha⟩ := keyLits_int_inv d h1
    obtain ⟨b, rfl, hb⟩ := keyLits_int_inv d h2
    obtain ⟨c, rfl, hc⟩ := keyLits_int_inv d h3
    exact ⟨a, b, c, rfl, ha, hb, hc⟩
  obtain ⟨a, b, c, rfl, ha, hb, hc⟩ := hf
  have := keyOf_tile (t := ⟨a, b, c⟩) ⟨ha, hb, hc⟩
  exact ⟨⟨a, b, c⟩, ⟨ha, hb, hc⟩, rfl, (Option.some.inj (h.symm.trans this))⟩
theorem T3.key_inj {a b : T3} (ha : a.I) (hb : b.I) (h : a.key = b.key) : a = b :=
  T3.val_inj (tileLaw.inj (keyOf_tile ha) (h ▸ keyOf_tile hb))

/-- block b is a map of at most n entries; its keys are the tiles of L, each with its age -/
def AgesD (D : DataW Unit) (L : List T3) (age : T3 → Int) : Prop :=
  Tidy D ∧ L.Nodup ∧ (∀ t ∈ L, t.I) ∧ size D = L.length ∧ ∀ t : T3, t.I → has D t.key = decide (t ∈ L) ∧ (t ∈ L → ∀ z, D.atKey t.key z = .lit (.int .i64 (age t))) 
def Ages (w : World) (b n : Nat) (L : List T3) (age : T3 → Int) : Prop :=
  ∃ D : DataW Unit, w.ownsMap Try.prog 60 (plainElem Try.prog 3) b n D ∧ AgesD D L age
def bump (age : T3 → Int) (t : T3) (v : Int) (x : T3) : Int := if x = t then v else age x

theorem isKey_tile {t : T3} (h : t.I) : WideAt.IsKeyLit t.key := tileLaw.key (keyOf_tile h)
theorem AgesD.nil : AgesD (.map []) [] (fun _ => 0) :=
  ⟨tidy_empty, List.nodup_nil, fun _ h => by simp at h, rfl, fun t _ => ⟨rfl, fun h => by simp at h⟩⟩
theorem AgesD.put {D : DataW Unit} {L : List T3} {age : T3 → Int} {t : T3} {v : Int} (h : AgesD D L age) (ht : t.I) : AgesD (D.put t.key (.lit (.int .i64 v))) (L.erase t ++ [t]) (bump age t v) := by
  obtain ⟨h1, h2, h3, h4, h5⟩ := h
  refine ⟨h1.put (isKey_tile ht) _, ?_, ?_, ?_, ?_⟩
  · rw [List.nodup_append]
    refine ⟨h2.erase _, by simp, fun a ha b hb => ?_⟩
    simp at hb
    subst hb
    rintro rfl
    exact (List.Nodup.not_mem_erase h2) ha
  · intro x hx
    rcases List.mem_append.1 hx with hx | hx
    · exact h3 x (List.mem_of_mem_erase hx)
    · simp at hx
      exact hx ▸ ht
  · rw [size_put h1, (h5 t ht).1]
    by_cases hm : t ∈ L
    · have := List.length_erase_of_mem hm
      have := List.length_pos_of_mem hm
      simp [hm]
      omega
    · simp [hm, List.erase_of_not_mem hm, h4]
  · intro x hx
    by_cases e : x = t
    · subst e
      refine ⟨by rw [has_put_same h1.isMap (isKey_tile hx)]; simp, fun _ z => ?_⟩
      rw [atKey_put_same h1.isMap (isKey_tile hx)]
      simp [bump]
    · have hne : x.key ≠ t.key := fun ek => e (T3.key_inj hx ht ek)
      have hm : x ∈ L.erase t ++ [t] ↔ x ∈ L := by simp [List.mem_erase_of_ne e, e]
      refine ⟨by rw [has_put_other hne, (h5 x hx).1]; simp only [hm], fun hl z => ?_⟩
      rw [atKey_put_other hne, (h5 x hx).2 (hm.1 hl)]
      simp [bump, e]
theorem AgesD.del {D : DataW Unit} {L : List T3} {age : T3 → Int} {t : T3} (h : AgesD D L age) (ht : t.I) (hm : t ∈ L) : AgesD (D.del t.key) (L.erase t) age := by
  obtain ⟨h1, h2, h3, h4, h5⟩ := h
  refine ⟨h1.del _, h2.erase _, fun x hx => h3 x (List.mem_of_mem_erase hx), ?_, ?_⟩
  · have h6 := size_del (k := t.key) h1
    rw [(h5 t ht).1] at h6
    have := List.length_erase_of_mem hm
    simp [hm] at h6
    omega
  · intro x hx
    by_cases e : x = t
    · subst e
      refine ⟨by rw [has_del_same]; simp [List.Nodup.not_mem_erase h2], fun hl => absurd hl (List.Nodup.not_mem_erase h2)⟩
    · have hne : x.key ≠ t.key := fun ek => e (T3.key_inj hx ht ek)
      refine ⟨by rw [has_del_other hne, (h5 x hx).1]; simp only [List.mem_erase_of_ne e], fun hl z => ?_⟩
      rw [atKey_del_other hne, (h5 x hx).2 ((List.mem_erase_of_ne e).1 hl)]
end Go.Proofs.Ytcogkglkioejaaa
