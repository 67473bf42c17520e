/- This text holds the reading of slices whose elements are structs of integers, and the small laws for copying them; it speaks of no function of the program. -/
import Derived.Test.YtaegmenjgjdimaaGreatBase
import Derived.Test.YtaegmenjgjdimaaGreatRows
import Derived.Deep.OwnRows
namespace Go.Proofs.YtaegmenjgjdimaaGreat
open Go.RowKit

/-- v reads in w as n structs of k integers each; integer i of all of them is f i; the cells lie in the blocks from lo up to hi -/
def Flats (k lo hi : Nat) (w : World) (v : Value) (n : Nat) (f : Nat → Int) : Prop :=
  ∃ a cap, v = .slice a n cap ∧ n ≤ cap ∧ cap ≤ maxLen ∧ ∀ i, i < n * k → I64 (f i) ∧ ∃ b off, a = some ⟨b, off, none⟩ ∧ lo ≤ b ∧ b < hi ∧ w.cell? ⟨b, off + i, none⟩ = some (.int .i64 (f i))

theorem Flats.same {k lo hi : Nat} {w w' : World} {v : Value} {n : Nat} {f : Nat → Int} (h : Flats k lo hi w v n f) (s : Same lo hi w w') : Flats k lo hi w' v n f := by
  obtain ⟨a, cap, h1, h2, h3, h4⟩ := h
  refine ⟨a, cap, h1, h2, h3, fun i hx => ?_⟩
  obtain ⟨h5, b, off, h6, h7, h8, h9⟩ := h4 i hx
  exact ⟨h5, b, off, h6, h7, h8, by rw [s.cell h7 h8]; exact h9⟩
theorem Flats.ext {k lo hi : Nat} {w w' : World} {v : Value} {n : Nat} {f : Nat → Int} (h : Flats k lo hi w v n f) (hh : hi ≤ w.heap.size) (e : Ext w w') : Flats k lo hi w' v n f := h.same (e.same hh)
theorem Flats.wide {k lo hi lo' hi' : Nat} {w : World} {v : Value} {n : Nat} {f : Nat → Int} (h : Flats k lo hi w v n f) (h1 : lo' ≤ lo) (h2 : hi ≤ hi') : Flats k lo' hi' w v n f := by
  obtain ⟨a, cap, g1, g2, g3, g4⟩ := h
  refine ⟨a, cap, g1, g2, g3, fun i hx => ?_⟩
  obtain ⟨h5, b, off, h6, h7, h8, h9⟩ := g4 i hx
  exact ⟨h5, b, off, h6, by omega, by omega, h9⟩
/-- what Flats says of a slice whose value is written out -/
structure FlatsAt (k lo hi : Nat) (w : World) (a : Option Addr) (cap n : Nat) (f : Nat → Int) : Prop where
  le : n ≤ cap
  cap : cap ≤ 9223372036854775807
  cell : ∀ i, i < n * k → I64 (f i) ∧ ∃ b off, a = some ⟨b, off, none⟩ ∧ lo ≤ b ∧ b < hi ∧ w.cell? ⟨b, off + i, none⟩ = some (.int .i64 (f i))
theorem Flats.open {k lo hi : Nat} {w : World} {v : Value} {n : Nat} {f : Nat → Int} (h : Flats k lo hi w v n f) : ∃ a cap, v = .slice a n cap ∧ FlatsAt k lo hi w a cap n f := by
  obtain ⟨a, cap, g1, g2, g3, g4⟩ := h
  exact ⟨a, cap, g1, g2, by unfold maxLen at g3; omega, g4⟩
theorem FlatsAt.shut {k lo hi : Nat} {w : World} {a : Option Addr} {cap n : Nat} {f : Nat → Int} (h : FlatsAt k lo hi w a cap n f) : Flats k lo hi w (.slice a n cap) n f :=
  ⟨a, cap, rfl, h.le, by unfold maxLen; have := h.cap; omega, h.cell⟩
theorem flat_lt {i j k n : Nat} (hi : i < n) (hj : j < k) : i * k + j < n * k := by
  have := Nat.mul_le_mul_right k (Nat.succ_le_of_lt hi)
  rw [Nat.succ_mul] at this
  omega
/-- the cells of element i -/
theorem FlatsAt.at {k lo hi : Nat} {w : World} {a : Option Addr} {cap n : Nat} {f : Nat → Int} (h : FlatsAt k lo hi w a cap n f) {i : Nat} (hi' : i < n) (hk : 0 < k) :
    ∃ b off, a = some ⟨b, off, none⟩ ∧ lo ≤ b ∧ b < hi ∧ ∀ j, j < k → w.cell? ⟨b, off + i * k + j, none⟩ = some (.int .i64 (f (i * k + j))) := by
  obtain ⟨_, b, off, h6, h7, h8, h9⟩ := h.cell _ (flat_lt hi' hk)
  refine ⟨b, off, h6, h7, h8, fun j hj => ?_⟩
  obtain ⟨_, b', off', h6', h7', h8', h9'⟩ := h.cell _ (flat_lt hi' hj)
  rw [h6'] at h6
  simp only [Option.some.injEq, Addr.mk.injEq] at h6
  obtain ⟨rfl, rfl, _⟩ := h6
  rw [Nat.add_assoc]
  exact h9'
theorem FlatsAt.i64 {k lo hi : Nat} {w : World} {a : Option Addr} {cap n : Nat} {f : Nat → Int} (h : FlatsAt k lo hi w a cap n f) {i j : Nat} (hi' : i < n) (hj : j < k) : I64 (f (i * k + j)) := (h.cell _ (flat_lt hi' hj)).1

/-- the first c of the numbers f, then zeros -/
def fillI (f : Nat → Int) (c i : Nat) : Int := if i < c then f i else 0
/-- block b is a row of n integers, integer i being f i -/
def RowI (w : World) (b : Nat) (t : TypeId) (n : Nat) (f : Nat → Int) : Prop := w.rowIs b t n (fun i => .int .i64 (f i))
theorem RowI.cell {w : World} {b : Nat} {t : TypeId} {n : Nat} {f : Nat → Int} (h : RowI w b t n f) {i : Nat} (hi : i < n) : w.cell? ⟨b, i, none⟩ = some (.int .i64 (f i)) := World.rowIs.cell h hi
theorem RowI.frozen {w : World} {b : Nat} {t : TypeId} {n : Nat} {f : Nat → Int} (h : RowI w b t n f) (i : Nat) : w.frozen? ⟨b, i, none⟩ = false := World.rowIs.frozen h i
theorem RowI.lt {w : World} {b : Nat} {t : TypeId} {n : Nat} {f : Nat → Int} (h : RowI w b t n f) : b < w.heap.size := World.rowIs.lt h
theorem RowI.ext {w w' : World} {b : Nat} {t : TypeId} {n : Nat} {f : Nat → Int} (h : RowI w b t n f) (e : Ext w w') : RowI w' b t n f := World.rowIs.of_block h (e.block h.lt)
theorem RowI.alloc {w : World} {b : Nat} {t : TypeId} {n : Nat} {f : Nat → Int} (h : RowI w b t n f) (o : Obj) : RowI (w.alloc o) b t n f := World.rowIs.alloc h o
theorem RowI.of {w w' : World} {b : Nat} {t : TypeId} {n : Nat} {f : Nat → Int} (h : RowI w b t n f) (e : w'.heap[b]? = w.heap[b]?) : RowI w' b t n f := World.rowIs.of_block h e
theorem RowI.other {w : World} {b : Nat} {t : TypeId} {n : Nat} {f : Nat → Int} (h : RowI w b t n f) {a : Addr} (ha : b ≠ a.block) (v : Value) : RowI (w.setCell a v) b t n f := World.rowIs.setOther h ha v
theorem RowI.step {w : World} {b : Nat} {t : TypeId} {n : Nat} {f : Nat → Int} {c : Nat} (h : RowI w b t n (fillI f c)) {i : Nat} {x : Int} (hi : i = c) (hx : x = f c) : RowI (w.setCell ⟨b, i, none⟩ (.int .i64 x)) b t n (fillI f (c + 1)) := by
  subst hi hx
  refine World.rowIs.congr (World.rowIs.set h i (.int .i64 (f i))) fun j _ => ?_
  unfold fillI
  by_cases e : j = i
  · subst e; simp
  · rw [if_neg e]
    by_cases h1 : j < i
    · rw [if_pos h1, if_pos (by omega)]
    · rw [if_neg h1, if_neg (by omega)]
theorem RowI.full {w : World} {b : Nat} {t : TypeId} {n : Nat} {f : Nat → Int} (h : RowI w b t n (fillI f n)) : RowI w b t n f :=
  World.rowIs.congr h fun i hi => by unfold fillI; rw [if_pos hi]
theorem RowI.zero {w : World} {b : Nat} {t : TypeId} {n : Nat} {f : Nat → Int} (h : RowI w b t n (fun _ => 0)) : RowI w b t n (fillI f 0) :=
  World.rowIs.congr h fun i hi => by unfold fillI; rw [if_neg (by omega)]
/-- the first c of the numbers q, the others of f -/
def mixI (f q : Nat → Int) (c i : Nat) : Int := if i < c then q i else f i
theorem RowI.mix {w : World} {b : Nat} {t : TypeId} {n : Nat} {f q : Nat → Int} {c : Nat} (h : RowI w b t n (mixI f q c)) {i : Nat} {x : Int} (hi : i = c) (hx : x = q c) : RowI (w.setCell ⟨b, i, none⟩ (.int .i64 x)) b t n (mixI f q (c + 1)) := by
  subst hi hx
  refine World.rowIs.congr (World.rowIs.set h i (.int .i64 (q i))) fun j _ => ?_
  unfold mixI
  by_cases e : j = i
  · subst e; simp
  · rw [if_neg e]
    by_cases h1 : j < i
    · rw [if_pos h1, if_pos (by omega)]
    · rw [if_neg h1, if_neg (by omega)]
theorem RowI.mix0 {w : World} {b : Nat} {t : TypeId} {n : Nat} {f q : Nat → Int} (h : RowI w b t n f) : RowI w b t n (mixI f q 0) :=
  World.rowIs.congr h fun i hi => by unfold mixI; rw [if_neg (by omega)]
theorem RowI.mixAll {w : World} {b : Nat} {t : TypeId} {n : Nat} {f q : Nat → Int} (h : RowI w b t n (mixI f q n)) : RowI w b t n q :=
  World.rowIs.congr h fun i hi => by unfold mixI; rw [if_pos hi]
/-- a row as a slice of structs -/
theorem RowI.flats {w : World} {b : Nat} {t : TypeId} {k n cap : Nat} {f : Nat → Int} (h : RowI w b t (n * k) f) (hl : n ≤ cap) (hm : cap ≤ maxLen) {lo : Nat} (hb : lo ≤ b) (hi : ∀ i, i < n * k → I64 (f i)) : Flats k lo w.heap.size w (.slice (some ⟨b, 0, none⟩) n cap) n f :=
  ⟨_, cap, rfl, hl, hm, fun i hx => ⟨hi i hx, b, 0, rfl, hb, h.lt, by rw [Nat.zero_add]; exact h.cell hx⟩⟩
/-- what make laid -/
theorem ownsRow_rowI {w : World} {lo : Nat} {e : TypeId} {size n g : Nat} {z : Array Value} (hz : ∀ i, i < n * size → (madeCells z (n * size))[i]? = some (.int .i64 0))
    (h : w.ownsRow lo e size (.slice (some ⟨g, 0, none⟩) n n) n (madeCells z (n * size)).toList) : RowI w g e (n * size) (fun _ => 0) := by
  rcases h.2 with ⟨h1, h4⟩ | ⟨g', cap, cur, h1, hb, hg, hc, hm, hs, ht⟩
  · simp at h1
  · simp only [Value.slice.injEq, true_and, Option.some.injEq, Addr.mk.injEq, and_true] at h1
    obtain ⟨rfl, rfl⟩ := h1
    refine ⟨cur, hg, hs, fun i hi => ?_⟩
    have h2 := hz i hi
    have h3 : cur.toList = (madeCells z (n * size)).toList := by
      rw [← ht, List.take_of_length_le]
      simp [hs]
    rw [← Array.getElem?_toList, h3, Array.getElem?_toList]
    exact h2
theorem made_zero {z : Array Value} {k : Nat} (h0 : z = Array.replicate k (.int .i64 0)) (hk : 0 < k) (n : Nat) : ∀ i, i < n → (madeCells z n)[i]? = some (.int .i64 0) := by
  intro i hi
  subst h0
  have h : i % k < k := Nat.mod_lt _ hk
  simp [madeCells, hi, h]
end Go.Proofs.YtaegmenjgjdimaaGreat
