/- This text proves what the laws' helper functions over whole grids compute. -/
import Derived.Test.YtaegmenjgjdimaaGreatLk1
namespace Go.Proofs.YtaegmenjgjdimaaGreat
open Go.RowKit

theorem Bx.frozen {w : World} {B : Nat} {cs : Array Value} {t : TypeId} (h : Bx w B cs t) (i : Nat) : w.frozen? ⟨B, i, none⟩ = false := by
  unfold Bx at h
  simp [World.frozen?, h]
theorem Bx.ext {w w' : World} {B : Nat} {cs : Array Value} {t : TypeId} (h : Bx w B cs t) (e : Ext w w') : Bx w' B cs t := h.kp (e.kp h.lt)
theorem Bx.set {w : World} {B : Nat} {cs : Array Value} {t : TypeId} (h : Bx w B cs t) (i : Nat) (v : Value) : Bx (w.setCell ⟨B, i, none⟩ v) B (cs.setIfInBounds i v) t := by
  unfold Bx at *
  simp [World.setCell, Array.getElem?_modify, h]
theorem Bx.other {w : World} {B : Nat} {cs : Array Value} {t : TypeId} (h : Bx w B cs t) {p : Addr} (hp : B ≠ p.block) (v : Value) : Bx (w.setCell p v) B cs t := (Below.heap_setCell _ _ _ _ hp).trans h
theorem Bx.same {w : World} {B : Nat} {cs cs' : Array Value} {t : TypeId} (h : Bx w B cs t) (e : cs = cs') : Bx w B cs' t := e ▸ h
/-- what is left behind a grid; below 0: too large -/
def Grd.sz (g : Grd) (left : Int) : Int := if szRes left g.m < 0 then -1 else szRes (szRes left g.m) g.t.px.length
def Grd.small (g : Grd) : Prop := g.m ≤ 1048576 ∧ g.t.px.length ≤ 1048576
theorem Grd.sz_small {g : Grd} {left : Int} (h1 : 0 ≤ left) (h2 : left ≤ 1048576) (h : ¬g.sz left < 0) : g.small ∧ g.sz left ≤ left ∧ 0 ≤ g.sz left := by
  unfold Grd.sz szRes at *
  by_cases h3 : left - (g.m : Int) < 0
  · simp only [if_pos h3] at h
    simp only [if_pos (show (-1 : Int) < 0 by decide)] at h
    exact absurd (by decide) h
  · simp only [if_neg h3] at h ⊢
    by_cases h5 : left - (g.m : Int) - (g.t.px.length : Int) < 0
    · simp only [if_pos h5] at h
      exact absurd (by decide) h
    · simp only [if_neg h5] at h ⊢
      exact ⟨⟨by omega, by omega⟩, by omega, by omega⟩
theorem Grd.sz_bd {g : Grd} {left : Int} (h1 : 0 ≤ left) (h : g.sz left < 0) : g.sz left = -1 := by
  unfold Grd.sz at *
  split
  · rfl
  · rename_i h3
    rw [if_neg h3] at h
    exact szRes_neg _ _ h
end Go.Proofs.YtaegmenjgjdimaaGreat
