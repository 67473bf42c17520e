/- This text holds the reading of images, and when an image is valid: the program's word and the reference's. -/
import Derived.Test.YtkcghoeklbcihaaGreatDoorFilm
namespace Go.Proofs.YtkcghoeklbcihaaGreatDoor
open Go.RowKit

/-- an image: sides and pixels -/
structure Pic where
  (w h : Int) (px : List Int)
def Pic.R (I : Pic) (lo hi : Nat) (w : World) (v : Value) : Prop := ∃ u, v = .agg #[.int .i64 I.w, .int .i64 I.h, u] ∧ I64 I.w ∧ I64 I.h ∧ Ints lo hi w u I.px
theorem Pic.R.same {I : Pic} {lo hi : Nat} {w w' : World} {v : Value} (h : I.R lo hi w v) (s : Same lo hi w w') : I.R lo hi w' v := by
  obtain ⟨u, rfl, h1, h2, h3⟩ := h
  exact ⟨u, rfl, h1, h2, h3.same s⟩
theorem Pic.R.ext {I : Pic} {lo hi : Nat} {w w' : World} {v : Value} (h : I.R lo hi w v) (hh : hi ≤ w.heap.size) (e : Ext w w') : I.R lo hi w' v := h.same (e.same hh)
def Pic.okB (I : Pic) : Bool := I.px.all (fun n => inB n 0 256) && (inB I.w 1 12 && inB I.h 1 12 && decide ((I.px.length : Int) = I.w * I.h))

end Go.Proofs.YtkcghoeklbcihaaGreatDoor
