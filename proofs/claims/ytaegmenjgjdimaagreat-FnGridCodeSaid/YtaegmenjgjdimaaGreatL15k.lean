/- This text proves what the reference's Lookup hands back. -/
import Derived.Test.YtaegmenjgjdimaaGreatL15j
namespace Go.Proofs.YtaegmenjgjdimaaGreat
open Go.RowKit

/-- the reference's lookup, its texture laid in box A -/
structure LSt (w wr : World) (m : Tex) (A : Nat) (a : Option Addr) (c : Nat) : Prop where
  ext : Ext w wr
  box : TBox wr A (.int .i64 m.log) (.slice a m.px.length c)
  tex : TexR 0 wr.heap.size wr (.agg #[.int .i64 m.log, .slice a m.px.length c]) m
theorem LSt.to {w wr w' : World} {m : Tex} {A : Nat} {a : Option Addr} {c : Nat} (h : LSt w wr m A a c) (e : Ext wr w') : LSt w w' m A a c :=
  ⟨h.ext.trans e, h.box.ext e, (h.tex.ext (Nat.le_refl _) e).wide (Nat.le_refl _) e.size⟩

end Go.Proofs.YtaegmenjgjdimaaGreat
