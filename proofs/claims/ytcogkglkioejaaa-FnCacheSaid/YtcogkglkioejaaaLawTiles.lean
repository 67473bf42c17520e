/- This text walks the law FnExactTilesFor. -/
import Derived.Test.YtcogkglkioejaaaLawKit
import Derived.Test.YtcogkglkioejaaaL16c
import Derived.Test.YtcogkglkioejaaaTileS3
namespace Go.Proofs.Ytcogkglkioejaaa
open Go.RowKit

theorem tilesR_n (t : Tex) (u v l : Int) : (t.tilesR u v l).n ≤ 4 := by
  unfold Tex.tilesR
  split
  · exact tilesTo_n _ _ _ _ 4
  · exact Nat.zero_le _
theorem markTileS_in {r : Int} (lo M : Nat) (u : Value) (s : TL) (w : World) (hr : 1 + ((s.n * 3 : Nat) : Int) = r) (hv : s.Own lo w u) (hM : ∀ k, u.ownBlock = some k → k < M) (hlo : lo ≤ w.heap.size) (hn : s.n ≤ 4) :
    Calls Try.prog 47 #[u, .int .i64 1] w fun e w' => e = .returned (.int .i64 r) ∧ (s.mark 1 (s.n * 3)).Own lo w' u ∧ Part lo M w w' := by
  refine (markTileS_any lo u s 1 w hv ⟨by decide, by omega⟩).mono ?_
  rintro e w' ⟨rfl, h1, hg⟩
  have hlt := hv.lt
  refine ⟨by rw [hr], h1, hg.size, ⟨hg.os, hg.tape, hg.output, hg.size, fun k hk => ?_⟩, fun b hb hlt' => hg.block b hlt' (fun hk => by have := hM _ hk.symm; omega)⟩
  exact hg.block k (by omega) (fun e => by have := (hlt k e.symm).1; omega)
theorem heldTileS_val {r : Int} (lo hi : Nat) (u : Value) (s : TL) (w : World) (hr : 1 + ((s.n * 3 : Nat) : Int) = r) (hu : (s.mark 1 (s.n * 3)).R lo hi w u) (hn : s.n ≤ 4) :
    Calls Try.prog 48 #[u, .int .i64 1] w fun e w' => e = .returned (.int .i64 r) ∧ Ext w w' := hr ▸ heldTileS_mark lo hi u s 1 w hu ⟨by decide, by omega⟩
theorem TL.R.same {s : TL} {lo hi : Nat} {w w' : World} {v : Value} (h : s.R lo hi w v) (k : Same lo hi w w') : s.R lo hi w' v := Flats.same h k
theorem TL.R.ext {s : TL} {lo hi : Nat} {w w' : World} {v : Value} (h : s.R lo hi w v) (hh : hi ≤ w.heap.size) (e : Ext w w') : s.R lo hi w' v := Flats.ext h hh e

end Go.Proofs.Ytcogkglkioejaaa
