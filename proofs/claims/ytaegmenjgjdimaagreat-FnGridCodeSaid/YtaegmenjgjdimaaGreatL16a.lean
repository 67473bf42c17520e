/- This text proves what TileOf hands back: the program's and the reference's. -/
import Derived.Test.YtaegmenjgjdimaaGreatL15h
namespace Go.Proofs.YtaegmenjgjdimaaGreat
open Go.RowKit

/-- a tile -/
def tileV (l x y : Int) : Value := .agg #[.int .i64 l, .int .i64 x, .int .i64 y]
/-- the tile of a texel of a mip level -/
def Tex.tile (t : Tex) (x y l : Int) : Value := if t.okB && inB l 0 t.log then tileV l (fmod x (t.mip l.toNat).n / 2) (fmod y (t.mip l.toNat).n / 2) else tileV 0 0 0

theorem floorMod_pos {x r : Int} {n : Nat} (hn : 1 ≤ n) (hn' : n ≤ 16) (h : fmod x n = r) (hx : I64 x) (w : World) : Calls Tryz.prog 150 #[.int .i64 x, .int .i64 n] w fun e w' => e = .returned (.int .i64 r) ∧ w = w' := by
  subst h
  exact floorMod_any x n w hx ⟨by omega, by omega⟩
theorem l15Size_val {l : Int} {m : Nat} (h0 : 0 ≤ l) (h4 : l ≤ 4) (hm : 2 ^ l.toNat = m) (w : World) :
    Calls Tryz.prog 85 #[.int .i64 l] w fun e w' => e = .returned (.int .i64 m) ∧ w = w' := by
  subst hm
  exact l15Size_tex (t := ⟨l, []⟩) h0 h4 w
end Go.Proofs.YtaegmenjgjdimaaGreat
