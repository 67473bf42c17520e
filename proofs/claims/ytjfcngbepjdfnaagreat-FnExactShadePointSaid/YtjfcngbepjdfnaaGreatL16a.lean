/- This text proves what TileOf hands back: the program's and the reference's. -/
import Derived.Test.YtjfcngbepjdfnaaGreatL15h
namespace Go.Proofs.YtjfcngbepjdfnaaGreat
open Go.RowKit

/-- a tile -/
def tileV (l x y : Int) : Value := .agg #[.int .i64 l, .int .i64 x, .int .i64 y]
/-- the tile of a texel of a mip level -/
def Tex.tile (t : Tex) (x y l : Int) : Value := if t.okB && inB l 0 t.log then tileV l (fmod x (t.mip l.toNat).n / 2) (fmod y (t.mip l.toNat).n / 2) else tileV 0 0 0

theorem floorMod_pos {x r : Int} {n : Nat} (hn : 1 ≤ n) (hn' : n ≤ 16) (h : fmod x n = r) (hx : I64 x) (w : World) : Calls Tryz.prog 125 #[.int .i64 x, .int .i64 n] w fun e w' => e = .returned (.int .i64 r) ∧ w = w' := by
  subst h
  exact floorMod_any x n w hx ⟨by omega, by omega⟩
theorem l15Size_val {l : Int} {m : Nat} (h0 : 0 ≤ l) (h4 : l ≤ 4) (hm : 2 ^ l.toNat = m) (w : World) :
    Calls Tryz.prog 76 #[.int .i64 l] w fun e w' => e = .returned (.int .i64 m) ∧ w = w' := by
  subst hm
  exact l15Size_tex (t := ⟨l, []⟩) h0 h4 w
theorem sMipLevel_val {t t2 : Tex} {l : Int} {b : Bool} (h : t.mipR l = (t2, b)) (lo hi : Nat) (v : Value) (w : World) (hv : TexR lo hi w v t) (hh : hi ≤ w.heap.size) :
    Calls Tryz.prog 117 #[v, .int .i64 l] w fun e w' => ∃ v', e = .returned (.tuple #[v', .bool b]) ∧ OwnTex w.heap.size w' v' t2 ∧ Ext w w' := by
  have := sMipLevel_any lo hi v t l w hv hh
  rw [h] at this
  exact this

end Go.Proofs.YtjfcngbepjdfnaaGreat
