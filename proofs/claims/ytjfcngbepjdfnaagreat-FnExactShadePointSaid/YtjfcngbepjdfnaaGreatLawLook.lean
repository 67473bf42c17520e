/- This text proves that the law on Lookup returns true, whatever the arguments. -/
import Derived.Test.YtjfcngbepjdfnaaGreatLawKit
import Derived.Test.YtjfcngbepjdfnaaGreatL15k
namespace Go.Proofs.YtjfcngbepjdfnaaGreat
open Go.RowKit

theorem sLookup_val {t : Tex} {x y l r : Int} (h : t.lookR x y l = r) (lo hi : Nat) (v : Value) (w : World) (hv : TexR lo hi w v t) (hh : hi ≤ w.heap.size) :
    Calls Tryz.prog 104 #[v, .int .i64 x, .int .i64 y, .int .i64 l] w fun e w' => e = .returned (.int .i64 r) ∧ Ext w w' := h ▸ sLookup_any lo hi v t x y l w hv hh
end Go.Proofs.YtjfcngbepjdfnaaGreat
