/- This text proves what the law's helper functions over textures compute. -/
import Derived.Test.YtaegmenjgjdimaaGreatEx1
namespace Go.Proofs.YtaegmenjgjdimaaGreat
open Go.RowKit

structure Tex where
  log : Int
  px : List Int

instance : DecidableEq Tex := fun a b => decidable_of_iff (a.log = b.log ∧ a.px = b.px) (by cases a; cases b; simp)

/-- v reads in w as the texture t -/
def TexR (lo hi : Nat) (w : World) (v : Value) (t : Tex) : Prop := ∃ u, v = .agg #[.int .i64 t.log, u] ∧ I64 t.log ∧ Ints lo hi w u t.px
/-- v is the texture t, and owns its row -/
def OwnTex (lo : Nat) (w : World) (v : Value) (t : Tex) : Prop := ∃ u, v = .agg #[.int .i64 t.log, u] ∧ I64 t.log ∧ OwnInts lo w u t.px

theorem OwnTex.tex {lo : Nat} {w : World} {v : Value} {t : Tex} (h : OwnTex lo w v t) : TexR lo w.heap.size w v t := by
  obtain ⟨u, h1, h2, h3⟩ := h
  exact ⟨u, h1, h2, h3.ints⟩
theorem TexR.ext {lo hi : Nat} {w w' : World} {v : Value} {t : Tex} (h : TexR lo hi w v t) (hh : hi ≤ w.heap.size) (e : Ext w w') : TexR lo hi w' v t := by
  obtain ⟨u, h1, h2, h3⟩ := h
  exact ⟨u, h1, h2, h3.ext hh e⟩
theorem TexR.wide {lo hi lo' hi' : Nat} {w : World} {v : Value} {t : Tex} (h : TexR lo hi w v t) (h1 : lo' ≤ lo) (h2 : hi ≤ hi') : TexR lo' hi' w v t := by
  obtain ⟨u, g1, g2, g3⟩ := h
  exact ⟨u, g1, g2, g3.wide h1 h2⟩
theorem OwnTex.ext {lo : Nat} {w w' : World} {v : Value} {t : Tex} (h : OwnTex lo w v t) (e : Ext w w') : OwnTex lo w' v t := by
  obtain ⟨u, h1, h2, h3⟩ := h
  exact ⟨u, h1, h2, h3.ext e⟩

def szRes (left : Int) (n : Nat) : Int := if left - n < 0 then -1 else left - n
theorem szRes_ge (left : Int) (n : Nat) : -1 ≤ szRes left n := by unfold szRes; split <;> omega
theorem szRes_le (left : Int) (n : Nat) (h : 0 ≤ left) : szRes left n ≤ left := by unfold szRes; split <;> omega
theorem szRes_neg (left : Int) (n : Nat) (h : szRes left n < 0) : szRes left n = -1 := by unfold szRes at *; split at h <;> simp_all

end Go.Proofs.YtaegmenjgjdimaaGreat
