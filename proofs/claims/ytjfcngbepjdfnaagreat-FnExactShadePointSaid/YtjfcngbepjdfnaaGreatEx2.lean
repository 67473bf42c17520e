/- This text proves what the law's helper functions over textures compute. -/
import Derived.Test.YtjfcngbepjdfnaaGreatEx1
namespace Go.Proofs.YtjfcngbepjdfnaaGreat
open Go.RowKit

structure Tex where
  log : Int
  px : List Int

instance : DecidableEq Tex := fun a b => decidable_of_iff (a.log = b.log ∧ a.px = b.px) (by cases a; cases b; simp)

/-- v reads in w as the texture t -/
def TexR (lo hi : Nat) (w : World) (v : Value) (t : Tex) : Prop := ∃ u, v = .agg #[.int .i64 t.log, u] ∧ I64 t.log ∧ Ints lo hi w u t.px
/-- v is the texture t, and owns its row -/
def OwnTex (lo : Nat) (w : World) (v : Value) (t : Tex) : Prop := ∃ u, v = .agg #[.int .i64 t.log, u] ∧ I64 t.log ∧ OwnInts lo w u t.px

theorem OwnTex.tex {lo : Nat} {w : World} {v : Value} {t : Tex} (h : OwnTex lo w v t) : TexR lo w.heap.size w v t := by
  obtain ⟨u, h1, h2, h3⟩ := h
  exact ⟨u, h1, h2, h3.ints⟩
theorem TexR.ext {lo hi : Nat} {w w' : World} {v : Value} {t : Tex} (h : TexR lo hi w v t) (hh : hi ≤ w.heap.size) (e : Ext w w') : TexR lo hi w' v t := by
  obtain ⟨u, h1, h2, h3⟩ := h
  exact ⟨u, h1, h2, h3.ext hh e⟩
theorem TexR.wide {lo hi lo' hi' : Nat} {w : World} {v : Value} {t : Tex} (h : TexR lo hi w v t) (h1 : lo' ≤ lo) (h2 : hi ≤ hi') : TexR lo' hi' w v t := by
  obtain ⟨u, g1, g2, g3⟩ := h
  exact ⟨u, g1, g2, g3.wide h1 h2⟩
theorem OwnTex.ext {lo : Nat} {w w' : World} {v : Value} {t : Tex} (h : OwnTex lo w v t) (e : Ext w w') : OwnTex lo w' v t := by
  obtain ⟨u, h1, h2, h3⟩ := h
  exact ⟨u, h1, h2, h3.ext e⟩

def szRes (left : Int) (n : Nat) : Int := if left - n < 0 then -1 else left - n
theorem szIntS_res (lo hi : Nat) (u : Value) (xs : List Int) (left : Int) (w : World) (hu : Ints lo hi w u xs) (h1 : 0 ≤ left) (h2 : left ≤ 1048576) :
    Calls Tryz.prog 38 #[u, .int .i64 left] w fun e w' => e = .returned (.int .i64 (szRes left xs.length)) ∧ w = w' := szIntS_any lo hi u xs left w hu h1 h2
theorem szRes_ge (left : Int) (n : Nat) : -1 ≤ szRes left n := by unfold szRes; split <;> omega
theorem szRes_le (left : Int) (n : Nat) (h : 0 ≤ left) : szRes left n ≤ left := by unfold szRes; split <;> omega
theorem szRes_neg (left : Int) (n : Nat) (h : szRes left n < 0) : szRes left n = -1 := by unfold szRes at *; split at h <;> simp_all

set_option maxHeartbeats 400000 in
theorem szTexture_any (lo hi : Nat) (v : Value) (t : Tex) (left : Int) (w : World) (hv : TexR lo hi w v t) (hh : hi ≤ w.heap.size) (h1 : 0 ≤ left) (h2 : left ≤ 1048576) :
    Calls Tryz.prog 18 #[v, .int .i64 left] w fun e w' => e = .returned (.int .i64 (szRes left t.px.length)) ∧ Ext w w' := by
  obtain ⟨u, rfl, hlog, hu⟩ := hv
  go_enter Tryz.func18, Tryz.ntmps18
  go_wp2_with (go_at_call 38; refine (szIntS_res lo hi u t.px left _ (hu.ext hh ((Ext.refl _).alloc _)) h1 h2).mono ?_; rintro e w' ⟨rfl, rfl⟩)
  all_goals go_ret
  all_goals first
    | exact ⟨ret_int (szRes_neg _ _ (by assumption)).symm, (Ext.refl _).alloc _⟩
    | exact ⟨rfl, (Ext.refl _).alloc _⟩

set_option maxHeartbeats 400000 in
theorem toTexture_any (lo hi : Nat) (v : Value) (t : Tex) (w : World) (hv : TexR lo hi w v t) (hh : hi ≤ w.heap.size) (hsz : t.px.length ≤ 1048576) :
    Calls Tryz.prog 26 #[v] w fun e w' => ∃ v', e = .returned v' ∧ OwnTex w.heap.size w' v' t ∧ Ext w w' := by
  obtain ⟨u, rfl, hlog, hu⟩ := hv
  go_enter Tryz.func26, Tryz.ntmps26
  go_wp2_with fail
  refine (toIntS_any lo hi u t.px _ (hu.ext hh ((((Ext.refl _).alloc _).alloc _).alloc _)) (by simp; omega) hsz).mono ?_
  rintro e w1 ⟨v1, rfl, hv1, hx⟩
  obtain ⟨a, cap, rfl, _⟩ := hv1.form
  have hz := hx.size
  simp only [World.size_alloc] at hz
  obtain ⟨hc, hf⟩ := hx.cells
  go_wp2
  refine bodyPost_ret (v := .agg #[.int .i64 t.log, .slice a t.px.length cap]) (by simp [results, Tryz.results26, go_sem, hc]) rfl ⟨_, rfl, ⟨_, rfl, hlog, ?_⟩, ?_⟩
  · exact (((hv1.setLow (by simp) _).setLow (by simp) _).setLow (by simp) _).low (by simp; omega)
  · exact ((((((Ext.refl _).alloc _).alloc _).alloc _).trans hx |>.setCell (by simp; omega) _).setCell (by simp) _).setCell (by simp) _

set_option maxHeartbeats 400000 in
theorem eqTexture_any (lo hi lo' hi' : Nat) (v v' : Value) (t t' : Tex) (w : World) (hv : TexR lo hi w v t) (hh : hi ≤ w.heap.size) (hv' : TexR lo' hi' w v' t') (hh' : hi' ≤ w.heap.size) :
    Calls Tryz.prog 33 #[v, v'] w fun e w' => e = .returned (.bool (decide (t = t'))) ∧ Ext w w' := by
  obtain ⟨u, rfl, hlog, hu⟩ := hv
  obtain ⟨u', rfl, hlog', hu'⟩ := hv'
  go_enter Tryz.func33, Tryz.ntmps33
  go_wp2_with (go_at_call 57; refine (eqIntS_any lo hi lo' hi' u u' t.px t'.px _ (hu.ext hh (((Ext.refl _).alloc _).alloc _)) (hu'.ext hh' (((Ext.refl _).alloc _).alloc _))).mono ?_; rintro e w' ⟨rfl, n, rfl⟩)
  all_goals go_ret
  · rename_i h
    exact ⟨ret_bool (decide_eq_false (fun e => by simp [e] at h)).symm, ((Ext.refl _).alloc _).alloc _⟩
  · rename_i h
    exact ⟨ret_bool (decide_eq_false (fun e => by simp [e] at h)).symm, (((Ext.refl _).alloc _).alloc _).drewN _⟩
  · rename_i h1 h2
    exact ⟨ret_bool (decide_eq_true (by cases t; cases t'; simp_all)).symm, (((Ext.refl _).alloc _).alloc _).drewN _⟩

end Go.Proofs.YtjfcngbepjdfnaaGreat
