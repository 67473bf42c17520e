/- This text proves what the laws' comparisons and marks of images do. -/
import Derived.Test.YtodblnccgpiigaaDoorPgm5
import Derived.Test.YtodblnccgpiigaaDoorPart
import Derived.Test.YtodblnccgpiigaaDoorBlk
namespace Go.Proofs.YtodblnccgpiigaaDoor
open Go.RowKit

theorem Pic.Own.kept {I : Pic} {lo : Nat} {w w' : World} {v : Value} (h : I.Own lo w v) (s : Same lo w.heap.size w w') : I.Own lo w' v := by
  obtain ⟨u, rfl, h1, h2, h3⟩ := h
  exact ⟨u, rfl, h1, h2, h3.kept s⟩
theorem Pic.Own.under {I : Pic} {lo : Nat} {w : World} {v : Value} (h : I.Own lo w v) : ∀ a b u k, v = .agg #[a, b, u] → u.ownBlock = some k → k < w.heap.size := by
  obtain ⟨x, rfl, _, _, h3⟩ := h
  intro a b u k e hk
  simp only [Value.agg.injEq] at e
  obtain ⟨_, _, rfl⟩ : Value.int .i64 I.w = a ∧ Value.int .i64 I.h = b ∧ x = u := by simpa using e
  exact (h3.lt k hk).2
def Pic.marked (I : Pic) : Pic := { I with px := upFrom 1 I.px.length }

set_option maxHeartbeats 800000 in
theorem markImage_in {I : Pic} {r : Int} (hr : 1 + (I.px.length : Int) = r) (lo M : Nat) (v : Value) (w : World) (hv : I.Own lo w v) (hM : ∀ a b u k, v = .agg #[a, b, u] → u.ownBlock = some k → k < M) (hlo : lo ≤ w.heap.size) (hsz : I.px.length ≤ 1048576) :
    Calls Tryd.prog 16 #[v, .int .i64 1] w fun e w' => e = .returned (.int .i64 r) ∧ I.marked.Own lo w' v ∧ Part lo M w w' := by
  obtain ⟨u, rfl, i1, i2, hu⟩ := hv
  have HM := hid (hM _ _ _ · rfl)
  have HL := hid hu.lt
  clear hM
  go_enter Tryd.func16, Tryd.ntmps16
  go_wp2_with fail
  refine (markIntS_any lo u I.px 1 _ (hu.alloc _) (by decide) (by omega)).mono ?_
  rintro e w1 ⟨rfl, hv1, hg0⟩
  have hg := grownBy.trans (World.grownBy_alloc _ _ _) hg0
  clear hg0
  go_wp2
  go_ret
  exact ⟨rfl, ⟨u, rfl, i1, i2, hv1⟩, Part.of hg (fun k hk => ⟨(HL.out k hk).1, HM.out k hk⟩) hlo⟩

set_option maxHeartbeats 800000 in
theorem heldImage_marked {I : Pic} {r : Int} (hr : 1 + (I.px.length : Int) = r) (lo hi : Nat) (v : Value) (w : World) (hv : I.marked.R lo hi w v) (hh : hi ≤ w.heap.size) (hsz : I.px.length ≤ 1048576) :
    Calls Tryd.prog 17 #[v, .int .i64 1] w fun e w' => e = .returned (.int .i64 r) ∧ Ext w w' := by
  obtain ⟨u, rfl, _, _, hu⟩ := hv
  have hl : (upFrom 1 I.px.length).length = I.px.length := upFrom_length _ _
  have e : heldRes (upFrom 1 I.px.length) 1 = r := by
    unfold heldRes
    rw [hl, if_pos rfl]
    exact hr
  have HH := fun w hu => e ▸ heldIntS_any lo hi u (upFrom 1 I.px.length) 1 w hu (by decide) (by rw [hl]; omega)
  replace HH := hid HH
  have r0 : 0 ≤ r := by omega
  have r1 : r ≤ 2000000 := by omega
  clear e hl hr
  go_enter Tryd.func17, Tryd.ntmps17
  go_wp2_with fail
  refine (HH.out _ (hu.ext hh (by repeat (with_reducible (first | assumption | exact Ext.refl _ | apply Ext.alloc | apply Ext.drew | apply Ext.drewN))))).mono ?_
  rintro e w1 ⟨rfl, rfl⟩
  go_wp2
  go_ret
  exact ⟨rfl, (by repeat (with_reducible (first | assumption | exact Ext.refl _ | apply Ext.alloc | apply Ext.drew | apply Ext.drewN)))⟩
end Go.Proofs.YtodblnccgpiigaaDoor
