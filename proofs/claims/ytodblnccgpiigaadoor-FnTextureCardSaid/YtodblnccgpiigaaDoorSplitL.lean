/- This text proves what SplitLines of both sides hands back. -/
import Derived.Test.YtodblnccgpiigaaDoorSplitS
import Derived.Test.YtodblnccgpiigaaDoorNum2
namespace Go.Proofs.YtodblnccgpiigaaDoor
open Go.RowKit

/-- the lines of s -/
def linesB (s : ByteArray) : List ByteArray := if (splitB (inSep ⟨#[10]⟩) s).getLast?.map (·.size) = some 0 then (splitB (inSep ⟨#[10]⟩) s).dropLast else splitB (inSep ⟨#[10]⟩) s
theorem linesB_size (s : ByteArray) : ∀ x ∈ linesB s, x.size ≤ s.size := by
  intro x hx
  unfold linesB at hx
  split at hx
  · exact splitB_size _ s x (List.dropLast_subset _ hx)
  · exact splitB_size _ s x hx
theorem linesB_length (s : ByteArray) : (linesB s).length ≤ s.size + 1 := by
  have := splitB_length (inSep ⟨#[10]⟩) s
  unfold linesB
  split
  · rw [List.length_dropLast]; omega
  · exact this
theorem Strs.dropLast {lo hi : Nat} {w : World} {a : Option Addr} {n c : Nat} {xs : List ByteArray} (h : StrsAt lo hi w a c xs) (hn : n = xs.length - 1) : Strs lo hi w (.slice a n c) xs.dropLast := by
  have l1 := h.le
  have l2 := h.cap
  subst hn
  refine ⟨a, c, by rw [List.length_dropLast], by rw [List.length_dropLast]; omega, by unfold maxLen; omega, fun i x hx => h.cell i x ?_⟩
  rw [List.getElem?_dropLast] at hx
  split at hx
  · exact hx
  · cases hx
theorem StrsAt.shut {lo hi : Nat} {w : World} {a : Option Addr} {c n : Nat} {xs : List ByteArray} (h : StrsAt lo hi w a c xs) (hn : n = xs.length) : Strs lo hi w (.slice a n c) xs := by
  subst hn
  exact ⟨a, c, rfl, h.le, by unfold maxLen; have := h.cap; omega, h.cell⟩

set_option maxHeartbeats 800000 in
theorem iSplitLines_any (s : ByteArray) (w : World) (hs : s.size ≤ 100000000) :
    Calls Tryd.prog 27 #[.string s] w fun e w' => ∃ v, e = .returned v ∧ Strs w.heap.size w'.heap.size w' v (linesB s) ∧ Ext w w' := by
  obtain ⟨L, hL⟩ : ∃ L, splitB (inSep ⟨#[10]⟩) s = L := ⟨_, rfl⟩
  have h1 := splitB_ne (inSep ⟨#[10]⟩) s
  have hsp := fun (w : World) => iSplitAny_any s ⟨#[10]⟩ w hs
  rw [hL] at h1 hsp
  have HS := hid hsp
  have hg : linesB s = if L.getLast?.map (·.size) = some 0 then L.dropLast else L := by unfold linesB; rw [hL]
  have HG := hid hg
  clear hL hg hsp
  go_enter Tryd.func27, Tryd.ntmps27
  go_wp2_with fail
  refine (HS.out _).mono ?_
  rintro e w1 ⟨v, rfl, ho, x1⟩
  obtain ⟨a, c, rfl, HA⟩ := ho.strs.open
  obtain ⟨n, hn⟩ : ∃ n, L.length - 1 = n := ⟨_, rfl⟩
  have h2 : L.length = n + 1 := by omega
  obtain ⟨b, off, rfl, hb1, hb2, hc⟩ := HA.at (k := n) (by omega)
  have l1 := HA.le
  have l2 := HA.cap
  have hlast : L.getLast? = some L[n] := by rw [List.getLast?_eq_getElem?]; simp [h2]
  obtain ⟨x, hx⟩ : ∃ x, L[n] = x := ⟨_, rfl⟩
  rw [hx] at hc hlast
  rw [hlast] at HG
  have HN := hid h2
  have HA := hid HA
  rw [h2] at l1
  clear hx hlast ho h1 hn
  by_cases h0 : x.size = 0
  · have e0 := str_none h0
    rw [HN.out]
    go_wp2
    go_ret
    exact ⟨_, rfl, by rw [HG.out, if_pos (by simp [h0])]; exact Strs.dropLast HA.out (by rw [HN.out]; omega), x1⟩
  · have e0 := str_full h0
    rw [HN.out]
    go_wp2
    go_ret
    exact ⟨_, rfl, by rw [HG.out, if_neg (by simp [h0])]; exact HA.out.shut HN.out.symm, x1⟩

set_option maxHeartbeats 800000 in
theorem sSplitLines_any (s : ByteArray) (w : World) (hs : s.size ≤ 100000000) :
    Calls Tryd.prog 40 #[.string s] w fun e w' => ∃ v, e = .returned v ∧ Strs w.heap.size w'.heap.size w' v (linesB s) ∧ Ext w w' := by
  obtain ⟨L, hL⟩ : ∃ L, splitB (inSep ⟨#[10]⟩) s = L := ⟨_, rfl⟩
  have h1 := splitB_ne (inSep ⟨#[10]⟩) s
  have hsp := fun (w : World) => sSplitAny_any s ⟨#[10]⟩ w hs (by decide)
  rw [hL] at h1 hsp
  have HS := hid hsp
  have hg : linesB s = if L.getLast?.map (·.size) = some 0 then L.dropLast else L := by unfold linesB; rw [hL]
  have HG := hid hg
  clear hL hg hsp
  go_enter Tryd.func40, Tryd.ntmps40
  go_wp2_with fail
  refine (HS.out _).mono ?_
  rintro e w1 ⟨v, rfl, ho, x1⟩
  obtain ⟨a, c, rfl, HA⟩ := ho.strs.open
  obtain ⟨n, hn⟩ : ∃ n, L.length - 1 = n := ⟨_, rfl⟩
  have h2 : L.length = n + 1 := by omega
  obtain ⟨b, off, rfl, hb1, hb2, hc⟩ := HA.at (k := n) (by omega)
  have l1 := HA.le
  have l2 := HA.cap
  have hlast : L.getLast? = some L[n] := by rw [List.getLast?_eq_getElem?]; simp [h2]
  obtain ⟨x, hx⟩ : ∃ x, L[n] = x := ⟨_, rfl⟩
  rw [hx] at hc hlast
  rw [hlast] at HG
  have HN := hid h2
  have HA := hid HA
  rw [h2] at l1
  clear hx hlast ho h1 hn
  by_cases h0 : x.size = 0
  · have e0 := str_none h0
    rw [HN.out]
    go_wp2
    go_ret
    exact ⟨_, rfl, by rw [HG.out, if_pos (by simp [h0])]; exact Strs.dropLast HA.out (by rw [HN.out]; omega), x1⟩
  · have e0 := str_full h0
    rw [HN.out]
    go_wp2
    go_ret
    exact ⟨_, rfl, by rw [HG.out, if_neg (by simp [h0])]; exact HA.out.shut HN.out.symm, x1⟩
end Go.Proofs.YtodblnccgpiigaaDoor
