/- This text proves what IsValidCache of the program and of the reference compute. -/
import Derived.Test.YtcogkglkioejaaaTileX
namespace Go.Proofs.Ytcogkglkioejaaa
open Go.RowKit

/-- a cache: its room, its tiles in the order of use, its loads -/
structure CV where
  (room : Int) (L : List T3) (loads : Int)
def CV.ok (C : CV) : Bool := (inB C.room 1 12 && decide ((C.L.length : Int) ≤ C.room) && inB C.loads C.L.length 1000000000) && decide C.L.Nodup
def CR (lo hi : Nat) (w : World) (v : Value) (C : CV) : Prop := ∃ tv, v = .agg #[.int .i64 C.room, tv, .int .i64 C.loads] ∧ (TLof C.L).R lo hi w tv ∧ I64 C.room ∧ I64 C.loads

/-- the first k tiles stand there for the first time -/
def firstTo (L : List T3) (k : Nat) : Prop := ∀ i (h : i < L.length), i < k → ix L L[i] = i
theorem ix_nodup {L : List T3} (h : L.Nodup) {i : Nat} (hi : i < L.length) : ix L L[i] = i := by
  unfold ix
  rw [if_pos (List.getElem_mem hi), h.idxOf_getElem i hi]
theorem firstTo_nodup {L : List T3} (h : firstTo L L.length) : L.Nodup := by
  rw [List.nodup_iff_pairwise_ne, List.pairwise_iff_getElem]
  intro i j hi hj hij e
  have h1 := h i hi hi
  have h2 := h j hj hj
  rw [e] at h1
  omega
theorem firstTo_succ {L : List T3} {k : Nat} (h : firstTo L k) (hk : k < L.length) (e : ix L L[k] = k) : firstTo L (k + 1) := fun i hi hik => by
  by_cases hh : i = k
  · subst hh; exact e
  · exact h i hi (by omega)

set_option maxRecDepth 10000 in
set_option maxHeartbeats 3200000 in
theorem iIsValidCache_any (lo hi : Nat) (v : Value) (C : CV) (w : World) (hv : CR lo hi w v C) (hh : hi ≤ w.heap.size) :
    Calls Try.prog 10 #[v] w fun e w' => e = .returned (.bool C.ok) ∧ Ext w w' := by
  obtain ⟨tv, rfl, hu, hr, hl⟩ := hv
  have HR := hid hu
  obtain ⟨a, cap, rfl, HU⟩ := Flats.open hu
  have hle := HU.le
  have hcap := HU.cap
  rw [TLof_n] at *
  clear hu
  obtain ⟨b1, h1⟩ : ∃ b, inB C.room 1 12 = b := ⟨_, rfl⟩
  obtain ⟨b3, h3⟩ : ∃ b, inB C.loads C.L.length 1000000000 = b := ⟨_, rfl⟩
  have hok : C.ok = ((b1 && decide ((C.L.length : Int) ≤ C.room) && b3) && decide C.L.Nodup) := by unfold CV.ok; rw [h1, h3]
  have HO := hid hok
  have H1 := hid h1
  have H3 := hid h3
  clear hok h1 h3
  by_cases hc : b1 = true ∧ ((C.L.length : Int) ≤ C.room) ∧ b3 = true
  · obtain ⟨rfl, h2, rfl⟩ := hc
    go_enter Try.func10, Try.ntmps10
    go_wp2_with (go_at_call 33; with_reducible first | (refine (within_val H1.out _).mono ?_; rintro e w1 ⟨rfl, rfl⟩) | (refine (within_val H3.out _).mono ?_; rintro e w1 ⟨rfl, rfl⟩))
    go_loopw [29] (fun i wr => ∃ k : Nat, k ≤ C.L.length ∧ i = .int .i64 k ∧ firstTo C.L k ∧ Ext (w.alloc (.cells #[.int .i64 C.room, .slice a C.L.length cap, .int .i64 C.loads] 29)) wr) (fun i _ => C.L.length - (intOf i).toNat)
    case atStart => exact ⟨0, by omega, rfl, fun i _ h => by omega, Ext.refl _⟩
    case round =>
      obtain ⟨k, hk, rfl, hf, hx⟩ := hrel
      have HX := hid hx
      have HF := hid hf
      have hsz := hx.size
      simp at hsz
      have v0 := hx.cells.1 w.heap.size 0 (by simp)
      have v1 := hx.cells.1 w.heap.size 1 (by simp)
      have v2 := hx.cells.1 w.heap.size 2 (by simp)
      simp [go_sem] at v0 v1 v2
      by_cases hlt : k < C.L.length
      · obtain ⟨b, off, rfl, hb1, hb2, hc⟩ := HU.at hlt (by decide)
        have c0 := ((((Ext.refl w).alloc _).trans hx).cells.1 b _ (by omega)).trans (hc 0 (by decide))
        have c1 := ((((Ext.refl w).alloc _).trans hx).cells.1 b _ (by omega)).trans (hc 1 (by decide))
        have c2 := ((((Ext.refl w).alloc _).trans hx).cells.1 b _ (by omega)).trans (hc 2 (by decide))
        simp only [Nat.add_zero] at c0
        have s1 : b < wr.heap.size := by omega
        have s2 : w.heap.size < wr.heap.size := by omega
        obtain ⟨r, hr⟩ : ∃ r, ix C.L ⟨(TLof C.L).f (k * 3), (TLof C.L).f (k * 3 + 1), (TLof C.L).f (k * 3 + 2)⟩ = r := ⟨_, rfl⟩
        have hrk : ix C.L C.L[k] = r := by
          obtain ⟨e0, e1, e2⟩ := TLof_at hlt
          rw [← hr, e0, e1, e2]
        have HI := hid hr
        have HK := hid hrk
        have hX : Ext w wr := Ext.trans (by repeat (with_reducible (first | assumption | exact Ext.refl _ | apply Ext.alloc | apply Ext.drew | apply Ext.drewN))) hx
        have HW := hid hX
        clear hf hx hc hr hrk hX
        by_cases e : r = k
        · subst e
          go_wp2_with (go_at_call 34; refine (tileIx_any lo hi _ C.L _ _ _ _ HI.out (HR.out.ext hh (by have hX := HW.out; exact (by repeat (first | with_reducible assumption | with_reducible exact Ext.refl _ | with_reducible apply Ext.alloc | with_reducible apply Ext.drew | with_reducible apply Ext.drewN | (with_reducible refine Ext.setCell ?_ (by simp; omega) _) | (with_reducible refine Ext.setCell ?_ (by simp) _))))) (Nat.le_trans hh (Ext.size (by have hX := HW.out; exact (by repeat (first | with_reducible assumption | with_reducible exact Ext.refl _ | with_reducible apply Ext.alloc | with_reducible apply Ext.drew | with_reducible apply Ext.drewN | (with_reducible refine Ext.setCell ?_ (by simp; omega) _) | (with_reducible refine Ext.setCell ?_ (by simp) _))))))).mono ?_; rintro e w3 ⟨rfl, x3⟩)
          go_roundw
          case rel => exact ⟨k + 1, by omega, by go_num, firstTo_succ HF.out hlt HK.out, HX.out.trans (((Ext.refl _).alloc _).trans x3)⟩
          case measure => simp [intOf]; omega
        · have hne : (r != (k : Int)) = true := by simp [e]
          go_wp2_with (go_at_call 34; refine (tileIx_any lo hi _ C.L _ _ _ _ HI.out (HR.out.ext hh (by have hX := HW.out; exact (by repeat (first | with_reducible assumption | with_reducible exact Ext.refl _ | with_reducible apply Ext.alloc | with_reducible apply Ext.drew | with_reducible apply Ext.drewN | (with_reducible refine Ext.setCell ?_ (by simp; omega) _) | (with_reducible refine Ext.setCell ?_ (by simp) _))))) (Nat.le_trans hh (Ext.size (by have hX := HW.out; exact (by repeat (first | with_reducible assumption | with_reducible exact Ext.refl _ | with_reducible apply Ext.alloc | with_reducible apply Ext.drew | with_reducible apply Ext.drewN | (with_reducible refine Ext.setCell ?_ (by simp; omega) _) | (with_reducible refine Ext.setCell ?_ (by simp) _))))))).mono ?_; rintro e w3 ⟨rfl, x3⟩)
          go_ret
          have hnN : ¬ C.L.Nodup := fun hN => e (by rw [← HK.out]; exact ix_nodup hN hlt)
          exact ⟨ret_bool (by rw [HO.out]; simp [hnN]), HW.out.trans (((Ext.refl _).alloc _).trans x3)⟩
      · obtain rfl : k = C.L.length := by omega
        have hN := firstTo_nodup hf
        clear hf hx
        go_wp2
        go_ret
        exact ⟨ret_bool (by rw [HO.out]; simp [h2, hN]), Ext.trans (by repeat (with_reducible (first | assumption | exact Ext.refl _ | apply Ext.alloc | apply Ext.drew | apply Ext.drewN))) HX.out⟩
  · have hno := hid (show C.ok = false by
      rw [HO.out]
      by_cases h2 : (C.L.length : Int) ≤ C.room
      · cases b1
        · simp
        · cases b3
          · simp
          · exact absurd ⟨rfl, h2, rfl⟩ hc
      · simp [h2])
    clear HO
    by_cases h2 : (C.L.length : Int) ≤ C.room
    · have hb : b1 = false ∨ b3 = false := by
        cases b1
        · exact .inl rfl
        · cases b3
          · exact .inr rfl
          · exact absurd ⟨rfl, h2, rfl⟩ hc
      clear hc
      cases b1 <;> cases b3
      case true.true => simp at hb
      all_goals
        clear hb
        go_enter Try.func10, Try.ntmps10
        go_wp2_with (go_at_call 33; with_reducible first | (refine (within_val H1.out _).mono ?_; rintro e w1 ⟨rfl, rfl⟩) | (refine (within_val H3.out _).mono ?_; rintro e w1 ⟨rfl, rfl⟩))
        go_ret
        exact ⟨ret_bool hno.out.symm, (Ext.refl _).alloc _⟩
    · clear hc
      have h3 : C.room < (C.L.length : Int) := by omega
      cases b1 <;> cases b3
      all_goals
        go_enter Try.func10, Try.ntmps10
        go_wp2_with (go_at_call 33; with_reducible first | (refine (within_val H1.out _).mono ?_; rintro e w1 ⟨rfl, rfl⟩) | (refine (within_val H3.out _).mono ?_; rintro e w1 ⟨rfl, rfl⟩))
        go_ret
        exact ⟨ret_bool hno.out.symm, (Ext.refl _).alloc _⟩

set_option maxRecDepth 10000 in
set_option maxHeartbeats 3200000 in
theorem sIsValidCache_any (lo hi : Nat) (v : Value) (C : CV) (w : World) (hv : CR lo hi w v C) (hh : hi ≤ w.heap.size) :
    Calls Try.prog 38 #[v] w fun e w' => e = .returned (.bool C.ok) ∧ Ext w w' := by
  obtain ⟨tv, rfl, hu, hr, hl⟩ := hv
  have HR := hid hu
  obtain ⟨a, cap, rfl, HU⟩ := Flats.open hu
  have hle := HU.le
  have hcap := HU.cap
  rw [TLof_n] at *
  clear hu
  obtain ⟨b1, h1⟩ : ∃ b, inB C.room 1 12 = b := ⟨_, rfl⟩
  obtain ⟨b3, h3⟩ : ∃ b, inB C.loads C.L.length 1000000000 = b := ⟨_, rfl⟩
  have hok : C.ok = ((b1 && decide ((C.L.length : Int) ≤ C.room) && b3) && decide C.L.Nodup) := by unfold CV.ok; rw [h1, h3]
  have HO := hid hok
  have q1 := hid (fun W : World => h1 ▸ l01In_any C.room 1 12 W)
  have q3 := hid (fun W : World => h3 ▸ l01In_any C.loads C.L.length 1000000000 W)
  clear hok h1 h3
  go_enter Try.func38, Try.ntmps38
  go_wp2
  go_loopw [8] (fun i wr => ∃ k : Nat, k ≤ C.L.length ∧ i = .int .i64 k ∧ firstTo C.L k ∧ Ext (w.alloc (.cells #[.int .i64 C.room, .slice a C.L.length cap, .int .i64 C.loads] 29)) wr) (fun i _ => C.L.length - (intOf i).toNat)
  case atStart => exact ⟨0, by omega, rfl, fun i _ h => by omega, Ext.refl _⟩
  case round =>
    obtain ⟨k, hk, rfl, hf, hx⟩ := hrel
    have HX := hid hx
    have HF := hid hf
    have hsz := hx.size
    simp at hsz
    have v0 := hx.cells.1 w.heap.size 0 (by simp)
    have v1 := hx.cells.1 w.heap.size 1 (by simp)
    have v2 := hx.cells.1 w.heap.size 2 (by simp)
    simp [go_sem] at v0 v1 v2
    by_cases hlt : k < C.L.length
    · obtain ⟨b, off, rfl, hb1, hb2, hc⟩ := HU.at hlt (by decide)
      have c0 := ((((Ext.refl w).alloc _).trans hx).cells.1 b _ (by omega)).trans (hc 0 (by decide))
      have c1 := ((((Ext.refl w).alloc _).trans hx).cells.1 b _ (by omega)).trans (hc 1 (by decide))
      have c2 := ((((Ext.refl w).alloc _).trans hx).cells.1 b _ (by omega)).trans (hc 2 (by decide))
      simp only [Nat.add_zero] at c0
      have s1 : b < wr.heap.size := by omega
      have s2 : w.heap.size < wr.heap.size := by omega
      obtain ⟨r, hr⟩ : ∃ r, ix C.L ⟨(TLof C.L).f (k * 3), (TLof C.L).f (k * 3 + 1), (TLof C.L).f (k * 3 + 2)⟩ = r := ⟨_, rfl⟩
      have hrk : ix C.L C.L[k] = r := by
        obtain ⟨e0, e1, e2⟩ := TLof_at hlt
        rw [← hr, e0, e1, e2]
      have HI := hid hr
      have HK := hid hrk
      have hX : Ext w wr := Ext.trans (by repeat (with_reducible (first | assumption | exact Ext.refl _ | apply Ext.alloc | apply Ext.drew | apply Ext.drewN))) hx
      have HW := hid hX
      clear hf hx hc hr hrk hX
      by_cases e : r = k
      · subst e
        go_wp2_with (go_at_call 65; refine (l16Ix_any lo hi _ C.L _ _ _ _ HI.out (HR.out.ext hh (by have hX := HW.out; exact (by repeat (first | with_reducible assumption | with_reducible exact Ext.refl _ | with_reducible apply Ext.alloc | with_reducible apply Ext.drew | with_reducible apply Ext.drewN | (with_reducible refine Ext.setCell ?_ (by simp; omega) _) | (with_reducible refine Ext.setCell ?_ (by simp) _))))) (Nat.le_trans hh (Ext.size (by have hX := HW.out; exact (by repeat (first | with_reducible assumption | with_reducible exact Ext.refl _ | with_reducible apply Ext.alloc | with_reducible apply Ext.drew | with_reducible apply Ext.drewN | (with_reducible refine Ext.setCell ?_ (by simp; omega) _) | (with_reducible refine Ext.setCell ?_ (by simp) _))))))).mono ?_; rintro e w3 ⟨rfl, x3⟩)
        go_roundw
        case rel => exact ⟨k + 1, by omega, by go_num, firstTo_succ HF.out hlt HK.out, HX.out.trans (((Ext.refl _).alloc _).trans x3)⟩
        case measure => simp [intOf]; omega
      · have hne : (r != (k : Int)) = true := by simp [e]
        go_wp2_with (go_at_call 65; refine (l16Ix_any lo hi _ C.L _ _ _ _ HI.out (HR.out.ext hh (by have hX := HW.out; exact (by repeat (first | with_reducible assumption | with_reducible exact Ext.refl _ | with_reducible apply Ext.alloc | with_reducible apply Ext.drew | with_reducible apply Ext.drewN | (with_reducible refine Ext.setCell ?_ (by simp; omega) _) | (with_reducible refine Ext.setCell ?_ (by simp) _))))) (Nat.le_trans hh (Ext.size (by have hX := HW.out; exact (by repeat (first | with_reducible assumption | with_reducible exact Ext.refl _ | with_reducible apply Ext.alloc | with_reducible apply Ext.drew | with_reducible apply Ext.drewN | (with_reducible refine Ext.setCell ?_ (by simp; omega) _) | (with_reducible refine Ext.setCell ?_ (by simp) _))))))).mono ?_; rintro e w3 ⟨rfl, x3⟩)
        go_ret
        have hnN : ¬ C.L.Nodup := fun hN => e (by rw [← HK.out]; exact ix_nodup hN hlt)
        exact ⟨ret_bool (by rw [HO.out]; simp [hnN]), HW.out.trans (((Ext.refl _).alloc _).trans x3)⟩
    · obtain rfl : k = C.L.length := by omega
      have hN := hid (firstTo_nodup hf)
      have hok2 := hid (show C.ok = (b1 && decide ((C.L.length : Int) ≤ C.room) && b3) by rw [HO.out, decide_eq_true hN.out, Bool.and_true])
      clear hf hx HO
      by_cases h2 : (C.L.length : Int) ≤ C.room
      all_goals cases b1 <;> cases b3
      all_goals
        go_wp2_with (go_at_call 64; with_reducible first | (refine (q1.out _).mono ?_; rintro e w1 ⟨rfl, rfl⟩) | (refine (q3.out _).mono ?_; rintro e w1 ⟨rfl, rfl⟩))
        go_ret
        exact ⟨ret_bool (by rw [hok2.out]; simp [h2]), Ext.trans (by repeat (with_reducible (first | assumption | exact Ext.refl _ | apply Ext.alloc | apply Ext.drew | apply Ext.drewN))) HX.out⟩
end Go.Proofs.Ytcogkglkioejaaa
