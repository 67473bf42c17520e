/- This text proves what the products of matrices of both sides compute. -/
import Derived.Test.YtkcghoeklbcihaaGreatDoorTr1
import Derived.Test.YtkcghoeklbcihaaGreatDoorPlan
import Derived.Test.YtkcghoeklbcihaaGreatDoorL02d
namespace Go.Proofs.YtkcghoeklbcihaaGreatDoor
open Go.RowKit

/-- a matrix's value -/
def mV (f : Nat → Int) : Value := .agg #[.int .i64 (f 0), .int .i64 (f 1), .int .i64 (f 2), .int .i64 (f 3), .int .i64 (f 4), .int .i64 (f 5), .int .i64 (f 6), .int .i64 (f 7), .int .i64 (f 8)]
/-- the sum of a row by a column, so far -/
def aftS (f g : Nat → Int) (k : Nat) : Nat → Int
  | 0 => 0
  | i + 1 => aftS f g k i + f (k / 3 * 3 + i) * g (3 * i + k % 3)
/-- the product of two matrices of sixteenths -/
def aft (f g : Nat → Int) (k : Nat) : Int := (aftS f g k 3).tdiv 16
def mIn (f : Nat → Int) : Prop := ∀ i, i < 9 → -1000000 ≤ f i ∧ f i ≤ 1000000
theorem aftS_bd {f g : Nat → Int} (hf : mIn f) (hg : mIn g) {k : Nat} (hk : k < 9) : ∀ i, i ≤ 3 → -1000000000000 * i ≤ aftS f g k i ∧ aftS f g k i ≤ 1000000000000 * i
  | 0, _ => by simp [aftS]
  | i + 1, hi => by
    have ih := aftS_bd hf hg hk i (by omega)
    have a := hf (k / 3 * 3 + i) (by omega)
    have b := hg (3 * i + k % 3) (by omega)
    have m := mul_range a.1 a.2 b.1 b.2
    unfold aftS
    omega
theorem RowI.congr {w : World} {b : Nat} {t : TypeId} {n : Nat} {f g : Nat → Int} (h : RowI w b t n f) (e : ∀ i, i < n → f i = g i) : RowI w b t n g := World.rowIs.congr h fun i hi => by rw [e i hi]
theorem RowI.putAt {w : World} {b : Nat} {t : TypeId} {n : Nat} {f : Nat → Int} (h : RowI w b t n f) (i : Nat) (x : Int) : RowI (w.setCell ⟨b, i, none⟩ (.int .i64 x)) b t n (fun j => if j = i then x else f j) :=
  World.rowIs.congr (World.rowIs.set h i (.int .i64 x)) fun j _ => by by_cases e : j = i <;> simp [e]

/-- the result under way: the first k numbers, and of number k the sum of i products -/
def aftR (f g : Nat → Int) (k i j : Nat) : Int := if j < k then aft f g j else if j = k then aftS f g k i else 0
theorem aftR_put (f g : Nat → Int) (k i : Nat) {x : Int} (hx : x = aftS f g k (i + 1)) (j : Nat) : (if j = k then x else aftR f g k i j) = aftR f g k (i + 1) j := by
  unfold aftR
  by_cases e : j = k
  · subst e
    simp [hx]
  · simp [e]
theorem aftR_next (f g : Nat → Int) (k : Nat) {x : Int} (hx : x = aft f g k) (j : Nat) : (if j = k then x else aftR f g k 3 j) = aftR f g (k + 1) 0 j := by
  unfold aftR
  by_cases e : j = k
  · subst e
    simp [hx]
  · by_cases h : j < k
    · simp [e, h]; omega
    · by_cases h2 : j = k + 1
      · subst h2
        rw [if_neg e, if_neg h, if_neg e, if_neg (by omega), if_pos rfl]
        rfl
      · have h3 : ¬ j < k + 1 := by omega
        simp [e, h, h2, h3]

set_option maxRecDepth 20000 in
set_option maxHeartbeats 1600000 in
theorem iAfter_any (f g : Nat → Int) (hf : mIn f) (hg : mIn g) (w : World) : Calls Tryz.prog 20 #[mV f, mV g] w fun e w' => e = .returned (mV (aft f g)) ∧ Ext w w' := by
  have HF := hid hf
  have HG := hid hg
  clear hf hg
  unfold mV
  go_enter Tryz.func20, Tryz.ntmps20
  go_wp2
  go_loopw [8] (fun k wr => ∃ n : Nat, n ≤ 9 ∧ k = .int .i64 n ∧ Ext w wr ∧ RowI wr w.heap.size 27 9 f ∧ RowI wr (w.heap.size + 1) 27 9 g ∧ RowI wr (w.heap.size + 1 + 1) 27 9 (fun _ => 0) ∧ RowI wr (w.heap.size + 1 + 1 + 1) 27 9 (aftR f g n 0)) (fun k _ => 9 - (intOf k).toNat)
  case atStart =>
    refine ⟨0, by omega, rfl, (by repeat (with_reducible (first | assumption | exact Ext.refl _ | apply Ext.alloc | apply Ext.drew | apply Ext.drewN))), ?_, ?_, ?_, ?_⟩
    · exact (((rowI9_new rfl).alloc _).alloc _).alloc _
    · exact ((rowI9_new (by simp)).alloc _).alloc _
    · exact (rowI9_new (f := fun _ => 0) (by simp)).alloc _
    · exact (rowI9_new (f := fun _ => 0) (by simp)).congr fun i _ => by unfold aftR aftS; simp
  case round =>
    obtain ⟨n, hn, rfl, hE, h1, h2, h3, h4⟩ := hrel
    by_cases hlt : n < 9
    · have HE := hid hE
      have H1 := hid h1
      have H2 := hid h2
      have H3 := hid h3
      have H4 := hid h4
      clear hE h1 h2 h3 h4
      go_wp2
      go_loopw [7] (fun i wr => ∃ m : Nat, m ≤ 3 ∧ i = .int .i64 m ∧ Ext w wr ∧ RowI wr w.heap.size 27 9 f ∧ RowI wr (w.heap.size + 1) 27 9 g ∧ RowI wr (w.heap.size + 1 + 1) 27 9 (fun _ => 0) ∧ RowI wr (w.heap.size + 1 + 1 + 1) 27 9 (aftR f g n m)) (fun i _ => 3 - (intOf i).toNat)
      case atStart => exact ⟨0, by omega, rfl, HE.out, H1.out, H2.out, H3.out, H4.out⟩
      case round =>
        clear HE H1 H2 H3 H4
        obtain ⟨m, hm, rfl, hE, h1, h2, h3, h4⟩ := hrel
        by_cases hlt3 : m < 3
        · have a0 : n / 3 * 3 + m < 9 := by omega
          have b0 : 3 * m + n % 3 < 9 := by omega
          have c1 := h1.cell a0
          have c2 := h2.cell b0
          have c4 := h4.cell hlt
          have f4 := h4.frozen n
          have hS := aftS_bd HF.out HG.out hlt m (by omega)
          have ha := HF.out _ a0
          have hb := HG.out _ b0
          have hp := mul_range ha.1 ha.2 hb.1 hb.2
          have hS2 : aftS f g n (m + 1) = aftS f g n m + f (n / 3 * 3 + m) * g (3 * m + n % 3) := rfl
          have hR : aftR f g n m n = aftS f g n m := by unfold aftR; simp
          rw [hR] at c4
          obtain ⟨A, hA⟩ : ∃ A, n / 3 * 3 + m = A := ⟨_, rfl⟩
          obtain ⟨B, hB⟩ : ∃ B, 3 * m + n % 3 = B := ⟨_, rfl⟩
          rw [hA] at c1 hp hS2 ha a0
          rw [hB] at c2 hp hS2 hb b0
          obtain ⟨x, hx⟩ : ∃ x, f A = x := ⟨_, rfl⟩
          obtain ⟨y, hy⟩ : ∃ x, g B = x := ⟨_, rfl⟩
          rw [hx] at c1 hp hS2
          rw [hy] at c2 hp hS2
          obtain ⟨p, hxy⟩ : ∃ p, x * y = p := ⟨_, rfl⟩
          obtain ⟨S, hSS⟩ : ∃ S, aftS f g n m = S := ⟨_, rfl⟩
          rw [hxy] at hp hS2
          rw [hSS] at hS hS2 c4
          have HS2 := hid hS2
          have HE := hid hE
          have H1 := hid h1
          have H2 := hid h2
          have H3 := hid h3
          have H4 := hid h4
          have zl := h4.lt
          have z1 := h1.lt
          have z2 := h2.lt
          clear hE h1 h2 h3 h4 hx hy hS2 hR hSS ha hb
          go_wp2
          refine wp_region_stages [([0, 1, 2, 3, 4, 5, 6, 7, 8, 9, 10, 11, 12, 13, 14, 15, 16, 17, 18, 19], 20)] 20 (w.heap.size + 4) (by kernel_rfl) (by kernel_rfl) ?_
          refine wpStages_cons ?_
          simp only [List.filterMap_cons, List.filterMap_nil, List.getElem?_toArray, List.getElem?_cons_zero, List.getElem?_cons_succ]
          show wpQuiet _ _ _ _ [_, _, _, _, _, _, _, _, _, _, _, _, _, _, _, _, _, _, _, _] _
          repeat (go_big_quiet_step (fail))
          refine wpQuiet_nil ⟨_, rfl, fun K hK => ?_⟩
          go_wp2
          refine hK _ _ (.inl (by trivial)) (wpStages_nil ?_)
          clear hK K
          go_wp2
          go_roundw
          case rel =>
            refine ⟨m + 1, by omega, by go_num, ?_, ?_, ?_, ?_, ?_⟩
            · exact (HE.out.drew).setCell (by simp; omega) _
            · exact (H1.out.ext ((Ext.refl _).drew)).other (by simp; omega) _
            · exact (H2.out.ext ((Ext.refl _).drew)).other (by simp) _
            · exact (H3.out.ext ((Ext.refl _).drew)).other (by simp) _
            · exact ((H4.out.ext ((Ext.refl _).drew)).putAt n _).congr fun j _ => aftR_put f g n m HS2.out.symm j
          case measure => simp [intOf]; omega
        · obtain rfl : m = 3 := by omega
          have c4 := h4.cell hlt
          have f4 := h4.frozen n
          have hR : aftR f g n 3 n = aftS f g n 3 := by unfold aftR; simp
          have hS := aftS_bd HF.out HG.out hlt 3 (by omega)
          rw [hR] at c4
          obtain ⟨S, hSS⟩ : ∃ S, aftS f g n 3 = S := ⟨_, rfl⟩
          rw [hSS] at hS c4
          have HSS := hid (show S.tdiv 16 = aft f g n by unfold aft; rw [hSS])
          have HE := hid hE
          have H1 := hid h1
          have H2 := hid h2
          have H3 := hid h3
          have H4 := hid h4
          have zl := h4.lt
          clear hE h1 h2 h3 h4 hSS hR
          go_wp2
          go_roundw
          case rel =>
            refine ⟨n + 1, by omega, by go_num, ?_, ?_, ?_, ?_, ?_⟩
            · exact HE.out.setCell (by simp; omega) _
            · exact H1.out.other (by simp; omega) _
            · exact H2.out.other (by simp) _
            · exact H3.out.other (by simp) _
            · exact (H4.out.putAt n _).congr fun j _ => aftR_next f g n HSS.out j
          case measure => simp [intOf]; omega
    · obtain rfl : n = 9 := by omega
      have h4' := h4.congr (g := aft f g) fun i hi => by unfold aftR; rw [if_pos hi]
      have c0 := h4'.cell (i := 0) (by decide)
      have d0 := h3.cell (i := 0) (by decide)
      have e0 := h3.frozen 0
      have c1 := h4'.cell (i := 1) (by decide)
      have d1 := h3.cell (i := 1) (by decide)
      have e1 := h3.frozen 1
      have c2 := h4'.cell (i := 2) (by decide)
      have d2 := h3.cell (i := 2) (by decide)
      have e2 := h3.frozen 2
      have c3 := h4'.cell (i := 3) (by decide)
      have d3 := h3.cell (i := 3) (by decide)
      have e3 := h3.frozen 3
      have c4 := h4'.cell (i := 4) (by decide)
      have d4 := h3.cell (i := 4) (by decide)
      have e4 := h3.frozen 4
      have c5 := h4'.cell (i := 5) (by decide)
      have d5 := h3.cell (i := 5) (by decide)
      have e5 := h3.frozen 5
      have c6 := h4'.cell (i := 6) (by decide)
      have d6 := h3.cell (i := 6) (by decide)
      have e6 := h3.frozen 6
      have c7 := h4'.cell (i := 7) (by decide)
      have d7 := h3.cell (i := 7) (by decide)
      have e7 := h3.frozen 7
      have c8 := h4'.cell (i := 8) (by decide)
      have d8 := h3.cell (i := 8) (by decide)
      have e8 := h3.frozen 8
      have HE := hid hE
      clear h1 h2 h3 h4 h4' hE
      go_wp2
      refine bodyPost_ret (v := mV (aft f g)) (by unfold mV; simp [results, Tryz.results20, go_sem, *]) rfl ⟨rfl, ?_⟩
      have hE := HE.out
      exact (by repeat (first | with_reducible assumption | with_reducible exact Ext.refl _ | with_reducible apply Ext.alloc | with_reducible apply Ext.drew | with_reducible apply Ext.drewN | (with_reducible refine Ext.setCell ?_ (by simp; omega) _) | (with_reducible refine Ext.setCell ?_ (by simp) _)))
end Go.Proofs.YtkcghoeklbcihaaGreatDoor
