/- This text proves what the numbers of the shading language's functions are on both sides: hashes, extremes, magnitudes, and the callee's functions at their arguments. -/
import Derived.Test.YtaegmenjgjdimaaGreatSh1
namespace Go.Proofs.YtaegmenjgjdimaaGreat
open Go.RowKit

def hashStep (h x : Int) : Int := fmod (31 * h + clampI x (-1000000000) 1000000000) 1000003
def hashI (xs : List Int) : Int := xs.foldl hashStep 17
theorem clamp_big (x : Int) : -1000000000 ≤ clampI x (-1000000000) 1000000000 ∧ clampI x (-1000000000) 1000000000 ≤ 1000000000 := by
  unfold clampI
  split
  · omega
  · split <;> omega
theorem fmod_hash (a : Int) : 0 ≤ fmod a 1000003 ∧ fmod a 1000003 < 1000003 := by
  obtain ⟨k, hk, h⟩ := fmod_nat a (n := 1000003) (by decide)
  have e : fmod a 1000003 = fmod a ((1000003 : Nat) : Int) := rfl
  rw [e, hk]
  omega
theorem hash_range : ∀ (xs : List Int) (h : Int), (0 ≤ h ∧ h < 1000003) → 0 ≤ xs.foldl hashStep h ∧ xs.foldl hashStep h < 1000003
  | [], _, h => h
  | _ :: r, _, _ => hash_range r _ (fmod_hash _)
theorem hashI_range (xs : List Int) : 0 ≤ hashI xs ∧ hashI xs < 1000003 := hash_range xs 17 (by decide)
theorem hashI_snoc (xs : List Int) (k : Nat) (x : Int) (h : xs[k]? = some x) : hashI (xs.take (k + 1)) = hashStep (hashI (xs.take k)) x := by
  unfold hashI
  rw [List.take_add_one, h, List.foldl_append]
  rfl

set_option maxHeartbeats 800000 in
theorem HashInts_any (lo hi : Nat) (u : Value) (xs : List Int) (w : World) (hu : Ints lo hi w u xs) :
    Calls Tryz.prog 146 #[u] w fun e w' => e = .returned (.int .i64 (hashI xs)) ∧ w = w' := by
  obtain ⟨a, cap, rfl, HU⟩ := hu.open
  have l1 := HU.le
  have l2 := HU.cap
  clear hu
  go_enter Tryz.func146, Tryz.ntmps146
  go_wp2
  go_loopw [3, 8] (fun h i wr => ∃ k : Nat, k ≤ xs.length ∧ i = .int .i64 k ∧ h = .int .i64 (hashI (xs.take k)) ∧ w = wr) (fun _ i _ => xs.length - (intOf i).toNat)
  case atStart => exact ⟨0, by omega, rfl, by rw [List.take_zero]; rfl, rfl⟩
  case round =>
    obtain ⟨k, hk, rfl, rfl, rfl⟩ := hrel
    by_cases hlt : k < xs.length
    · obtain ⟨b, off, rfl, hb1, hb2, hc⟩ := HU.at hlt
      obtain ⟨x, hx⟩ : ∃ x, xs[k] = x := ⟨_, rfl⟩
      have hs := hashI_snoc xs k x (by rw [List.getElem?_eq_getElem hlt, hx])
      obtain ⟨h, hh⟩ : ∃ h, hashI (xs.take k) = h := ⟨_, rfl⟩
      have hr := hashI_range (xs.take k)
      rw [hh] at hr hs ⊢
      rw [hx] at hc
      have HS := hid hs
      have hcl := clamp_big x
      obtain ⟨c, hcx⟩ : ∃ c, clampI x (-1000000000) 1000000000 = c := ⟨_, rfl⟩
      have HC := hid hcx
      rw [hcx] at hcl
      clear hs hh hx hcx
      have hcc : ∀ w, Calls Tryz.prog 29 #[.int .i64 x, .int .i64 (-1000000000), .int .i64 1000000000] w fun e w' => e = .returned (.int .i64 c) ∧ w = w' := fun w => iClamp_val HC.out w
      have HCC := hid hcc
      clear hcc
      go_wp2_with fail
      refine (HCC.out _).mono ?_
      rintro e w1 ⟨rfl, rfl⟩
      go_wp2_with fail
      refine (floorMod_any (31 * h + c) 1000003 _ ⟨by omega, by omega⟩ ⟨by decide, by decide⟩).mono ?_
      rintro e w1 ⟨rfl, rfl⟩
      go_wp2
      go_roundw
      case rel => exact ⟨k + 1, by omega, by go_num, by rw [HS.out, hashStep, HC.out], by trivial⟩
      case measure => simp [intOf]; omega
    · obtain rfl : k = xs.length := by omega
      rw [List.take_length]
      go_wp2
      go_ret
      exact ⟨rfl, rfl⟩

/-- a hash below 257 -/
def hash257 (xs : List Int) : Int := hashI xs % 257
set_option maxHeartbeats 400000 in
theorem iHash257_any (lo hi : Nat) (u : Value) (xs : List Int) (w : World) (hu : Ints lo hi w u xs) :
    Calls Tryz.prog 142 #[u, .int .i64 257] w fun e w' => e = .returned (.int .i64 (hash257 xs)) ∧ w = w' := by
  have HU := hid hu
  clear hu
  unfold hash257
  have hr := hashI_range xs
  obtain ⟨h, hh⟩ : ∃ h, hashI xs = h := ⟨_, rfl⟩
  rw [hh] at hr ⊢
  have HH := hid hh
  clear hh
  have et : h.tmod 257 = h % 257 := Int.tmod_eq_emod_of_nonneg (by omega)
  go_enter Tryz.func142, Tryz.ntmps142
  go_wp2_with fail
  refine (HashInts_any lo hi _ xs _ HU.out).mono ?_
  rintro e w1 ⟨rfl, rfl⟩
  rw [HH.out]
  go_wp2
  rw [← et]
  go_ret
  exact ⟨rfl, rfl⟩
def maxI (a b : Int) : Int := if a > b then a else b
def minI (a b : Int) : Int := if a < b then a else b
def absI (a : Int) : Int := if a < 0 then -a else a
def stepI (a b : Int) : Int := if b ≥ a then 256 else 0
def floorI (a : Int) : Int := fdiv a 256 * 256
def blendI (a b c : Int) : Int := a + fdiv ((b - a) * c) 256
set_option maxHeartbeats 400000 in
theorem stepped_sh {a b c : Int} (ha : I64 a) (hb : I64 b) (h : (if b ≥ a then 256 else 0) = c) (w : World) : Calls Tryz.prog 141 #[.int .i64 a, .int .i64 b] w fun e w' => e = .returned (.int .i64 c) ∧ w = w' := by
  subst h
  go_enter Tryz.func141, Tryz.ntmps141
  by_cases h : b ≥ a
  · rw [if_pos h]
    go_wp2
    go_ret
    exact ⟨rfl, rfl⟩
  · rw [if_neg h]
    go_wp2
    go_ret
    exact ⟨rfl, rfl⟩
set_option maxHeartbeats 400000 in
theorem absolute_sh {a c : Int} (ha : S9 a) (h : absI a = c) (w : World) : Calls Tryz.prog 140 #[.int .i64 a] w fun e w' => e = .returned (.int .i64 c) ∧ w = w' := by
  subst h
  obtain ⟨h1, h2⟩ := ha
  unfold absI
  go_enter Tryz.func140, Tryz.ntmps140
  by_cases h : a < 0
  · rw [if_pos h]
    go_wp2
    go_ret
    exact ⟨rfl, rfl⟩
  · rw [if_neg h]
    go_wp2
    go_ret
    exact ⟨rfl, rfl⟩
end Go.Proofs.YtaegmenjgjdimaaGreat
