/- This text proves what the program's iterator over the cells of a grid hands out. -/
import Derived.Test.YtcogkglkioejaaaRoundIn
import Derived.Test.YtcogkglkioejaaaRows
import Derived.RangeFuncFrom
namespace Go.Proofs.Ytcogkglkioejaaa
open Go.RowKit Go.Shelf
attribute [local go_sem] Oper.semAt_some

/-- cell k of a grid of n columns, row by row -/
def cellK (n : Nat) (hn : 0 < n) (k : Nat) : Fin n × Fin n := (⟨k % n, Nat.mod_lt _ hn⟩, ⟨k / n % n, Nat.mod_lt _ hn⟩)
def cellsTo (n : Nat) (hn : 0 < n) (k : Nat) : List (Fin n × Fin n) := (List.range k).map (cellK n hn)
theorem cellsTo_length (n : Nat) (hn : 0 < n) (k : Nat) : (cellsTo n hn k).length = k := by simp [cellsTo]
theorem cellsTo_succ (n : Nat) (hn : 0 < n) (k : Nat) : cellsTo n hn (k + 1) = cellsTo n hn k ++ [cellK n hn k] := by simp [cellsTo, List.range_succ]

/-- block B is as it was -/
def KB (B : Nat) (W W' : World) : Prop := W'.heap[B]? = W.heap[B]?
theorem KB.trans {B : Nat} {X Y Z : World} (h : KB B X Y) (k : KB B Y Z) : KB B X Z := Eq.trans k h

theorem cells_val (n : Nat) (m : Nat) (w : World) :
    CallsIn Fence.wide m Try.prog 56 #[.int .i64 n] w fun e w' => e = .returned (.func (.func 76) #[] #[.pointer (some ⟨w.heap.size, 0, none⟩)]) ∧ w' = w.alloc (.cells #[.int .i64 n] 3) := by
  refine callsIn_wide.2 ?_
  have hmf : ∀ w : World, (Instr.makeFunc (.func 76) #[] #[.pointer (some ⟨w.heap.size, 0, none⟩)]).run Try.prog w = .ok (.func (.func 76) #[] #[.pointer (some ⟨w.heap.size, 0, none⟩)]) w := fun _ => rfl
  go_enter Try.func56, Try.ntmps56
  go_wp2
  go_ret
  exact ⟨rfl, rfl⟩

set_option maxRecDepth 100000 in
set_option maxHeartbeats 2000000 in
theorem cells_in (n : Nat) (h0n : 0 < n) (hn' : n ≤ 64) (m : Nat) (l B : Nat) (J Jx : List (Fin n × Fin n) → World → Prop)
    (hJd : ∀ s W, J s W → J s W.drew)
    (hY : ∀ pre x W, J pre W → pre.length < n * n → YieldAt Fence.wide (m - 1) Try.prog l #[.int .i64 (x.1 : Nat), .int .i64 (x.2 : Nat)] W fun e W' =>
      (e = .returned (.bool true) ∧ J (pre ++ [x]) W' ∧ KB B W W') ∨ (e = .returned (.bool false) ∧ Jx (pre ++ [x]) W'))
    (W : World) (hW : W.cell? ⟨B, 0, none⟩ = some (.int .i64 n)) (h0 : J [] W) :
    CallsIn Fence.wide m Try.prog 76 #[.func (.yield l) #[] #[], .pointer (some ⟨B, 0, none⟩)] W fun e W' => (∃ v, e = .returned v) ∧
      ((∃ xs, xs = cellsTo n h0n (n * n) ∧ J xs W') ∨ (∃ pre, True ∧ Jx pre W')) := by
  have hnn : n * n ≤ 4096 := Nat.mul_le_mul hn' hn'
  refine callsIn_of_wp Try.func76 rfl trivial ?_ rfl
  simp only [Try.ntmps76, List.size_toArray, List.length_cons, List.length_nil, Nat.reduceAdd, Nat.reduceSub, Array.replicate_succ, Array.replicate_zero, List.push_toArray, List.append_toArray, List.nil_append, List.cons_append]
  gi_wp2
  gi_loopw [3] (fun i wr => ∃ k : Nat, k ≤ n * n ∧ i = .int .i64 k ∧ J (cellsTo n h0n k) wr ∧ KB B W wr) (fun i _ => n * n - (intOf i).toNat)
  case atStart => exact ⟨0, Nat.zero_le _, rfl, h0, rfl⟩
  case round =>
    obtain ⟨k, hk, rfl, hJs, hnx⟩ := hrel
    have hc : wr.cell? ⟨B, 0, none⟩ = some (.int .i64 n) := (World.cell?_of_block (w := W) (w' := wr) (a := ⟨B, 0, none⟩) hnx).trans hW
    have hmul : (n : Int) * n = ((n * n : Nat) : Int) := by simp
    obtain ⟨N, hN⟩ : ∃ N, n * n = N := ⟨_, rfl⟩
    rw [hN] at hmul hk hnn ⊢
    by_cases hlt : k < N
    · have hne : (n : Int) ≠ 0 := by omega
      have hq : k / n % n = k / n := Nat.mod_eq_of_lt (Nat.div_lt_of_lt_mul (by rw [hN]; exact hlt))
      have hm : k % n < n := Nat.mod_lt _ h0n
      have t1 : Int.tmod (k : Int) n = ((k % n : Nat) : Int) := by rw [Int.tmod_eq_emod_of_nonneg (by omega)]; rfl
      have t2 : Int.tdiv (k : Int) n = ((k / n : Nat) : Int) := by rw [Int.tdiv_eq_ediv_of_nonneg (by omega)]; rfl
      have hd : k / n < n := Nat.div_lt_of_lt_mul (by rw [hN]; exact hlt)
      obtain ⟨r, hr⟩ : ∃ r, k % n = r := ⟨_, rfl⟩
      obtain ⟨d, hdd⟩ : ∃ d, k / n = d := ⟨_, rfl⟩
      obtain ⟨fn, tmps, assign, body, hy, hR⟩ := hY (cellsTo n h0n k) (cellK n h0n k) wr.drew (hJd _ _ hJs) (by rw [cellsTo_length, hN]; exact hlt)
      rw [← cellsTo_succ] at hR
      dsimp only [cellK] at hy
      rw [hq, hr, hdd] at hy
      rw [hr] at t1 hm
      rw [hdd] at t2 hd
      have t3 : IntKind.i64.wrap (d : Int) = (d : Int) := IntWalk.i64_in _ (by omega)
      clear hq hr hdd hJs
      gi_wp2
      have hmx : Try.prog.follows .mixedOrders = true := by kernel_rfl
      have hR2 := RoundIn.mono (R' := fun e W' => ∃ b : Bool, e = .returned (.bool b) ∧ ((b = true ∧ J (cellsTo n h0n (k + 1)) W' ∧ KB B wr.drew W') ∨ (b = false ∧ Jx (cellsTo n h0n (k + 1)) W'))) hR (fun e W' h => by
        rcases h with ⟨rfl, h1, h2⟩ | ⟨rfl, h1⟩
        · exact ⟨true, rfl, .inl ⟨rfl, h1, h2⟩⟩
        · exact ⟨false, rfl, .inr ⟨rfl, h1⟩⟩)
      clear hR
      gi_region_with_o (refine ⟨fun h => by simp [Fence.wide] at h, ?_⟩; refine hR2.mono ?_; rintro e W3 ⟨b, rfl, h3⟩)
      all_goals (try simp only [Act.put, List.getElem_toArray, List.getElem_cons_succ, List.getElem_cons_zero, List.setIfInBounds_toArray, List.set_cons_succ, List.set_cons_zero])
      all_goals clear hR2 hy hY t1 t2 t3
      all_goals rcases h3 with ⟨rfl, h4, h5⟩ | ⟨rfl, h4⟩
      all_goals first
        | (have h6 : KB B W _ := KB.trans (Y := wr.drew) hnx h5
           gi_wp2
           go_roundw
           case rel => exact ⟨k + 1, by omega, by go_num, h4, h6⟩
           case measure => simp [intOf]; omega)
        | (gi_wp2
           refine bodyPost_ret (results_none rfl _ _ _) rfl ?_
           exact ⟨⟨_, rfl⟩, .inr ⟨_, trivial, h4⟩⟩)
    · obtain rfl : k = N := by omega
      gi_wp2
      go_end0
      exact ⟨⟨_, rfl⟩, .inl ⟨_, rfl, by rw [hN]; exact hJs⟩⟩

/-- the contract that the law of the range over a function asks for -/
theorem cells_stops (n : Nat) (h0n : 0 < n) (hn' : n ≤ 64) (m B : Nat) (w : World) (hw0 : B < w.heap.size) (hw : w.cell? ⟨B, 0, none⟩ = some (.int .i64 n)) :
    SeqStopsK Fence.wide m Try.prog 76 #[.pointer (some ⟨B, 0, none⟩)] (fun x : Fin n × Fin n => #[.int .i64 (x.1 : Nat), .int .i64 (x.2 : Nat)]) (KB B)
      (fun xs => xs = cellsTo n h0n (n * n)) (fun _ => True) (n * n) w := fun l J Jx W hW hJ _ hY h0 =>
  cells_in n h0n hn' m l B J Jx (fun s W hs => hJ s W _ none hs ⟨rfl, rfl, rfl, Nat.le_refl _, fun _ _ _ => rfl⟩ (fun r e => by cases e)) hY W ((Below.cell (p := ⟨B, 0, none⟩) hW hw0).trans hw) h0
end Go.Proofs.Ytcogkglkioejaaa
