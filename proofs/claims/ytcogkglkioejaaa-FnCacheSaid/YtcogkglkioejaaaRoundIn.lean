/- This text carries walks of regions over to the body of a range over a function; it speaks of no program. -/
import Derived.Test.YtcogkglkioejaaaPlan
import Derived.RangeFuncNested
import Derived.RangeFuncBound
import Derived.RangeFuncCalls
import Derived.RangeFuncLeaves
import Derived.Shelf.Abstract
import Derived.Shelf.RegionOpen
import Derived.OwnWalkIn
import Derived.TacticsInMore
import Derived.LoopNIn
import Derived.LoopIn
namespace Go.Proofs.Ytcogkglkioejaaa
open Go.RowKit

section
variable {P : Program} {ops : Array Oper} {Q : Exit → Act → World → Prop} {md : Region.Mode} {l n : Nat}

/-- the fence of a round, calls as everywhere -/
abbrev rd (l : Nat) : Fence := Fence.wide.inRound l

theorem round_room (l n : Nat) : (rd l).depth.isSome = true → 1 ≤ n := fun h => by simp [rd, Fence.wide] at h

theorem rows_in {row : String} {args : Array Value} {w : World} {R : Value → World → Prop} (h : Rows P row args w R) : RowsIn (rd l) n P row args w R :=
  fun c cs _ => let ⟨v, w', r, s⟩ := h c cs; ⟨v, w', r, (stepsIn_wide (P := P)).2 s⟩

theorem oper_in {o : Oper} {a : Act} {w : World} {K : Act → World → Prop} (hd : ∀ c, o.op ≠ .defer c) (hl : ¬ LetsOut Q) (h : o.wp P a w K Q ∨ (o.asks P a w ∧ LetsOut Q)) : o.wpIn (rd l) n P a w K Q := by
  rcases h with h | ⟨_, h⟩
  · refine ⟨fun _ _ => trivial, ?_⟩
    rw [show (rd l).round = some l from rfl, Oper.semAt_some l _ _ hd]
    unfold Oper.wp at h
    generalize (execOp a.eval o).run P w = r at h ⊢
    cases r with
    | ok x w' =>
      cases x
      case value v => exact h
      case skip => exact h
      case defer d => exact h
      case enter f args => exact ⟨round_room l n, CallsIn.inRound l ((callsIn_wide (n := n - 1)).2 h)⟩
      case row r args => exact ⟨round_room l n, rows_in h⟩
      all_goals exact (h : False).elim
    | halt x w' =>
      cases x
      all_goals first | exact h | exact (h : False).elim
  · exact (hl h).elim

/-- no operation of the list is a defer statement -/
def noDefer (ops : List Oper) : Bool := ops.all fun o => match o.op with | .defer _ => false | _ => true
theorem noDefer_at {ops : List Oper} (h : noDefer ops = true) {i : Nat} {o : Oper} (ho : ops[i]? = some o) : ∀ c, o.op ≠ .defer c := by
  intro c hc
  have := List.all_eq_true.1 h o (List.mem_of_getElem? ho)
  rw [hc] at this
  cases this

theorem wpAny_in (hd : noDefer ops.toList = true) (hl : ¬ LetsOut Q) : ∀ (fuel : Nat) (listed : Array Bool) (a : Act) (w : World), wpAny P md ops Q fuel listed a w → wpAnyIn (rd l) n P md ops Q fuel listed a w
  | 0, _, _, _, h => h
  | fuel + 1, listed, a, w, h => by
    refine ⟨h.1, fun i hi => ?_⟩
    have h2 := wpOp_mono (fun a' w' h' => wpAny_in hd hl fuel _ a' w' h') (h.2 i hi)
    unfold wpOp at h2
    unfold wpOpIn
    cases ho : ops[i]? with
    | none => rw [ho] at h2; exact h2
    | some o =>
      rw [ho] at h2
      simp only at h2 ⊢
      split
      · rename_i hw
        rw [if_pos hw] at h2
        exact oper_in (noDefer_at (i := i) hd (by simpa using ho)) hl h2
      · rename_i hw
        rw [if_neg hw] at h2
        exact ⟨fun _ _ => trivial, h2⟩

theorem wpList_in (hl : ¬ LetsOut Q) : ∀ (rest : List Oper) (a : Act) (w : World), noDefer rest = true → wpList P ops Q rest a w → wpListIn (rd l) n P ops Q rest a w
  | [], _, _, _, h => h
  | o :: rest, a, w, hd, h => by
    have hd2 : noDefer rest = true := by
      unfold noDefer at hd ⊢
      rw [List.all_cons, Bool.and_eq_true] at hd
      exact hd.2
    unfold wpList at h
    unfold wpListIn
    split
    · rename_i hw
      rw [if_pos hw] at h
      refine oper_in (noDefer_at (i := 0) hd rfl) hl (h.imp (fun k => ?_) id)
      exact Oper.wp_mono (fun a' w' h' => wpList_in hl rest a' w' hd2 h') k
    · rename_i hw
      rw [if_neg hw] at h
      exact ⟨fun _ _ => trivial, wpList_in hl rest _ _ hd2 h⟩

theorem noPanic_out (hl : ¬ LetsOut Q) : ¬ LetsOut (NoPanic Q) := fun ⟨a, w, h⟩ => hl ⟨a, w, h⟩

/-- a region that draws its order, in the body of a range over a function -/
theorem wpIn_region_Z {id : Nat} {a : Act} {w : World} {l' : List Oper} (z N : Nat) (hm : P.follows .mixedOrders = true) (hd : noDefer l' = true) (hl : ¬ LetsOut Q)
    (h : wpZ P l'.toArray (NoPanic Q) N w z l'.length (Array.replicate l'.length false) a w.drew) : (Code.region id l'.toArray true).wpIn (rd l) n P Q a w := by
  refine Go.wpIn_mono (wpIn_region_any hm (wpAny_in (by simpa using hd) (noPanic_out hl) _ _ _ _ ?_)) NoPanic.imp
  have := wpAny_of_Z _ _ _ _ h
  simpa using this
/-- one that keeps the order of its text -/
theorem wpIn_region_plain {id : Nat} {a : Act} {w : World} {l' : List Oper} (hd : noDefer l' = true) (hl : ¬ LetsOut Q) (h : wpList P l'.toArray Q l' a w) : (Code.region id l'.toArray false).wpIn (rd l) n P Q a w :=
  wpIn_region_lit (wpList_in hl _ _ _ hd h)
theorem then_out {K : Act → World → Prop} (hl : ¬ LetsOut Q) : ¬ LetsOut (Exit.then K Q) := fun ⟨a, w, h⟩ => hl ⟨a, w, h⟩
end
end Go.Proofs.Ytcogkglkioejaaa
