/-
  No cell of these rows narrows 'for every input' (looked for: loops, veiled, ifaces, maps, wideKeys, modest, calm, conditions, laid).
  DERIVED. THE GIVEN ROWS OF THIS SEAT. 3 by the template 'for every input the law returns true; each argument reads behind the call as it read before'; 0 by the template 'total and deterministic' (their statements: YtaegmenjgjdimaaGreatTotals.lean).
  GIVEN WITH THE SEED: the statements are not yours to turn. If you find one false, say at which input.
  Laid BY PROGRAM, IN A SANDBOX (cutbox-rows.mjs): the forced cells as the released guide's own fill.sh prints them over the translation 74ee03dc2b1b49cd… (all of the seat's roots in one cut). By AI agents, Wed Nov 11 2026. No macro, syntax, notation, axiom, sorry.
-/
import Derived.Test.YtaegmenjgjdimaaGreatChecked
import GoSem.Claim
import GoSem.ClaimJoined
import GoSem.ClaimMapViews
import Derived.JoinedTies
import Derived.KernelRfl
namespace Go.Proofs.YtaegmenjgjdimaaGreat
/- THE CELL 'sum', in the pinned program and in every row, IS THE sha256 OF THE DUMP (.gsa) THAT YtaegmenjgjdimaaGreatProg.lean LOADS. Nothing in Lean hashes anything: it is a label: what it is worth is what the hold of that sum in a sandbox is worth. -/
noncomputable def Tryz.pinned : Pinned := { name := "ytaegmenjgjdimaagreat", sum := "74ee03dc2b1b49cded56a164cf3ad357d3b4cc044c6aca2b0ce5b6d6d646a60f", checked := Tryz.checked }
namespace Rows
def none {H : Type} : Left H := { results := [], args := [] }

/-- 'laws.FnUniform': WHATEVER THE INPUT: true; the input reads as it did. -/
def fnUniformSpec : ChangeSpec := { name := "fnUniform", fn := fun _ => fun
  | [d] => { results := [.lit (.bool true)], args := [d] }
  | _ => none }
def fnUniformRow : OpenClaim := { program := "ytaegmenjgjdimaagreat", sum := "74ee03dc2b1b49cded56a164cf3ad357d3b4cc044c6aca2b0ce5b6d6d646a60f", func := "loop.example/g00809/laws.FnUniform", spec := "fnUniform", unfollowed := true, recurses := true, apart := false }
def FnUniformSaid : Prop := fnUniformRow.holds Tryz.pinned (OpenSpec.ofChange fnUniformSpec)

/-- ITS FALSE NEIGHBOUR: 'it returns false'. Refute it at one input. -/
def fnUniformWrong : ChangeSpec := { name := "fnUniform", fn := fun _ => fun
  | [d] => { results := [.lit (.bool false)], args := [d] }
  | _ => none }
def FnUniformWrongFalsely : Prop := fnUniformRow.holds Tryz.pinned (OpenSpec.ofChange fnUniformWrong)

/-- 'laws.FnGridCode': WHATEVER THE INPUT: true; the input reads as it did. -/
def fnGridCodeSpec : ChangeSpec := { name := "fnGridCode", fn := fun _ => fun
  | [d] => { results := [.lit (.bool true)], args := [d] }
  | _ => none }
def fnGridCodeRow : OpenClaim := { program := "ytaegmenjgjdimaagreat", sum := "74ee03dc2b1b49cded56a164cf3ad357d3b4cc044c6aca2b0ce5b6d6d646a60f", func := "loop.example/g00809/laws.FnGridCode", spec := "fnGridCode", unfollowed := true, recurses := true, apart := false }
def FnGridCodeSaid : Prop := fnGridCodeRow.holds Tryz.pinned (OpenSpec.ofChange fnGridCodeSpec)

/-- ITS FALSE NEIGHBOUR: 'it returns false'. Refute it at one input. -/
def fnGridCodeWrong : ChangeSpec := { name := "fnGridCode", fn := fun _ => fun
  | [d] => { results := [.lit (.bool false)], args := [d] }
  | _ => none }
def FnGridCodeWrongFalsely : Prop := fnGridCodeRow.holds Tryz.pinned (OpenSpec.ofChange fnGridCodeWrong)

/-- 'laws.FnOptimize': WHATEVER THE INPUT: true; the input reads as it did. -/
def fnOptimizeSpec : ChangeSpec := { name := "fnOptimize", fn := fun _ => fun
  | [d] => { results := [.lit (.bool true)], args := [d] }
  | _ => none }
def fnOptimizeRow : OpenClaim := { program := "ytaegmenjgjdimaagreat", sum := "74ee03dc2b1b49cded56a164cf3ad357d3b4cc044c6aca2b0ce5b6d6d646a60f", func := "loop.example/g00809/laws.FnOptimize", spec := "fnOptimize", inPlace := ["slices.overlaps[loop.example/g00809/impl.Instruction]"], unfollowed := true, recurses := true, apart := false }
def FnOptimizeSaid : Prop := fnOptimizeRow.holds Tryz.pinned (OpenSpec.ofChange fnOptimizeSpec)

/-- ITS FALSE NEIGHBOUR: 'it returns false'. Refute it at one input. -/
def fnOptimizeWrong : ChangeSpec := { name := "fnOptimize", fn := fun _ => fun
  | [d] => { results := [.lit (.bool false)], args := [d] }
  | _ => none }
def FnOptimizeWrongFalsely : Prop := fnOptimizeRow.holds Tryz.pinned (OpenSpec.ofChange fnOptimizeWrong)

/- THE SECOND FORM. 'bulk': how many values and letters a reading holds, each counted each time it is reached (what is shared counts as often as it is met; a slice's spare places count too). A statement '..UptoSaid' is the law's where the arguments, and the package variables that the reading takes, are together of bulk at most 1048576: NARROWER than '..Said'. Prove '..Said' where nothing that the law and all that it calls make is longer than what came in: it says more and counts as full. Else prove '..UptoSaid'. A law counts once. -/
mutual
def uptoBulk {H : Type} : DataW H → Nat
  | .lit (.string bytes) => bytes.length + 1
  | .lit _ => 1
  | .nil => 1
  | .ptr d => uptoBulk d + 1
  | .slice elems spare => uptoBulkAll elems + uptoBulkAll spare + 1
  | .agg parts => uptoBulkAll parts + 1
  | .iface _ d => uptoBulk d + 1
  | .map entries => uptoBulkEntries entries + 1
  | .held _ => 1
def uptoBulkAll {H : Type} : List (DataW H) → Nat
  | [] => 0
  | d :: r => uptoBulk d + uptoBulkAll r
def uptoBulkEntries {H : Type} : List (Lit × DataW H) → Nat
  | [] => 0
  | x :: r => uptoBulkEntry x + uptoBulkEntries r
def uptoBulkEntry {H : Type} : Lit × DataW H → Nat
  | (.string bytes, d) => bytes.length + uptoBulk d + 1
  | (_, d) => uptoBulk d + 1
 end
def uptoSmall : (H : Type) → List (DataW H) → Bool := fun _ ds => decide (uptoBulkAll ds ≤ 1048576)
def OpenSpec.upto (s : _root_.Go.ChangeSpec) : _root_.Go.OpenSpec := { _root_.Go.OpenSpec.ofChange s with cond := some uptoSmall }

/-- 'laws.FnUniform', WHERE WHAT IT READS IS OF BULK AT MOST 1048576: true; the input reads as it did. -/
def fnUniformUptoRow : OpenClaim := { program := "ytaegmenjgjdimaagreat", sum := "74ee03dc2b1b49cded56a164cf3ad357d3b4cc044c6aca2b0ce5b6d6d646a60f", func := "loop.example/g00809/laws.FnUniform", spec := "fnUniform", unfollowed := true, recurses := true, apart := false, narrowed := true }
def FnUniformUptoSaid : Prop := fnUniformUptoRow.holds Tryz.pinned (OpenSpec.upto fnUniformSpec)

/-- 'laws.FnGridCode', WHERE WHAT IT READS IS OF BULK AT MOST 1048576: true; the input reads as it did. -/
def fnGridCodeUptoRow : OpenClaim := { program := "ytaegmenjgjdimaagreat", sum := "74ee03dc2b1b49cded56a164cf3ad357d3b4cc044c6aca2b0ce5b6d6d646a60f", func := "loop.example/g00809/laws.FnGridCode", spec := "fnGridCode", unfollowed := true, recurses := true, apart := false, narrowed := true }
def FnGridCodeUptoSaid : Prop := fnGridCodeUptoRow.holds Tryz.pinned (OpenSpec.upto fnGridCodeSpec)

/-- 'laws.FnOptimize', WHERE WHAT IT READS IS OF BULK AT MOST 1048576: true; the input reads as it did. -/
def fnOptimizeUptoRow : OpenClaim := { program := "ytaegmenjgjdimaagreat", sum := "74ee03dc2b1b49cded56a164cf3ad357d3b4cc044c6aca2b0ce5b6d6d646a60f", func := "loop.example/g00809/laws.FnOptimize", spec := "fnOptimize", inPlace := ["slices.overlaps[loop.example/g00809/impl.Instruction]"], unfollowed := true, recurses := true, apart := false, narrowed := true }
def FnOptimizeUptoSaid : Prop := fnOptimizeUptoRow.holds Tryz.pinned (OpenSpec.upto fnOptimizeSpec)

end Rows
end Go.Proofs.YtaegmenjgjdimaaGreat
