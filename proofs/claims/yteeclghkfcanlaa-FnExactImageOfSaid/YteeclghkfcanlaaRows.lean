/-
  No cell of these rows narrows 'for every input' (looked for: loops, veiled, ifaces, maps, wideKeys, modest, calm, conditions, laid).
  DERIVED. THE GIVEN ROWS OF THIS SEAT. 5 by the template 'for every input the law returns true; each argument reads behind the call as it read before'; 0 by the template 'total and deterministic' (their statements: YteeclghkfcanlaaTotals.lean).
  GIVEN WITH THE SEED: the statements are not yours to turn. If you find one false, say at which input.
  Laid BY PROGRAM, IN A SANDBOX (cutbox-rows.mjs): the forced cells as the released guide's own fill.sh prints them over the translation b6e9e1671d12bfd5… (all of the seat's roots in one cut). By AI agents, Wed Nov 11 2026. No macro, syntax, notation, axiom, sorry.
-/
import Derived.Test.YteeclghkfcanlaaChecked
import GoSem.Claim
import GoSem.ClaimJoined
import GoSem.ClaimMapViews
import Derived.JoinedTies
import Derived.KernelRfl
namespace Go.Proofs.Yteeclghkfcanlaa
/- THE CELL 'sum', in the pinned program and in every row, IS THE sha256 OF THE DUMP (.gsa) THAT YteeclghkfcanlaaProg.lean LOADS. Nothing in Lean hashes anything: it is a label: what it is worth is what the hold of that sum in a sandbox is worth. -/
noncomputable def Try.pinned : Pinned := { name := "yteeclghkfcanlaa", sum := "b6e9e1671d12bfd55c06b0994089c9b3e6905825ef2751eb257a4400c391c981", checked := Try.checked }
namespace Rows
def none {H : Type} : Left H := { results := [], args := [] }

/-- 'laws.FnExactApplyAll': WHATEVER THE INPUT: true; the input reads as it did. -/
def fnExactApplyAllSpec : ChangeSpec := { name := "fnExactApplyAll", fn := fun _ => fun
  | [d1, d2] => { results := [.lit (.bool true)], args := [d1, d2] }
  | _ => none }
def fnExactApplyAllRow : OpenClaim := { program := "yteeclghkfcanlaa", sum := "b6e9e1671d12bfd55c06b0994089c9b3e6905825ef2751eb257a4400c391c981", func := "loop.example/g00809/laws.FnExactApplyAll", spec := "fnExactApplyAll", unfollowed := true, recurses := true, plainKeys := false, apart := false }
def FnExactApplyAllSaid : Prop := fnExactApplyAllRow.holds Try.pinned (OpenSpec.ofChange fnExactApplyAllSpec)

/-- ITS FALSE NEIGHBOUR: 'it returns false'. Refute it at one input. -/
def fnExactApplyAllWrong : ChangeSpec := { name := "fnExactApplyAll", fn := fun _ => fun
  | [d1, d2] => { results := [.lit (.bool false)], args := [d1, d2] }
  | _ => none }
def FnExactApplyAllWrongFalsely : Prop := fnExactApplyAllRow.holds Try.pinned (OpenSpec.ofChange fnExactApplyAllWrong)

/-- 'laws.FnExactImageOf': WHATEVER THE INPUT: true; the input reads as it did. -/
def fnExactImageOfSpec : ChangeSpec := { name := "fnExactImageOf", fn := fun _ => fun
  | [d] => { results := [.lit (.bool true)], args := [d] }
  | _ => none }
def fnExactImageOfRow : OpenClaim := { program := "yteeclghkfcanlaa", sum := "b6e9e1671d12bfd55c06b0994089c9b3e6905825ef2751eb257a4400c391c981", func := "loop.example/g00809/laws.FnExactImageOf", spec := "fnExactImageOf", plainKeys := false, apart := false }
def FnExactImageOfSaid : Prop := fnExactImageOfRow.holds Try.pinned (OpenSpec.ofChange fnExactImageOfSpec)

/-- ITS FALSE NEIGHBOUR: 'it returns false'. Refute it at one input. -/
def fnExactImageOfWrong : ChangeSpec := { name := "fnExactImageOf", fn := fun _ => fun
  | [d] => { results := [.lit (.bool false)], args := [d] }
  | _ => none }
def FnExactImageOfWrongFalsely : Prop := fnExactImageOfRow.holds Try.pinned (OpenSpec.ofChange fnExactImageOfWrong)

/-- 'laws.FnExactTransformPatch': WHATEVER THE INPUT: true; the input reads as it did. -/
def fnExactTransformPatchSpec : ChangeSpec := { name := "fnExactTransformPatch", fn := fun _ => fun
  | [d1, d2] => { results := [.lit (.bool true)], args := [d1, d2] }
  | _ => none }
def fnExactTransformPatchRow : OpenClaim := { program := "yteeclghkfcanlaa", sum := "b6e9e1671d12bfd55c06b0994089c9b3e6905825ef2751eb257a4400c391c981", func := "loop.example/g00809/laws.FnExactTransformPatch", spec := "fnExactTransformPatch", unfollowed := true, recurses := true, plainKeys := false, apart := false }
def FnExactTransformPatchSaid : Prop := fnExactTransformPatchRow.holds Try.pinned (OpenSpec.ofChange fnExactTransformPatchSpec)

/-- ITS FALSE NEIGHBOUR: 'it returns false'. Refute it at one input. -/
def fnExactTransformPatchWrong : ChangeSpec := { name := "fnExactTransformPatch", fn := fun _ => fun
  | [d1, d2] => { results := [.lit (.bool false)], args := [d1, d2] }
  | _ => none }
def FnExactTransformPatchWrongFalsely : Prop := fnExactTransformPatchRow.holds Try.pinned (OpenSpec.ofChange fnExactTransformPatchWrong)

/-- 'laws.FnExactTilesFor': WHATEVER THE INPUT: true; the input reads as it did. -/
def fnExactTilesForSpec : ChangeSpec := { name := "fnExactTilesFor", fn := fun _ => fun
  | [d1, d2, d3, d4] => { results := [.lit (.bool true)], args := [d1, d2, d3, d4] }
  | _ => none }
def fnExactTilesForRow : OpenClaim := { program := "yteeclghkfcanlaa", sum := "b6e9e1671d12bfd55c06b0994089c9b3e6905825ef2751eb257a4400c391c981", func := "loop.example/g00809/laws.FnExactTilesFor", spec := "fnExactTilesFor", unfollowed := true, recurses := true, plainKeys := false, apart := false }
def FnExactTilesForSaid : Prop := fnExactTilesForRow.holds Try.pinned (OpenSpec.ofChange fnExactTilesForSpec)

/-- ITS FALSE NEIGHBOUR: 'it returns false'. Refute it at one input. -/
def fnExactTilesForWrong : ChangeSpec := { name := "fnExactTilesFor", fn := fun _ => fun
  | [d1, d2, d3, d4] => { results := [.lit (.bool false)], args := [d1, d2, d3, d4] }
  | _ => none }
def FnExactTilesForWrongFalsely : Prop := fnExactTilesForRow.holds Try.pinned (OpenSpec.ofChange fnExactTilesForWrong)

/-- 'laws.FnCache': WHATEVER THE INPUT: true; the input reads as it did. -/
def fnCacheSpec : ChangeSpec := { name := "fnCache", fn := fun _ => fun
  | [d] => { results := [.lit (.bool true)], args := [d] }
  | _ => none }
def fnCacheRow : OpenClaim := { program := "yteeclghkfcanlaa", sum := "b6e9e1671d12bfd55c06b0994089c9b3e6905825ef2751eb257a4400c391c981", func := "loop.example/g00809/laws.FnCache", spec := "fnCache", unfollowed := true, recurses := true, plainKeys := false, apart := false }
def FnCacheSaid : Prop := fnCacheRow.holds Try.pinned (OpenSpec.ofChange fnCacheSpec)

/-- ITS FALSE NEIGHBOUR: 'it returns false'. Refute it at one input. -/
def fnCacheWrong : ChangeSpec := { name := "fnCache", fn := fun _ => fun
  | [d] => { results := [.lit (.bool false)], args := [d] }
  | _ => none }
def FnCacheWrongFalsely : Prop := fnCacheRow.holds Try.pinned (OpenSpec.ofChange fnCacheWrong)

/- THE SECOND FORM. 'bulk': how many values and letters a reading holds, each counted each time it is reached (what is shared counts as often as it is met; a slice's spare places count too). A statement '..UptoSaid' is the law's where the arguments, and the package variables that the reading takes, are together of bulk at most 1048576: NARROWER than '..Said'. Prove '..Said' where nothing that the law and all that it calls make is longer than what came in: it says more and counts as full. Else prove '..UptoSaid'. A law counts once. -/
mutual
def uptoBulk {H : Type} : DataW H → Nat
  | .lit (.string bytes) => bytes.length + 1
  | .lit _ => 1
  | .nil => 1
  | .ptr d => uptoBulk d + 1
  | .slice elems spare => uptoBulkAll elems + uptoBulkAll spare + 1
  | .agg parts => uptoBulkAll parts + 1
  | .iface _ d => uptoBulk d + 1
  | .map entries => uptoBulkEntries entries + 1
  | .held _ => 1
def uptoBulkAll {H : Type} : List (DataW H) → Nat
  | [] => 0
  | d :: r => uptoBulk d + uptoBulkAll r
def uptoBulkEntries {H : Type} : List (Lit × DataW H) → Nat
  | [] => 0
  | x :: r => uptoBulkEntry x + uptoBulkEntries r
def uptoBulkEntry {H : Type} : Lit × DataW H → Nat
  | (.string bytes, d) => bytes.length + uptoBulk d + 1
  | (_, d) => uptoBulk d + 1
 end
def uptoSmall : (H : Type) → List (DataW H) → Bool := fun _ ds => decide (uptoBulkAll ds ≤ 1048576)
def OpenSpec.upto (s : _root_.Go.ChangeSpec) : _root_.Go.OpenSpec := { _root_.Go.OpenSpec.ofChange s with cond := some uptoSmall }

/-- 'laws.FnExactApplyAll', WHERE WHAT IT READS IS OF BULK AT MOST 1048576: true; the input reads as it did. -/
def fnExactApplyAllUptoRow : OpenClaim := { program := "yteeclghkfcanlaa", sum := "b6e9e1671d12bfd55c06b0994089c9b3e6905825ef2751eb257a4400c391c981", func := "loop.example/g00809/laws.FnExactApplyAll", spec := "fnExactApplyAll", unfollowed := true, recurses := true, plainKeys := false, apart := false, narrowed := true }
def FnExactApplyAllUptoSaid : Prop := fnExactApplyAllUptoRow.holds Try.pinned (OpenSpec.upto fnExactApplyAllSpec)

/-- 'laws.FnExactImageOf', WHERE WHAT IT READS IS OF BULK AT MOST 1048576: true; the input reads as it did. -/
def fnExactImageOfUptoRow : OpenClaim := { program := "yteeclghkfcanlaa", sum := "b6e9e1671d12bfd55c06b0994089c9b3e6905825ef2751eb257a4400c391c981", func := "loop.example/g00809/laws.FnExactImageOf", spec := "fnExactImageOf", plainKeys := false, apart := false, narrowed := true }
def FnExactImageOfUptoSaid : Prop := fnExactImageOfUptoRow.holds Try.pinned (OpenSpec.upto fnExactImageOfSpec)

/-- 'laws.FnExactTransformPatch', WHERE WHAT IT READS IS OF BULK AT MOST 1048576: true; the input reads as it did. -/
def fnExactTransformPatchUptoRow : OpenClaim := { program := "yteeclghkfcanlaa", sum := "b6e9e1671d12bfd55c06b0994089c9b3e6905825ef2751eb257a4400c391c981", func := "loop.example/g00809/laws.FnExactTransformPatch", spec := "fnExactTransformPatch", unfollowed := true, recurses := true, plainKeys := false, apart := false, narrowed := true }
def FnExactTransformPatchUptoSaid : Prop := fnExactTransformPatchUptoRow.holds Try.pinned (OpenSpec.upto fnExactTransformPatchSpec)

/-- 'laws.FnExactTilesFor', WHERE WHAT IT READS IS OF BULK AT MOST 1048576: true; the input reads as it did. -/
def fnExactTilesForUptoRow : OpenClaim := { program := "yteeclghkfcanlaa", sum := "b6e9e1671d12bfd55c06b0994089c9b3e6905825ef2751eb257a4400c391c981", func := "loop.example/g00809/laws.FnExactTilesFor", spec := "fnExactTilesFor", unfollowed := true, recurses := true, plainKeys := false, apart := false, narrowed := true }
def FnExactTilesForUptoSaid : Prop := fnExactTilesForUptoRow.holds Try.pinned (OpenSpec.upto fnExactTilesForSpec)

/-- 'laws.FnCache', WHERE WHAT IT READS IS OF BULK AT MOST 1048576: true; the input reads as it did. -/
def fnCacheUptoRow : OpenClaim := { program := "yteeclghkfcanlaa", sum := "b6e9e1671d12bfd55c06b0994089c9b3e6905825ef2751eb257a4400c391c981", func := "loop.example/g00809/laws.FnCache", spec := "fnCache", unfollowed := true, recurses := true, plainKeys := false, apart := false, narrowed := true }
def FnCacheUptoSaid : Prop := fnCacheUptoRow.holds Try.pinned (OpenSpec.upto fnCacheSpec)

end Rows
end Go.Proofs.Yteeclghkfcanlaa
