/-
  No cell of these rows narrows 'for every input' (looked for: loops, veiled, ifaces, maps, wideKeys, modest, calm, conditions, laid).
  DERIVED. THE GIVEN ROWS OF THIS SEAT. 6 by the template 'for every input the law returns true; each argument reads behind the call as it read before'; 0 by the template 'total and deterministic' (their statements: YtllaghphdgbmeaaTotals.lean).
  GIVEN WITH THE SEED: the statements are not yours to turn. If you find one false, say at which input.
  Laid BY PROGRAM, IN A SANDBOX (cutbox-rows.mjs): the forced cells as the released guide's own fill.sh prints them over the translation 383e9937be7a7017… (all of the seat's roots in one cut). By AI agents, Wed Nov 11 2026. No macro, syntax, notation, axiom, sorry.
-/
import Derived.Test.YtllaghphdgbmeaaChecked
import GoSem.Claim
import GoSem.ClaimJoined
import GoSem.ClaimMapViews
import Derived.JoinedTies
import Derived.KernelRfl
namespace Go.Proofs.Ytllaghphdgbmeaa
/- THE CELL 'sum', in the pinned program and in every row, IS THE sha256 OF THE DUMP (.gsa) THAT YtllaghphdgbmeaaProg.lean LOADS. Nothing in Lean hashes anything: it is a label: what it is worth is what the hold of that sum in a sandbox is worth. -/
noncomputable def Try.pinned : Pinned := { name := "ytllaghphdgbmeaa", sum := "383e9937be7a701793b36b088d5cfb56172cdf45167f8449a52726c3a8179b38", checked := Try.checked }
namespace Rows
def none {H : Type} : Left H := { results := [], args := [] }

/-- 'laws.FnExactNewConsole': WHATEVER THE INPUT: true; the input reads as it did. -/
def fnExactNewConsoleSpec : ChangeSpec := { name := "fnExactNewConsole", fn := fun _ => fun
  | [] => { results := [.lit (.bool true)], args := [] }
  | _ => none }
def fnExactNewConsoleRow : OpenClaim := { program := "ytllaghphdgbmeaa", sum := "383e9937be7a701793b36b088d5cfb56172cdf45167f8449a52726c3a8179b38", func := "loop.example/g00809/laws.FnExactNewConsole", spec := "fnExactNewConsole", apart := false }
def FnExactNewConsoleSaid : Prop := fnExactNewConsoleRow.holds Try.pinned (OpenSpec.ofChange fnExactNewConsoleSpec)

/-- ITS FALSE NEIGHBOUR: 'it returns false'. Refute it at one input. -/
def fnExactNewConsoleWrong : ChangeSpec := { name := "fnExactNewConsole", fn := fun _ => fun
  | [] => { results := [.lit (.bool false)], args := [] }
  | _ => none }
def FnExactNewConsoleWrongFalsely : Prop := fnExactNewConsoleRow.holds Try.pinned (OpenSpec.ofChange fnExactNewConsoleWrong)

/-- 'laws.FnExactHalfTexture': WHATEVER THE INPUT: true; the input reads as it did. -/
def fnExactHalfTextureSpec : ChangeSpec := { name := "fnExactHalfTexture", fn := fun _ => fun
  | [d] => { results := [.lit (.bool true)], args := [d] }
  | _ => none }
def fnExactHalfTextureRow : OpenClaim := { program := "ytllaghphdgbmeaa", sum := "383e9937be7a701793b36b088d5cfb56172cdf45167f8449a52726c3a8179b38", func := "loop.example/g00809/laws.FnExactHalfTexture", spec := "fnExactHalfTexture", apart := false }
def FnExactHalfTextureSaid : Prop := fnExactHalfTextureRow.holds Try.pinned (OpenSpec.ofChange fnExactHalfTextureSpec)

/-- ITS FALSE NEIGHBOUR: 'it returns false'. Refute it at one input. -/
def fnExactHalfTextureWrong : ChangeSpec := { name := "fnExactHalfTexture", fn := fun _ => fun
  | [d] => { results := [.lit (.bool false)], args := [d] }
  | _ => none }
def FnExactHalfTextureWrongFalsely : Prop := fnExactHalfTextureRow.holds Try.pinned (OpenSpec.ofChange fnExactHalfTextureWrong)

/-- 'laws.FnExactMipLevel': WHATEVER THE INPUT: true; the input reads as it did. -/
def fnExactMipLevelSpec : ChangeSpec := { name := "fnExactMipLevel", fn := fun _ => fun
  | [d1, d2] => { results := [.lit (.bool true)], args := [d1, d2] }
  | _ => none }
def fnExactMipLevelRow : OpenClaim := { program := "ytllaghphdgbmeaa", sum := "383e9937be7a701793b36b088d5cfb56172cdf45167f8449a52726c3a8179b38", func := "loop.example/g00809/laws.FnExactMipLevel", spec := "fnExactMipLevel", apart := false }
def FnExactMipLevelSaid : Prop := fnExactMipLevelRow.holds Try.pinned (OpenSpec.ofChange fnExactMipLevelSpec)

/-- ITS FALSE NEIGHBOUR: 'it returns false'. Refute it at one input. -/
def fnExactMipLevelWrong : ChangeSpec := { name := "fnExactMipLevel", fn := fun _ => fun
  | [d1, d2] => { results := [.lit (.bool false)], args := [d1, d2] }
  | _ => none }
def FnExactMipLevelWrongFalsely : Prop := fnExactMipLevelRow.holds Try.pinned (OpenSpec.ofChange fnExactMipLevelWrong)

/-- 'laws.FnExactTileOf': WHATEVER THE INPUT: true; the input reads as it did. -/
def fnExactTileOfSpec : ChangeSpec := { name := "fnExactTileOf", fn := fun _ => fun
  | [d1, d2, d3, d4] => { results := [.lit (.bool true)], args := [d1, d2, d3, d4] }
  | _ => none }
def fnExactTileOfRow : OpenClaim := { program := "ytllaghphdgbmeaa", sum := "383e9937be7a701793b36b088d5cfb56172cdf45167f8449a52726c3a8179b38", func := "loop.example/g00809/laws.FnExactTileOf", spec := "fnExactTileOf", apart := false }
def FnExactTileOfSaid : Prop := fnExactTileOfRow.holds Try.pinned (OpenSpec.ofChange fnExactTileOfSpec)

/-- ITS FALSE NEIGHBOUR: 'it returns false'. Refute it at one input. -/
def fnExactTileOfWrong : ChangeSpec := { name := "fnExactTileOf", fn := fun _ => fun
  | [d1, d2, d3, d4] => { results := [.lit (.bool false)], args := [d1, d2, d3, d4] }
  | _ => none }
def FnExactTileOfWrongFalsely : Prop := fnExactTileOfRow.holds Try.pinned (OpenSpec.ofChange fnExactTileOfWrong)

/-- 'laws.FnExactApplyAll': WHATEVER THE INPUT: true; the input reads as it did. -/
def fnExactApplyAllSpec : ChangeSpec := { name := "fnExactApplyAll", fn := fun _ => fun
  | [d1, d2] => { results := [.lit (.bool true)], args := [d1, d2] }
  | _ => none }
def fnExactApplyAllRow : OpenClaim := { program := "ytllaghphdgbmeaa", sum := "383e9937be7a701793b36b088d5cfb56172cdf45167f8449a52726c3a8179b38", func := "loop.example/g00809/laws.FnExactApplyAll", spec := "fnExactApplyAll", unfollowed := true, recurses := true, apart := false }
def FnExactApplyAllSaid : Prop := fnExactApplyAllRow.holds Try.pinned (OpenSpec.ofChange fnExactApplyAllSpec)

/-- ITS FALSE NEIGHBOUR: 'it returns false'. Refute it at one input. -/
def fnExactApplyAllWrong : ChangeSpec := { name := "fnExactApplyAll", fn := fun _ => fun
  | [d1, d2] => { results := [.lit (.bool false)], args := [d1, d2] }
  | _ => none }
def FnExactApplyAllWrongFalsely : Prop := fnExactApplyAllRow.holds Try.pinned (OpenSpec.ofChange fnExactApplyAllWrong)

/-- 'laws.FnExactLookup': WHATEVER THE INPUT: true; the input reads as it did. -/
def fnExactLookupSpec : ChangeSpec := { name := "fnExactLookup", fn := fun _ => fun
  | [d1, d2, d3, d4] => { results := [.lit (.bool true)], args := [d1, d2, d3, d4] }
  | _ => none }
def fnExactLookupRow : OpenClaim := { program := "ytllaghphdgbmeaa", sum := "383e9937be7a701793b36b088d5cfb56172cdf45167f8449a52726c3a8179b38", func := "loop.example/g00809/laws.FnExactLookup", spec := "fnExactLookup", apart := false }
def FnExactLookupSaid : Prop := fnExactLookupRow.holds Try.pinned (OpenSpec.ofChange fnExactLookupSpec)

/-- ITS FALSE NEIGHBOUR: 'it returns false'. Refute it at one input. -/
def fnExactLookupWrong : ChangeSpec := { name := "fnExactLookup", fn := fun _ => fun
  | [d1, d2, d3, d4] => { results := [.lit (.bool false)], args := [d1, d2, d3, d4] }
  | _ => none }
def FnExactLookupWrongFalsely : Prop := fnExactLookupRow.holds Try.pinned (OpenSpec.ofChange fnExactLookupWrong)

/- THE SECOND FORM. 'bulk': how many values and letters a reading holds, each counted each time it is reached (what is shared counts as often as it is met; a slice's spare places count too). A statement '..UptoSaid' is the law's where the arguments, and the package variables that the reading takes, are together of bulk at most 1048576: NARROWER than '..Said'. Prove '..Said' where nothing that the law and all that it calls make is longer than what came in: it says more and counts as full. Else prove '..UptoSaid'. A law counts once. -/
mutual
def uptoBulk {H : Type} : DataW H → Nat
  | .lit (.string bytes) => bytes.length + 1
  | .lit _ => 1
  | .nil => 1
  | .ptr d => uptoBulk d + 1
  | .slice elems spare => uptoBulkAll elems + uptoBulkAll spare + 1
  | .agg parts => uptoBulkAll parts + 1
  | .iface _ d => uptoBulk d + 1
  | .map entries => uptoBulkEntries entries + 1
  | .held _ => 1
def uptoBulkAll {H : Type} : List (DataW H) → Nat
  | [] => 0
  | d :: r => uptoBulk d + uptoBulkAll r
def uptoBulkEntries {H : Type} : List (Lit × DataW H) → Nat
  | [] => 0
  | x :: r => uptoBulkEntry x + uptoBulkEntries r
def uptoBulkEntry {H : Type} : Lit × DataW H → Nat
  | (.string bytes, d) => bytes.length + uptoBulk d + 1
  | (_, d) => uptoBulk d + 1
 end
def uptoSmall : (H : Type) → List (DataW H) → Bool := fun _ ds => decide (uptoBulkAll ds ≤ 1048576)
def OpenSpec.upto (s : _root_.Go.ChangeSpec) : _root_.Go.OpenSpec := { _root_.Go.OpenSpec.ofChange s with cond := some uptoSmall }

/-- 'laws.FnExactNewConsole', WHERE WHAT IT READS IS OF BULK AT MOST 1048576: true; the input reads as it did. -/
def fnExactNewConsoleUptoRow : OpenClaim := { program := "ytllaghphdgbmeaa", sum := "383e9937be7a701793b36b088d5cfb56172cdf45167f8449a52726c3a8179b38", func := "loop.example/g00809/laws.FnExactNewConsole", spec := "fnExactNewConsole", apart := false, narrowed := true }
def FnExactNewConsoleUptoSaid : Prop := fnExactNewConsoleUptoRow.holds Try.pinned (OpenSpec.upto fnExactNewConsoleSpec)

/-- 'laws.FnExactHalfTexture', WHERE WHAT IT READS IS OF BULK AT MOST 1048576: true; the input reads as it did. -/
def fnExactHalfTextureUptoRow : OpenClaim := { program := "ytllaghphdgbmeaa", sum := "383e9937be7a701793b36b088d5cfb56172cdf45167f8449a52726c3a8179b38", func := "loop.example/g00809/laws.FnExactHalfTexture", spec := "fnExactHalfTexture", apart := false, narrowed := true }
def FnExactHalfTextureUptoSaid : Prop := fnExactHalfTextureUptoRow.holds Try.pinned (OpenSpec.upto fnExactHalfTextureSpec)

/-- 'laws.FnExactMipLevel', WHERE WHAT IT READS IS OF BULK AT MOST 1048576: true; the input reads as it did. -/
def fnExactMipLevelUptoRow : OpenClaim := { program := "ytllaghphdgbmeaa", sum := "383e9937be7a701793b36b088d5cfb56172cdf45167f8449a52726c3a8179b38", func := "loop.example/g00809/laws.FnExactMipLevel", spec := "fnExactMipLevel", apart := false, narrowed := true }
def FnExactMipLevelUptoSaid : Prop := fnExactMipLevelUptoRow.holds Try.pinned (OpenSpec.upto fnExactMipLevelSpec)

/-- 'laws.FnExactTileOf', WHERE WHAT IT READS IS OF BULK AT MOST 1048576: true; the input reads as it did. -/
def fnExactTileOfUptoRow : OpenClaim := { program := "ytllaghphdgbmeaa", sum := "383e9937be7a701793b36b088d5cfb56172cdf45167f8449a52726c3a8179b38", func := "loop.example/g00809/laws.FnExactTileOf", spec := "fnExactTileOf", apart := false, narrowed := true }
def FnExactTileOfUptoSaid : Prop := fnExactTileOfUptoRow.holds Try.pinned (OpenSpec.upto fnExactTileOfSpec)

/-- 'laws.FnExactApplyAll', WHERE WHAT IT READS IS OF BULK AT MOST 1048576: true; the input reads as it did. -/
def fnExactApplyAllUptoRow : OpenClaim := { program := "ytllaghphdgbmeaa", sum := "383e9937be7a701793b36b088d5cfb56172cdf45167f8449a52726c3a8179b38", func := "loop.example/g00809/laws.FnExactApplyAll", spec := "fnExactApplyAll", unfollowed := true, recurses := true, apart := false, narrowed := true }
def FnExactApplyAllUptoSaid : Prop := fnExactApplyAllUptoRow.holds Try.pinned (OpenSpec.upto fnExactApplyAllSpec)

/-- 'laws.FnExactLookup', WHERE WHAT IT READS IS OF BULK AT MOST 1048576: true; the input reads as it did. -/
def fnExactLookupUptoRow : OpenClaim := { program := "ytllaghphdgbmeaa", sum := "383e9937be7a701793b36b088d5cfb56172cdf45167f8449a52726c3a8179b38", func := "loop.example/g00809/laws.FnExactLookup", spec := "fnExactLookup", apart := false, narrowed := true }
def FnExactLookupUptoSaid : Prop := fnExactLookupUptoRow.holds Try.pinned (OpenSpec.upto fnExactLookupSpec)

end Rows
end Go.Proofs.Ytllaghphdgbmeaa
