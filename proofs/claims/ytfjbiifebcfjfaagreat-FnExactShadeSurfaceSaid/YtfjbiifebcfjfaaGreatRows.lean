/-
  No cell of these rows narrows 'for every input' (looked for: loops, veiled, ifaces, maps, wideKeys, modest, calm, conditions, laid).
  DERIVED. THE GIVEN ROWS OF THIS SEAT. 5 by the template 'for every input the law returns true; each argument reads behind the call as it read before'; 0 by the template 'total and deterministic' (their statements: YtfjbiifebcfjfaaGreatTotals.lean).
  GIVEN WITH THE SEED: the statements are not yours to turn. If you find one false, say at which input.
  Laid BY PROGRAM, IN A SANDBOX (cutbox-rows.mjs): the forced cells as the released guide's own fill.sh prints them over the translation 6018333f54684578… (all of the seat's roots in one cut). By AI agents, Wed Nov 11 2026. No macro, syntax, notation, axiom, sorry.
-/
import Derived.Test.YtfjbiifebcfjfaaGreatChecked
import GoSem.Claim
import GoSem.ClaimJoined
import GoSem.ClaimMapViews
import Derived.JoinedTies
import Derived.KernelRfl
namespace Go.Proofs.YtfjbiifebcfjfaaGreat
/- THE CELL 'sum', in the pinned program and in every row, IS THE sha256 OF THE DUMP (.gsa) THAT YtfjbiifebcfjfaaGreatProg.lean LOADS. Nothing in Lean hashes anything: it is a label: what it is worth is what the hold of that sum in a sandbox is worth. -/
noncomputable def Tryz.pinned : Pinned := { name := "ytfjbiifebcfjfaagreat", sum := "6018333f546845787f22b020960d908d28c9b379f95ed9aabcd64fa4fc9b27f2", checked := Tryz.checked }
namespace Rows
def none {H : Type} : Left H := { results := [], args := [] }

/-- 'laws.FnNear': WHATEVER THE INPUT: true; the input reads as it did. -/
def fnNearSpec : ChangeSpec := { name := "fnNear", fn := fun _ => fun
  | [d] => { results := [.lit (.bool true)], args := [d] }
  | _ => none }
def fnNearRow : OpenClaim := { program := "ytfjbiifebcfjfaagreat", sum := "6018333f546845787f22b020960d908d28c9b379f95ed9aabcd64fa4fc9b27f2", func := "loop.example/g00809/laws.FnNear", spec := "fnNear", unfollowed := true, recurses := true, apart := false }
def FnNearSaid : Prop := fnNearRow.holds Tryz.pinned (OpenSpec.ofChange fnNearSpec)

/-- ITS FALSE NEIGHBOUR: 'it returns false'. Refute it at one input. -/
def fnNearWrong : ChangeSpec := { name := "fnNear", fn := fun _ => fun
  | [d] => { results := [.lit (.bool false)], args := [d] }
  | _ => none }
def FnNearWrongFalsely : Prop := fnNearRow.holds Tryz.pinned (OpenSpec.ofChange fnNearWrong)

/-- 'laws.FnSees': WHATEVER THE INPUT: true; the input reads as it did. -/
def fnSeesSpec : ChangeSpec := { name := "fnSees", fn := fun _ => fun
  | [d] => { results := [.lit (.bool true)], args := [d] }
  | _ => none }
def fnSeesRow : OpenClaim := { program := "ytfjbiifebcfjfaagreat", sum := "6018333f546845787f22b020960d908d28c9b379f95ed9aabcd64fa4fc9b27f2", func := "loop.example/g00809/laws.FnSees", spec := "fnSees", unfollowed := true, recurses := true, apart := false }
def FnSeesSaid : Prop := fnSeesRow.holds Tryz.pinned (OpenSpec.ofChange fnSeesSpec)

/-- ITS FALSE NEIGHBOUR: 'it returns false'. Refute it at one input. -/
def fnSeesWrong : ChangeSpec := { name := "fnSees", fn := fun _ => fun
  | [d] => { results := [.lit (.bool false)], args := [d] }
  | _ => none }
def FnSeesWrongFalsely : Prop := fnSeesRow.holds Tryz.pinned (OpenSpec.ofChange fnSeesWrong)

/-- 'laws.FnShadow': WHATEVER THE INPUT: true; the input reads as it did. -/
def fnShadowSpec : ChangeSpec := { name := "fnShadow", fn := fun _ => fun
  | [d] => { results := [.lit (.bool true)], args := [d] }
  | _ => none }
def fnShadowRow : OpenClaim := { program := "ytfjbiifebcfjfaagreat", sum := "6018333f546845787f22b020960d908d28c9b379f95ed9aabcd64fa4fc9b27f2", func := "loop.example/g00809/laws.FnShadow", spec := "fnShadow", unfollowed := true, recurses := true, apart := false }
def FnShadowSaid : Prop := fnShadowRow.holds Tryz.pinned (OpenSpec.ofChange fnShadowSpec)

/-- ITS FALSE NEIGHBOUR: 'it returns false'. Refute it at one input. -/
def fnShadowWrong : ChangeSpec := { name := "fnShadow", fn := fun _ => fun
  | [d] => { results := [.lit (.bool false)], args := [d] }
  | _ => none }
def FnShadowWrongFalsely : Prop := fnShadowRow.holds Tryz.pinned (OpenSpec.ofChange fnShadowWrong)

/-- 'laws.FnCandidates': WHATEVER THE INPUT: true; the input reads as it did. -/
def fnCandidatesSpec : ChangeSpec := { name := "fnCandidates", fn := fun _ => fun
  | [d] => { results := [.lit (.bool true)], args := [d] }
  | _ => none }
def fnCandidatesRow : OpenClaim := { program := "ytfjbiifebcfjfaagreat", sum := "6018333f546845787f22b020960d908d28c9b379f95ed9aabcd64fa4fc9b27f2", func := "loop.example/g00809/laws.FnCandidates", spec := "fnCandidates", unfollowed := true, recurses := true, apart := false }
def FnCandidatesSaid : Prop := fnCandidatesRow.holds Tryz.pinned (OpenSpec.ofChange fnCandidatesSpec)

/-- ITS FALSE NEIGHBOUR: 'it returns false'. Refute it at one input. -/
def fnCandidatesWrong : ChangeSpec := { name := "fnCandidates", fn := fun _ => fun
  | [d] => { results := [.lit (.bool false)], args := [d] }
  | _ => none }
def FnCandidatesWrongFalsely : Prop := fnCandidatesRow.holds Tryz.pinned (OpenSpec.ofChange fnCandidatesWrong)

/-- 'laws.FnExactShadeSurface': WHATEVER THE INPUT: true; the input reads as it did. -/
def fnExactShadeSurfaceSpec : ChangeSpec := { name := "fnExactShadeSurface", fn := fun _ => fun
  | [d1, d2] => { results := [.lit (.bool true)], args := [d1, d2] }
  | _ => none }
def fnExactShadeSurfaceRow : OpenClaim := { program := "ytfjbiifebcfjfaagreat", sum := "6018333f546845787f22b020960d908d28c9b379f95ed9aabcd64fa4fc9b27f2", func := "loop.example/g00809/laws.FnExactShadeSurface", spec := "fnExactShadeSurface", unfollowed := true, recurses := true, apart := false }
def FnExactShadeSurfaceSaid : Prop := fnExactShadeSurfaceRow.holds Tryz.pinned (OpenSpec.ofChange fnExactShadeSurfaceSpec)

/-- ITS FALSE NEIGHBOUR: 'it returns false'. Refute it at one input. -/
def fnExactShadeSurfaceWrong : ChangeSpec := { name := "fnExactShadeSurface", fn := fun _ => fun
  | [d1, d2] => { results := [.lit (.bool false)], args := [d1, d2] }
  | _ => none }
def FnExactShadeSurfaceWrongFalsely : Prop := fnExactShadeSurfaceRow.holds Tryz.pinned (OpenSpec.ofChange fnExactShadeSurfaceWrong)

/- THE SECOND FORM. 'bulk': how many values and letters a reading holds, each counted each time it is reached (what is shared counts as often as it is met; a slice's spare places count too). A statement '..UptoSaid' is the law's where the arguments, and the package variables that the reading takes, are together of bulk at most 1048576: NARROWER than '..Said'. Prove '..Said' where nothing that the law and all that it calls make is longer than what came in: it says more and counts as full. Else prove '..UptoSaid'. A law counts once. -/
mutual
def uptoBulk {H : Type} : DataW H → Nat
  | .lit (.string bytes) => bytes.length + 1
  | .lit _ => 1
  | .nil => 1
  | .ptr d => uptoBulk d + 1
  | .slice elems spare => uptoBulkAll elems + uptoBulkAll spare + 1
  | .agg parts => uptoBulkAll parts + 1
  | .iface _ d => uptoBulk d + 1
  | .map entries => uptoBulkEntries entries + 1
  | .held _ => 1
def uptoBulkAll {H : Type} : List (DataW H) → Nat
  | [] => 0
  | d :: r => uptoBulk d + uptoBulkAll r
def uptoBulkEntries {H : Type} : List (Lit × DataW H) → Nat
  | [] => 0
  | x :: r => uptoBulkEntry x + uptoBulkEntries r
def uptoBulkEntry {H : Type} : Lit × DataW H → Nat
  | (.string bytes, d) => bytes.length + uptoBulk d + 1
  | (_, d) => uptoBulk d + 1
 end
def uptoSmall : (H : Type) → List (DataW H) → Bool := fun _ ds => decide (uptoBulkAll ds ≤ 1048576)
def OpenSpec.upto (s : _root_.Go.ChangeSpec) : _root_.Go.OpenSpec := { _root_.Go.OpenSpec.ofChange s with cond := some uptoSmall }

/-- 'laws.FnNear', WHERE WHAT IT READS IS OF BULK AT MOST 1048576: true; the input reads as it did. -/
def fnNearUptoRow : OpenClaim := { program := "ytfjbiifebcfjfaagreat", sum := "6018333f546845787f22b020960d908d28c9b379f95ed9aabcd64fa4fc9b27f2", func := "loop.example/g00809/laws.FnNear", spec := "fnNear", unfollowed := true, recurses := true, apart := false, narrowed := true }
def FnNearUptoSaid : Prop := fnNearUptoRow.holds Tryz.pinned (OpenSpec.upto fnNearSpec)

/-- 'laws.FnSees', WHERE WHAT IT READS IS OF BULK AT MOST 1048576: true; the input reads as it did. -/
def fnSeesUptoRow : OpenClaim := { program := "ytfjbiifebcfjfaagreat", sum := "6018333f546845787f22b020960d908d28c9b379f95ed9aabcd64fa4fc9b27f2", func := "loop.example/g00809/laws.FnSees", spec := "fnSees", unfollowed := true, recurses := true, apart := false, narrowed := true }
def FnSeesUptoSaid : Prop := fnSeesUptoRow.holds Tryz.pinned (OpenSpec.upto fnSeesSpec)

/-- 'laws.FnShadow', WHERE WHAT IT READS IS OF BULK AT MOST 1048576: true; the input reads as it did. -/
def fnShadowUptoRow : OpenClaim := { program := "ytfjbiifebcfjfaagreat", sum := "6018333f546845787f22b020960d908d28c9b379f95ed9aabcd64fa4fc9b27f2", func := "loop.example/g00809/laws.FnShadow", spec := "fnShadow", unfollowed := true, recurses := true, apart := false, narrowed := true }
def FnShadowUptoSaid : Prop := fnShadowUptoRow.holds Tryz.pinned (OpenSpec.upto fnShadowSpec)

/-- 'laws.FnCandidates', WHERE WHAT IT READS IS OF BULK AT MOST 1048576: true; the input reads as it did. -/
def fnCandidatesUptoRow : OpenClaim := { program := "ytfjbiifebcfjfaagreat", sum := "6018333f546845787f22b020960d908d28c9b379f95ed9aabcd64fa4fc9b27f2", func := "loop.example/g00809/laws.FnCandidates", spec := "fnCandidates", unfollowed := true, recurses := true, apart := false, narrowed := true }
def FnCandidatesUptoSaid : Prop := fnCandidatesUptoRow.holds Tryz.pinned (OpenSpec.upto fnCandidatesSpec)

/-- 'laws.FnExactShadeSurface', WHERE WHAT IT READS IS OF BULK AT MOST 1048576: true; the input reads as it did. -/
def fnExactShadeSurfaceUptoRow : OpenClaim := { program := "ytfjbiifebcfjfaagreat", sum := "6018333f546845787f22b020960d908d28c9b379f95ed9aabcd64fa4fc9b27f2", func := "loop.example/g00809/laws.FnExactShadeSurface", spec := "fnExactShadeSurface", unfollowed := true, recurses := true, apart := false, narrowed := true }
def FnExactShadeSurfaceUptoSaid : Prop := fnExactShadeSurfaceUptoRow.holds Tryz.pinned (OpenSpec.upto fnExactShadeSurfaceSpec)

end Rows
end Go.Proofs.YtfjbiifebcfjfaaGreat
