/-
  No cell of these rows narrows 'for every input' (looked for: loops, veiled, ifaces, maps, wideKeys, modest, calm, conditions, laid).
  DERIVED. THE GIVEN ROWS OF THIS SEAT. 6 by the template 'for every input the law returns true; each argument reads behind the call as it read before'; 0 by the template 'total and deterministic' (their statements: YthgpegkmjeigmaaGreatTotals.lean).
  GIVEN WITH THE SEED: the statements are not yours to turn. If you find one false, say at which input.
  Laid BY PROGRAM, IN A SANDBOX (cutbox-rows.mjs): the forced cells as the released guide's own fill.sh prints them over the translation 60fc41ee346b0c65… (all of the seat's roots in one cut). By AI agents, Wed Nov 11 2026. No macro, syntax, notation, axiom, sorry.
-/
import Derived.Test.YthgpegkmjeigmaaGreatChecked
import GoSem.Claim
import GoSem.ClaimJoined
import GoSem.ClaimMapViews
import Derived.JoinedTies
import Derived.KernelRfl
namespace Go.Proofs.YthgpegkmjeigmaaGreat
/- THE CELL 'sum', in the pinned program and in every row, IS THE sha256 OF THE DUMP (.gsa) THAT YthgpegkmjeigmaaGreatProg.lean LOADS. Nothing in Lean hashes anything: it is a label: what it is worth is what the hold of that sum in a sandbox is worth. -/
noncomputable def Tryz.pinned : Pinned := { name := "ythgpegkmjeigmaagreat", sum := "60fc41ee346b0c6538c187c729010da80177287ef0457bb77c8eb61a3c9ee867", checked := Tryz.checked }
namespace Rows
def none {H : Type} : Left H := { results := [], args := [] }

/-- 'laws.FnExactSampleColor': WHATEVER THE INPUT: true; the input reads as it did. -/
def fnExactSampleColorSpec : ChangeSpec := { name := "fnExactSampleColor", fn := fun _ => fun
  | [d1, d2] => { results := [.lit (.bool true)], args := [d1, d2] }
  | _ => none }
def fnExactSampleColorRow : OpenClaim := { program := "ythgpegkmjeigmaagreat", sum := "60fc41ee346b0c6538c187c729010da80177287ef0457bb77c8eb61a3c9ee867", func := "loop.example/g00809/laws.FnExactSampleColor", spec := "fnExactSampleColor", unfollowed := true, recurses := true, apart := false }
def FnExactSampleColorSaid : Prop := fnExactSampleColorRow.holds Tryz.pinned (OpenSpec.ofChange fnExactSampleColorSpec)

/-- ITS FALSE NEIGHBOUR: 'it returns false'. Refute it at one input. -/
def fnExactSampleColorWrong : ChangeSpec := { name := "fnExactSampleColor", fn := fun _ => fun
  | [d1, d2] => { results := [.lit (.bool false)], args := [d1, d2] }
  | _ => none }
def FnExactSampleColorWrongFalsely : Prop := fnExactSampleColorRow.holds Tryz.pinned (OpenSpec.ofChange fnExactSampleColorWrong)

/-- 'laws.FnExactPixelColor': WHATEVER THE INPUT: true; the input reads as it did. -/
def fnExactPixelColorSpec : ChangeSpec := { name := "fnExactPixelColor", fn := fun _ => fun
  | [d1, d2, d3] => { results := [.lit (.bool true)], args := [d1, d2, d3] }
  | _ => none }
def fnExactPixelColorRow : OpenClaim := { program := "ythgpegkmjeigmaagreat", sum := "60fc41ee346b0c6538c187c729010da80177287ef0457bb77c8eb61a3c9ee867", func := "loop.example/g00809/laws.FnExactPixelColor", spec := "fnExactPixelColor", unfollowed := true, recurses := true, apart := false }
def FnExactPixelColorSaid : Prop := fnExactPixelColorRow.holds Tryz.pinned (OpenSpec.ofChange fnExactPixelColorSpec)

/-- ITS FALSE NEIGHBOUR: 'it returns false'. Refute it at one input. -/
def fnExactPixelColorWrong : ChangeSpec := { name := "fnExactPixelColor", fn := fun _ => fun
  | [d1, d2, d3] => { results := [.lit (.bool false)], args := [d1, d2, d3] }
  | _ => none }
def FnExactPixelColorWrongFalsely : Prop := fnExactPixelColorRow.holds Tryz.pinned (OpenSpec.ofChange fnExactPixelColorWrong)

/-- 'laws.FnExactSurfaceFragments': WHATEVER THE INPUT: true; the input reads as it did. -/
def fnExactSurfaceFragmentsSpec : ChangeSpec := { name := "fnExactSurfaceFragments", fn := fun _ => fun
  | [d1, d2, d3] => { results := [.lit (.bool true)], args := [d1, d2, d3] }
  | _ => none }
def fnExactSurfaceFragmentsRow : OpenClaim := { program := "ythgpegkmjeigmaagreat", sum := "60fc41ee346b0c6538c187c729010da80177287ef0457bb77c8eb61a3c9ee867", func := "loop.example/g00809/laws.FnExactSurfaceFragments", spec := "fnExactSurfaceFragments", unfollowed := true, recurses := true, apart := false }
def FnExactSurfaceFragmentsSaid : Prop := fnExactSurfaceFragmentsRow.holds Tryz.pinned (OpenSpec.ofChange fnExactSurfaceFragmentsSpec)

/-- ITS FALSE NEIGHBOUR: 'it returns false'. Refute it at one input. -/
def fnExactSurfaceFragmentsWrong : ChangeSpec := { name := "fnExactSurfaceFragments", fn := fun _ => fun
  | [d1, d2, d3] => { results := [.lit (.bool false)], args := [d1, d2, d3] }
  | _ => none }
def FnExactSurfaceFragmentsWrongFalsely : Prop := fnExactSurfaceFragmentsRow.holds Tryz.pinned (OpenSpec.ofChange fnExactSurfaceFragmentsWrong)

/-- 'laws.FnExactSampleFragments': WHATEVER THE INPUT: true; the input reads as it did. -/
def fnExactSampleFragmentsSpec : ChangeSpec := { name := "fnExactSampleFragments", fn := fun _ => fun
  | [d1, d2] => { results := [.lit (.bool true)], args := [d1, d2] }
  | _ => none }
def fnExactSampleFragmentsRow : OpenClaim := { program := "ythgpegkmjeigmaagreat", sum := "60fc41ee346b0c6538c187c729010da80177287ef0457bb77c8eb61a3c9ee867", func := "loop.example/g00809/laws.FnExactSampleFragments", spec := "fnExactSampleFragments", unfollowed := true, recurses := true, apart := false }
def FnExactSampleFragmentsSaid : Prop := fnExactSampleFragmentsRow.holds Tryz.pinned (OpenSpec.ofChange fnExactSampleFragmentsSpec)

/-- ITS FALSE NEIGHBOUR: 'it returns false'. Refute it at one input. -/
def fnExactSampleFragmentsWrong : ChangeSpec := { name := "fnExactSampleFragments", fn := fun _ => fun
  | [d1, d2] => { results := [.lit (.bool false)], args := [d1, d2] }
  | _ => none }
def FnExactSampleFragmentsWrongFalsely : Prop := fnExactSampleFragmentsRow.holds Tryz.pinned (OpenSpec.ofChange fnExactSampleFragmentsWrong)

/-- 'laws.FnExactOcclusion': WHATEVER THE INPUT: true; the input reads as it did. -/
def fnExactOcclusionSpec : ChangeSpec := { name := "fnExactOcclusion", fn := fun _ => fun
  | [d1, d2, d3, d4] => { results := [.lit (.bool true)], args := [d1, d2, d3, d4] }
  | _ => none }
def fnExactOcclusionRow : OpenClaim := { program := "ythgpegkmjeigmaagreat", sum := "60fc41ee346b0c6538c187c729010da80177287ef0457bb77c8eb61a3c9ee867", func := "loop.example/g00809/laws.FnExactOcclusion", spec := "fnExactOcclusion", unfollowed := true, recurses := true, apart := false }
def FnExactOcclusionSaid : Prop := fnExactOcclusionRow.holds Tryz.pinned (OpenSpec.ofChange fnExactOcclusionSpec)

/-- ITS FALSE NEIGHBOUR: 'it returns false'. Refute it at one input. -/
def fnExactOcclusionWrong : ChangeSpec := { name := "fnExactOcclusion", fn := fun _ => fun
  | [d1, d2, d3, d4] => { results := [.lit (.bool false)], args := [d1, d2, d3, d4] }
  | _ => none }
def FnExactOcclusionWrongFalsely : Prop := fnExactOcclusionRow.holds Tryz.pinned (OpenSpec.ofChange fnExactOcclusionWrong)

/-- 'laws.FnExactDeepPixel': WHATEVER THE INPUT: true; the input reads as it did. -/
def fnExactDeepPixelSpec : ChangeSpec := { name := "fnExactDeepPixel", fn := fun _ => fun
  | [d1, d2, d3] => { results := [.lit (.bool true)], args := [d1, d2, d3] }
  | _ => none }
def fnExactDeepPixelRow : OpenClaim := { program := "ythgpegkmjeigmaagreat", sum := "60fc41ee346b0c6538c187c729010da80177287ef0457bb77c8eb61a3c9ee867", func := "loop.example/g00809/laws.FnExactDeepPixel", spec := "fnExactDeepPixel", unfollowed := true, recurses := true, apart := false }
def FnExactDeepPixelSaid : Prop := fnExactDeepPixelRow.holds Tryz.pinned (OpenSpec.ofChange fnExactDeepPixelSpec)

/-- ITS FALSE NEIGHBOUR: 'it returns false'. Refute it at one input. -/
def fnExactDeepPixelWrong : ChangeSpec := { name := "fnExactDeepPixel", fn := fun _ => fun
  | [d1, d2, d3] => { results := [.lit (.bool false)], args := [d1, d2, d3] }
  | _ => none }
def FnExactDeepPixelWrongFalsely : Prop := fnExactDeepPixelRow.holds Tryz.pinned (OpenSpec.ofChange fnExactDeepPixelWrong)

/- THE SECOND FORM. 'bulk': how many values and letters a reading holds, each counted each time it is reached (what is shared counts as often as it is met; a slice's spare places count too). A statement '..UptoSaid' is the law's where the arguments, and the package variables that the reading takes, are together of bulk at most 1048576: NARROWER than '..Said'. Prove '..Said' where nothing that the law and all that it calls make is longer than what came in: it says more and counts as full. Else prove '..UptoSaid'. A law counts once. -/
mutual
def uptoBulk {H : Type} : DataW H → Nat
  | .lit (.string bytes) => bytes.length + 1
  | .lit _ => 1
  | .nil => 1
  | .ptr d => uptoBulk d + 1
  | .slice elems spare => uptoBulkAll elems + uptoBulkAll spare + 1
  | .agg parts => uptoBulkAll parts + 1
  | .iface _ d => uptoBulk d + 1
  | .map entries => uptoBulkEntries entries + 1
  | .held _ => 1
def uptoBulkAll {H : Type} : List (DataW H) → Nat
  | [] => 0
  | d :: r => uptoBulk d + uptoBulkAll r
def uptoBulkEntries {H : Type} : List (Lit × DataW H) → Nat
  | [] => 0
  | x :: r => uptoBulkEntry x + uptoBulkEntries r
def uptoBulkEntry {H : Type} : Lit × DataW H → Nat
  | (.string bytes, d) => bytes.length + uptoBulk d + 1
  | (_, d) => uptoBulk d + 1
 end
def uptoSmall : (H : Type) → List (DataW H) → Bool := fun _ ds => decide (uptoBulkAll ds ≤ 1048576)
def OpenSpec.upto (s : _root_.Go.ChangeSpec) : _root_.Go.OpenSpec := { _root_.Go.OpenSpec.ofChange s with cond := some uptoSmall }

/-- 'laws.FnExactSampleColor', WHERE WHAT IT READS IS OF BULK AT MOST 1048576: true; the input reads as it did. -/
def fnExactSampleColorUptoRow : OpenClaim := { program := "ythgpegkmjeigmaagreat", sum := "60fc41ee346b0c6538c187c729010da80177287ef0457bb77c8eb61a3c9ee867", func := "loop.example/g00809/laws.FnExactSampleColor", spec := "fnExactSampleColor", unfollowed := true, recurses := true, apart := false, narrowed := true }
def FnExactSampleColorUptoSaid : Prop := fnExactSampleColorUptoRow.holds Tryz.pinned (OpenSpec.upto fnExactSampleColorSpec)

/-- 'laws.FnExactPixelColor', WHERE WHAT IT READS IS OF BULK AT MOST 1048576: true; the input reads as it did. -/
def fnExactPixelColorUptoRow : OpenClaim := { program := "ythgpegkmjeigmaagreat", sum := "60fc41ee346b0c6538c187c729010da80177287ef0457bb77c8eb61a3c9ee867", func := "loop.example/g00809/laws.FnExactPixelColor", spec := "fnExactPixelColor", unfollowed := true, recurses := true, apart := false, narrowed := true }
def FnExactPixelColorUptoSaid : Prop := fnExactPixelColorUptoRow.holds Tryz.pinned (OpenSpec.upto fnExactPixelColorSpec)

/-- 'laws.FnExactSurfaceFragments', WHERE WHAT IT READS IS OF BULK AT MOST 1048576: true; the input reads as it did. -/
def fnExactSurfaceFragmentsUptoRow : OpenClaim := { program := "ythgpegkmjeigmaagreat", sum := "60fc41ee346b0c6538c187c729010da80177287ef0457bb77c8eb61a3c9ee867", func := "loop.example/g00809/laws.FnExactSurfaceFragments", spec := "fnExactSurfaceFragments", unfollowed := true, recurses := true, apart := false, narrowed := true }
def FnExactSurfaceFragmentsUptoSaid : Prop := fnExactSurfaceFragmentsUptoRow.holds Tryz.pinned (OpenSpec.upto fnExactSurfaceFragmentsSpec)

/-- 'laws.FnExactSampleFragments', WHERE WHAT IT READS IS OF BULK AT MOST 1048576: true; the input reads as it did. -/
def fnExactSampleFragmentsUptoRow : OpenClaim := { program := "ythgpegkmjeigmaagreat", sum := "60fc41ee346b0c6538c187c729010da80177287ef0457bb77c8eb61a3c9ee867", func := "loop.example/g00809/laws.FnExactSampleFragments", spec := "fnExactSampleFragments", unfollowed := true, recurses := true, apart := false, narrowed := true }
def FnExactSampleFragmentsUptoSaid : Prop := fnExactSampleFragmentsUptoRow.holds Tryz.pinned (OpenSpec.upto fnExactSampleFragmentsSpec)

/-- 'laws.FnExactOcclusion', WHERE WHAT IT READS IS OF BULK AT MOST 1048576: true; the input reads as it did. -/
def fnExactOcclusionUptoRow : OpenClaim := { program := "ythgpegkmjeigmaagreat", sum := "60fc41ee346b0c6538c187c729010da80177287ef0457bb77c8eb61a3c9ee867", func := "loop.example/g00809/laws.FnExactOcclusion", spec := "fnExactOcclusion", unfollowed := true, recurses := true, apart := false, narrowed := true }
def FnExactOcclusionUptoSaid : Prop := fnExactOcclusionUptoRow.holds Tryz.pinned (OpenSpec.upto fnExactOcclusionSpec)

/-- 'laws.FnExactDeepPixel', WHERE WHAT IT READS IS OF BULK AT MOST 1048576: true; the input reads as it did. -/
def fnExactDeepPixelUptoRow : OpenClaim := { program := "ythgpegkmjeigmaagreat", sum := "60fc41ee346b0c6538c187c729010da80177287ef0457bb77c8eb61a3c9ee867", func := "loop.example/g00809/laws.FnExactDeepPixel", spec := "fnExactDeepPixel", unfollowed := true, recurses := true, apart := false, narrowed := true }
def FnExactDeepPixelUptoSaid : Prop := fnExactDeepPixelUptoRow.holds Tryz.pinned (OpenSpec.upto fnExactDeepPixelSpec)

end Rows
end Go.Proofs.YthgpegkmjeigmaaGreat
