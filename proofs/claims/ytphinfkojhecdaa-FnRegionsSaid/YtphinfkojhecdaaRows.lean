/-
  No cell of these rows narrows 'for every input' (looked for: loops, veiled, ifaces, maps, wideKeys, modest, calm, conditions, laid).
  DERIVED. THE GIVEN ROWS OF THIS SEAT. 9 by the template 'for every input the law returns true; each argument reads behind the call as it read before'; 0 by the template 'total and deterministic' (their statements: YtphinfkojhecdaaTotals.lean).
  GIVEN WITH THE SEED: the statements are not yours to turn. If you find one false, say at which input.
  Laid BY PROGRAM, IN A SANDBOX (cutbox-rows.mjs): the forced cells as the released guide's own fill.sh prints them over the translation e7347ee3c02c502d… (all of the seat's roots in one cut). By AI agents, Wed Nov 11 2026. No macro, syntax, notation, axiom, sorry.
-/
import Derived.Test.YtphinfkojhecdaaChecked
import GoSem.Claim
import GoSem.ClaimJoined
import GoSem.ClaimMapViews
import Derived.JoinedTies
import Derived.KernelRfl
namespace Go.Proofs.Ytphinfkojhecdaa
/- THE CELL 'sum', in the pinned program and in every row, IS THE sha256 OF THE DUMP (.gsa) THAT YtphinfkojhecdaaProg.lean LOADS. Nothing in Lean hashes anything: it is a label: what it is worth is what the hold of that sum in a sandbox is worth. -/
noncomputable def Try.pinned : Pinned := { name := "ytphinfkojhecdaa", sum := "e7347ee3c02c502d3ec88a0a7ed6d4e8a56b5d9edf3783794a19af2124938fb6", checked := Try.checked }
namespace Rows
def none {H : Type} : Left H := { results := [], args := [] }

/-- 'laws.FnExactIsBucket': WHATEVER THE INPUT: true; the input reads as it did. -/
def fnExactIsBucketSpec : ChangeSpec := { name := "fnExactIsBucket", fn := fun _ => fun
  | [d] => { results := [.lit (.bool true)], args := [d] }
  | _ => none }
def fnExactIsBucketRow : OpenClaim := { program := "ytphinfkojhecdaa", sum := "e7347ee3c02c502d3ec88a0a7ed6d4e8a56b5d9edf3783794a19af2124938fb6", func := "loop.example/g00843/laws.FnExactIsBucket", spec := "fnExactIsBucket", apart := false }
def FnExactIsBucketSaid : Prop := fnExactIsBucketRow.holds Try.pinned (OpenSpec.ofChange fnExactIsBucketSpec)

/-- ITS FALSE NEIGHBOUR: 'it returns false'. Refute it at one input. -/
def fnExactIsBucketWrong : ChangeSpec := { name := "fnExactIsBucket", fn := fun _ => fun
  | [d] => { results := [.lit (.bool false)], args := [d] }
  | _ => none }
def FnExactIsBucketWrongFalsely : Prop := fnExactIsBucketRow.holds Try.pinned (OpenSpec.ofChange fnExactIsBucketWrong)

/-- 'laws.FnExactRouteAccess': WHATEVER THE INPUT: true; the input reads as it did. -/
def fnExactRouteAccessSpec : ChangeSpec := { name := "fnExactRouteAccess", fn := fun _ => fun
  | [d1, d2] => { results := [.lit (.bool true)], args := [d1, d2] }
  | _ => none }
def fnExactRouteAccessRow : OpenClaim := { program := "ytphinfkojhecdaa", sum := "e7347ee3c02c502d3ec88a0a7ed6d4e8a56b5d9edf3783794a19af2124938fb6", func := "loop.example/g00843/laws.FnExactRouteAccess", spec := "fnExactRouteAccess", unfollowed := true, recurses := true, apart := false }
def FnExactRouteAccessSaid : Prop := fnExactRouteAccessRow.holds Try.pinned (OpenSpec.ofChange fnExactRouteAccessSpec)

/-- ITS FALSE NEIGHBOUR: 'it returns false'. Refute it at one input. -/
def fnExactRouteAccessWrong : ChangeSpec := { name := "fnExactRouteAccess", fn := fun _ => fun
  | [d1, d2] => { results := [.lit (.bool false)], args := [d1, d2] }
  | _ => none }
def FnExactRouteAccessWrongFalsely : Prop := fnExactRouteAccessRow.holds Try.pinned (OpenSpec.ofChange fnExactRouteAccessWrong)

/-- 'laws.FnExactUnitsBetween': WHATEVER THE INPUT: true; the input reads as it did. -/
def fnExactUnitsBetweenSpec : ChangeSpec := { name := "fnExactUnitsBetween", fn := fun _ => fun
  | [d1, d2, d3] => { results := [.lit (.bool true)], args := [d1, d2, d3] }
  | _ => none }
def fnExactUnitsBetweenRow : OpenClaim := { program := "ytphinfkojhecdaa", sum := "e7347ee3c02c502d3ec88a0a7ed6d4e8a56b5d9edf3783794a19af2124938fb6", func := "loop.example/g00843/laws.FnExactUnitsBetween", spec := "fnExactUnitsBetween", apart := false }
def FnExactUnitsBetweenSaid : Prop := fnExactUnitsBetweenRow.holds Try.pinned (OpenSpec.ofChange fnExactUnitsBetweenSpec)

/-- ITS FALSE NEIGHBOUR: 'it returns false'. Refute it at one input. -/
def fnExactUnitsBetweenWrong : ChangeSpec := { name := "fnExactUnitsBetween", fn := fun _ => fun
  | [d1, d2, d3] => { results := [.lit (.bool false)], args := [d1, d2, d3] }
  | _ => none }
def FnExactUnitsBetweenWrongFalsely : Prop := fnExactUnitsBetweenRow.holds Try.pinned (OpenSpec.ofChange fnExactUnitsBetweenWrong)

/-- 'laws.FnExactSplitAccess': WHATEVER THE INPUT: true; the input reads as it did. -/
def fnExactSplitAccessSpec : ChangeSpec := { name := "fnExactSplitAccess", fn := fun _ => fun
  | [d1, d2] => { results := [.lit (.bool true)], args := [d1, d2] }
  | _ => none }
def fnExactSplitAccessRow : OpenClaim := { program := "ytphinfkojhecdaa", sum := "e7347ee3c02c502d3ec88a0a7ed6d4e8a56b5d9edf3783794a19af2124938fb6", func := "loop.example/g00843/laws.FnExactSplitAccess", spec := "fnExactSplitAccess", unfollowed := true, recurses := true, apart := false }
def FnExactSplitAccessSaid : Prop := fnExactSplitAccessRow.holds Try.pinned (OpenSpec.ofChange fnExactSplitAccessSpec)

/-- ITS FALSE NEIGHBOUR: 'it returns false'. Refute it at one input. -/
def fnExactSplitAccessWrong : ChangeSpec := { name := "fnExactSplitAccess", fn := fun _ => fun
  | [d1, d2] => { results := [.lit (.bool false)], args := [d1, d2] }
  | _ => none }
def FnExactSplitAccessWrongFalsely : Prop := fnExactSplitAccessRow.holds Try.pinned (OpenSpec.ofChange fnExactSplitAccessWrong)

/-- 'laws.FnExactPlaceRegion': WHATEVER THE INPUT: true; the input reads as it did. -/
def fnExactPlaceRegionSpec : ChangeSpec := { name := "fnExactPlaceRegion", fn := fun _ => fun
  | [d1, d2] => { results := [.lit (.bool true)], args := [d1, d2] }
  | _ => none }
def fnExactPlaceRegionRow : OpenClaim := { program := "ytphinfkojhecdaa", sum := "e7347ee3c02c502d3ec88a0a7ed6d4e8a56b5d9edf3783794a19af2124938fb6", func := "loop.example/g00843/laws.FnExactPlaceRegion", spec := "fnExactPlaceRegion", unfollowed := true, recurses := true, apart := false }
def FnExactPlaceRegionSaid : Prop := fnExactPlaceRegionRow.holds Try.pinned (OpenSpec.ofChange fnExactPlaceRegionSpec)

/-- ITS FALSE NEIGHBOUR: 'it returns false'. Refute it at one input. -/
def fnExactPlaceRegionWrong : ChangeSpec := { name := "fnExactPlaceRegion", fn := fun _ => fun
  | [d1, d2] => { results := [.lit (.bool false)], args := [d1, d2] }
  | _ => none }
def FnExactPlaceRegionWrongFalsely : Prop := fnExactPlaceRegionRow.holds Try.pinned (OpenSpec.ofChange fnExactPlaceRegionWrong)

/-- 'laws.FnExactAddRegion': WHATEVER THE INPUT: true; the input reads as it did. -/
def fnExactAddRegionSpec : ChangeSpec := { name := "fnExactAddRegion", fn := fun _ => fun
  | [d1, d2] => { results := [.lit (.bool true)], args := [d1, d2] }
  | _ => none }
def fnExactAddRegionRow : OpenClaim := { program := "ytphinfkojhecdaa", sum := "e7347ee3c02c502d3ec88a0a7ed6d4e8a56b5d9edf3783794a19af2124938fb6", func := "loop.example/g00843/laws.FnExactAddRegion", spec := "fnExactAddRegion", unfollowed := true, recurses := true, apart := false }
def FnExactAddRegionSaid : Prop := fnExactAddRegionRow.holds Try.pinned (OpenSpec.ofChange fnExactAddRegionSpec)

/-- ITS FALSE NEIGHBOUR: 'it returns false'. Refute it at one input. -/
def fnExactAddRegionWrong : ChangeSpec := { name := "fnExactAddRegion", fn := fun _ => fun
  | [d1, d2] => { results := [.lit (.bool false)], args := [d1, d2] }
  | _ => none }
def FnExactAddRegionWrongFalsely : Prop := fnExactAddRegionRow.holds Try.pinned (OpenSpec.ofChange fnExactAddRegionWrong)

/-- 'laws.FnExactMoveRegion': WHATEVER THE INPUT: true; the input reads as it did. -/
def fnExactMoveRegionSpec : ChangeSpec := { name := "fnExactMoveRegion", fn := fun _ => fun
  | [d1, d2, d3] => { results := [.lit (.bool true)], args := [d1, d2, d3] }
  | _ => none }
def fnExactMoveRegionRow : OpenClaim := { program := "ytphinfkojhecdaa", sum := "e7347ee3c02c502d3ec88a0a7ed6d4e8a56b5d9edf3783794a19af2124938fb6", func := "loop.example/g00843/laws.FnExactMoveRegion", spec := "fnExactMoveRegion", unfollowed := true, recurses := true, apart := false }
def FnExactMoveRegionSaid : Prop := fnExactMoveRegionRow.holds Try.pinned (OpenSpec.ofChange fnExactMoveRegionSpec)

/-- ITS FALSE NEIGHBOUR: 'it returns false'. Refute it at one input. -/
def fnExactMoveRegionWrong : ChangeSpec := { name := "fnExactMoveRegion", fn := fun _ => fun
  | [d1, d2, d3] => { results := [.lit (.bool false)], args := [d1, d2, d3] }
  | _ => none }
def FnExactMoveRegionWrongFalsely : Prop := fnExactMoveRegionRow.holds Try.pinned (OpenSpec.ofChange fnExactMoveRegionWrong)

/-- 'laws.FnBus': WHATEVER THE INPUT: true; the input reads as it did. -/
def fnBusSpec : ChangeSpec := { name := "fnBus", fn := fun _ => fun
  | [d] => { results := [.lit (.bool true)], args := [d] }
  | _ => none }
def fnBusRow : OpenClaim := { program := "ytphinfkojhecdaa", sum := "e7347ee3c02c502d3ec88a0a7ed6d4e8a56b5d9edf3783794a19af2124938fb6", func := "loop.example/g00843/laws.FnBus", spec := "fnBus", unfollowed := true, recurses := true, apart := false }
def FnBusSaid : Prop := fnBusRow.holds Try.pinned (OpenSpec.ofChange fnBusSpec)

/-- ITS FALSE NEIGHBOUR: 'it returns false'. Refute it at one input. -/
def fnBusWrong : ChangeSpec := { name := "fnBus", fn := fun _ => fun
  | [d] => { results := [.lit (.bool false)], args := [d] }
  | _ => none }
def FnBusWrongFalsely : Prop := fnBusRow.holds Try.pinned (OpenSpec.ofChange fnBusWrong)

/-- 'laws.FnRegions': WHATEVER THE INPUT: true; the input reads as it did. -/
def fnRegionsSpec : ChangeSpec := { name := "fnRegions", fn := fun _ => fun
  | [d] => { results := [.lit (.bool true)], args := [d] }
  | _ => none }
def fnRegionsRow : OpenClaim := { program := "ytphinfkojhecdaa", sum := "e7347ee3c02c502d3ec88a0a7ed6d4e8a56b5d9edf3783794a19af2124938fb6", func := "loop.example/g00843/laws.FnRegions", spec := "fnRegions", unfollowed := true, recurses := true, apart := false }
def FnRegionsSaid : Prop := fnRegionsRow.holds Try.pinned (OpenSpec.ofChange fnRegionsSpec)

/-- ITS FALSE NEIGHBOUR: 'it returns false'. Refute it at one input. -/
def fnRegionsWrong : ChangeSpec := { name := "fnRegions", fn := fun _ => fun
  | [d] => { results := [.lit (.bool false)], args := [d] }
  | _ => none }
def FnRegionsWrongFalsely : Prop := fnRegionsRow.holds Try.pinned (OpenSpec.ofChange fnRegionsWrong)

/- THE SECOND FORM. 'bulk': how many values and letters a reading holds, each counted each time it is reached (what is shared counts as often as it is met; a slice's spare places count too). A statement '..UptoSaid' is the law's where the arguments, and the package variables that the reading takes, are together of bulk at most 1048576: NARROWER than '..Said'. Prove '..Said' where nothing that the law and all that it calls make is longer than what came in: it says more and counts as full. Else prove '..UptoSaid'. A law counts once. -/
mutual
def uptoBulk {H : Type} : DataW H → Nat
  | .lit (.string bytes) => bytes.length + 1
  | .lit _ => 1
  | .nil => 1
  | .ptr d => uptoBulk d + 1
  | .slice elems spare => uptoBulkAll elems + uptoBulkAll spare + 1
  | .agg parts => uptoBulkAll parts + 1
  | .iface _ d => uptoBulk d + 1
  | .map entries => uptoBulkEntries entries + 1
  | .held _ => 1
def uptoBulkAll {H : Type} : List (DataW H) → Nat
  | [] => 0
  | d :: r => uptoBulk d + uptoBulkAll r
def uptoBulkEntries {H : Type} : List (Lit × DataW H) → Nat
  | [] => 0
  | x :: r => uptoBulkEntry x + uptoBulkEntries r
def uptoBulkEntry {H : Type} : Lit × DataW H → Nat
  | (.string bytes, d) => bytes.length + uptoBulk d + 1
  | (_, d) => uptoBulk d + 1
 end
def uptoSmall : (H : Type) → List (DataW H) → Bool := fun _ ds => decide (uptoBulkAll ds ≤ 1048576)
def OpenSpec.upto (s : _root_.Go.ChangeSpec) : _root_.Go.OpenSpec := { _root_.Go.OpenSpec.ofChange s with cond := some uptoSmall }

/-- 'laws.FnExactIsBucket', WHERE WHAT IT READS IS OF BULK AT MOST 1048576: true; the input reads as it did. -/
def fnExactIsBucketUptoRow : OpenClaim := { program := "ytphinfkojhecdaa", sum := "e7347ee3c02c502d3ec88a0a7ed6d4e8a56b5d9edf3783794a19af2124938fb6", func := "loop.example/g00843/laws.FnExactIsBucket", spec := "fnExactIsBucket", apart := false, narrowed := true }
def FnExactIsBucketUptoSaid : Prop := fnExactIsBucketUptoRow.holds Try.pinned (OpenSpec.upto fnExactIsBucketSpec)

/-- 'laws.FnExactRouteAccess', WHERE WHAT IT READS IS OF BULK AT MOST 1048576: true; the input reads as it did. -/
def fnExactRouteAccessUptoRow : OpenClaim := { program := "ytphinfkojhecdaa", sum := "e7347ee3c02c502d3ec88a0a7ed6d4e8a56b5d9edf3783794a19af2124938fb6", func := "loop.example/g00843/laws.FnExactRouteAccess", spec := "fnExactRouteAccess", unfollowed := true, recurses := true, apart := false, narrowed := true }
def FnExactRouteAccessUptoSaid : Prop := fnExactRouteAccessUptoRow.holds Try.pinned (OpenSpec.upto fnExactRouteAccessSpec)

/-- 'laws.FnExactUnitsBetween', WHERE WHAT IT READS IS OF BULK AT MOST 1048576: true; the input reads as it did. -/
def fnExactUnitsBetweenUptoRow : OpenClaim := { program := "ytphinfkojhecdaa", sum := "e7347ee3c02c502d3ec88a0a7ed6d4e8a56b5d9edf3783794a19af2124938fb6", func := "loop.example/g00843/laws.FnExactUnitsBetween", spec := "fnExactUnitsBetween", apart := false, narrowed := true }
def FnExactUnitsBetweenUptoSaid : Prop := fnExactUnitsBetweenUptoRow.holds Try.pinned (OpenSpec.upto fnExactUnitsBetweenSpec)

/-- 'laws.FnExactSplitAccess', WHERE WHAT IT READS IS OF BULK AT MOST 1048576: true; the input reads as it did. -/
def fnExactSplitAccessUptoRow : OpenClaim := { program := "ytphinfkojhecdaa", sum := "e7347ee3c02c502d3ec88a0a7ed6d4e8a56b5d9edf3783794a19af2124938fb6", func := "loop.example/g00843/laws.FnExactSplitAccess", spec := "fnExactSplitAccess", unfollowed := true, recurses := true, apart := false, narrowed := true }
def FnExactSplitAccessUptoSaid : Prop := fnExactSplitAccessUptoRow.holds Try.pinned (OpenSpec.upto fnExactSplitAccessSpec)

/-- 'laws.FnExactPlaceRegion', WHERE WHAT IT READS IS OF BULK AT MOST 1048576: true; the input reads as it did. -/
def fnExactPlaceRegionUptoRow : OpenClaim := { program := "ytphinfkojhecdaa", sum := "e7347ee3c02c502d3ec88a0a7ed6d4e8a56b5d9edf3783794a19af2124938fb6", func := "loop.example/g00843/laws.FnExactPlaceRegion", spec := "fnExactPlaceRegion", unfollowed := true, recurses := true, apart := false, narrowed := true }
def FnExactPlaceRegionUptoSaid : Prop := fnExactPlaceRegionUptoRow.holds Try.pinned (OpenSpec.upto fnExactPlaceRegionSpec)

/-- 'laws.FnExactAddRegion', WHERE WHAT IT READS IS OF BULK AT MOST 1048576: true; the input reads as it did. -/
def fnExactAddRegionUptoRow : OpenClaim := { program := "ytphinfkojhecdaa", sum := "e7347ee3c02c502d3ec88a0a7ed6d4e8a56b5d9edf3783794a19af2124938fb6", func := "loop.example/g00843/laws.FnExactAddRegion", spec := "fnExactAddRegion", unfollowed := true, recurses := true, apart := false, narrowed := true }
def FnExactAddRegionUptoSaid : Prop := fnExactAddRegionUptoRow.holds Try.pinned (OpenSpec.upto fnExactAddRegionSpec)

/-- 'laws.FnExactMoveRegion', WHERE WHAT IT READS IS OF BULK AT MOST 1048576: true; the input reads as it did. -/
def fnExactMoveRegionUptoRow : OpenClaim := { program := "ytphinfkojhecdaa", sum := "e7347ee3c02c502d3ec88a0a7ed6d4e8a56b5d9edf3783794a19af2124938fb6", func := "loop.example/g00843/laws.FnExactMoveRegion", spec := "fnExactMoveRegion", unfollowed := true, recurses := true, apart := false, narrowed := true }
def FnExactMoveRegionUptoSaid : Prop := fnExactMoveRegionUptoRow.holds Try.pinned (OpenSpec.upto fnExactMoveRegionSpec)

/-- 'laws.FnBus', WHERE WHAT IT READS IS OF BULK AT MOST 1048576: true; the input reads as it did. -/
def fnBusUptoRow : OpenClaim := { program := "ytphinfkojhecdaa", sum := "e7347ee3c02c502d3ec88a0a7ed6d4e8a56b5d9edf3783794a19af2124938fb6", func := "loop.example/g00843/laws.FnBus", spec := "fnBus", unfollowed := true, recurses := true, apart := false, narrowed := true }
def FnBusUptoSaid : Prop := fnBusUptoRow.holds Try.pinned (OpenSpec.upto fnBusSpec)

/-- 'laws.FnRegions', WHERE WHAT IT READS IS OF BULK AT MOST 1048576: true; the input reads as it did. -/
def fnRegionsUptoRow : OpenClaim := { program := "ytphinfkojhecdaa", sum := "e7347ee3c02c502d3ec88a0a7ed6d4e8a56b5d9edf3783794a19af2124938fb6", func := "loop.example/g00843/laws.FnRegions", spec := "fnRegions", unfollowed := true, recurses := true, apart := false, narrowed := true }
def FnRegionsUptoSaid : Prop := fnRegionsUptoRow.holds Try.pinned (OpenSpec.upto fnRegionsSpec)

end Rows
end Go.Proofs.Ytphinfkojhecdaa
