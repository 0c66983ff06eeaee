/-
  No cell of these rows narrows 'for every input' (looked for: loops, veiled, ifaces, maps, wideKeys, modest, calm, conditions, laid).
  DERIVED. THE GIVEN ROWS OF THIS SEAT. 10 by the template 'for every input the law returns true; each argument reads behind the call as it read before'; 0 by the template 'total and deterministic' (their statements: YtfcebglkdfadcaaTotals.lean).
  GIVEN WITH THE SEED: the statements are not yours to turn. If you find one false, say at which input.
  Laid BY PROGRAM, IN A SANDBOX (cutbox-rows.mjs): the forced cells as the released guide's own fill.sh prints them over the translation e133dcb1d7923982… (all of the seat's roots in one cut). By AI agents, Wed Nov 11 2026. No macro, syntax, notation, axiom, sorry.
-/
import Derived.Test.YtfcebglkdfadcaaChecked
import GoSem.Claim
import GoSem.ClaimJoined
import GoSem.ClaimMapViews
import Derived.JoinedTies
import Derived.KernelRfl
namespace Go.Proofs.Ytfcebglkdfadcaa
/- THE CELL 'sum', in the pinned program and in every row, IS THE sha256 OF THE DUMP (.gsa) THAT YtfcebglkdfadcaaProg.lean LOADS. Nothing in Lean hashes anything: it is a label: what it is worth is what the hold of that sum in a sandbox is worth. -/
noncomputable def Try.pinned : Pinned := { name := "ytfcebglkdfadcaa", sum := "e133dcb1d7923982526dd299613ea043172b72897aa6bb57ffa49508ce056a83", checked := Try.checked }
namespace Rows
def none {H : Type} : Left H := { results := [], args := [] }

/-- 'laws.FnExactIsEvent': WHATEVER THE INPUT: true; the input reads as it did. -/
def fnExactIsEventSpec : ChangeSpec := { name := "fnExactIsEvent", fn := fun _ => fun
  | [d] => { results := [.lit (.bool true)], args := [d] }
  | _ => none }
def fnExactIsEventRow : OpenClaim := { program := "ytfcebglkdfadcaa", sum := "e133dcb1d7923982526dd299613ea043172b72897aa6bb57ffa49508ce056a83", func := "loop.example/g00843/laws.FnExactIsEvent", spec := "fnExactIsEvent", apart := false }
def FnExactIsEventSaid : Prop := fnExactIsEventRow.holds Try.pinned (OpenSpec.ofChange fnExactIsEventSpec)

/-- ITS FALSE NEIGHBOUR: 'it returns false'. Refute it at one input. -/
def fnExactIsEventWrong : ChangeSpec := { name := "fnExactIsEvent", fn := fun _ => fun
  | [d] => { results := [.lit (.bool false)], args := [d] }
  | _ => none }
def FnExactIsEventWrongFalsely : Prop := fnExactIsEventRow.holds Try.pinned (OpenSpec.ofChange fnExactIsEventWrong)

/-- 'laws.FnExactIsRecord': WHATEVER THE INPUT: true; the input reads as it did. -/
def fnExactIsRecordSpec : ChangeSpec := { name := "fnExactIsRecord", fn := fun _ => fun
  | [d] => { results := [.lit (.bool true)], args := [d] }
  | _ => none }
def fnExactIsRecordRow : OpenClaim := { program := "ytfcebglkdfadcaa", sum := "e133dcb1d7923982526dd299613ea043172b72897aa6bb57ffa49508ce056a83", func := "loop.example/g00843/laws.FnExactIsRecord", spec := "fnExactIsRecord", apart := false }
def FnExactIsRecordSaid : Prop := fnExactIsRecordRow.holds Try.pinned (OpenSpec.ofChange fnExactIsRecordSpec)

/-- ITS FALSE NEIGHBOUR: 'it returns false'. Refute it at one input. -/
def fnExactIsRecordWrong : ChangeSpec := { name := "fnExactIsRecord", fn := fun _ => fun
  | [d] => { results := [.lit (.bool false)], args := [d] }
  | _ => none }
def FnExactIsRecordWrongFalsely : Prop := fnExactIsRecordRow.holds Try.pinned (OpenSpec.ofChange fnExactIsRecordWrong)

/-- 'laws.FnExactLongestGap': WHATEVER THE INPUT: true; the input reads as it did. -/
def fnExactLongestGapSpec : ChangeSpec := { name := "fnExactLongestGap", fn := fun _ => fun
  | [d] => { results := [.lit (.bool true)], args := [d] }
  | _ => none }
def fnExactLongestGapRow : OpenClaim := { program := "ytfcebglkdfadcaa", sum := "e133dcb1d7923982526dd299613ea043172b72897aa6bb57ffa49508ce056a83", func := "loop.example/g00843/laws.FnExactLongestGap", spec := "fnExactLongestGap", apart := false }
def FnExactLongestGapSaid : Prop := fnExactLongestGapRow.holds Try.pinned (OpenSpec.ofChange fnExactLongestGapSpec)

/-- ITS FALSE NEIGHBOUR: 'it returns false'. Refute it at one input. -/
def fnExactLongestGapWrong : ChangeSpec := { name := "fnExactLongestGap", fn := fun _ => fun
  | [d] => { results := [.lit (.bool false)], args := [d] }
  | _ => none }
def FnExactLongestGapWrongFalsely : Prop := fnExactLongestGapRow.holds Try.pinned (OpenSpec.ofChange fnExactLongestGapWrong)

/-- 'laws.FnExactFirstWith': WHATEVER THE INPUT: true; the input reads as it did. -/
def fnExactFirstWithSpec : ChangeSpec := { name := "fnExactFirstWith", fn := fun _ => fun
  | [d1, d2, d3] => { results := [.lit (.bool true)], args := [d1, d2, d3] }
  | _ => none }
def fnExactFirstWithRow : OpenClaim := { program := "ytfcebglkdfadcaa", sum := "e133dcb1d7923982526dd299613ea043172b72897aa6bb57ffa49508ce056a83", func := "loop.example/g00843/laws.FnExactFirstWith", spec := "fnExactFirstWith", unfollowed := true, recurses := true, apart := false }
def FnExactFirstWithSaid : Prop := fnExactFirstWithRow.holds Try.pinned (OpenSpec.ofChange fnExactFirstWithSpec)

/-- ITS FALSE NEIGHBOUR: 'it returns false'. Refute it at one input. -/
def fnExactFirstWithWrong : ChangeSpec := { name := "fnExactFirstWith", fn := fun _ => fun
  | [d1, d2, d3] => { results := [.lit (.bool false)], args := [d1, d2, d3] }
  | _ => none }
def FnExactFirstWithWrongFalsely : Prop := fnExactFirstWithRow.holds Try.pinned (OpenSpec.ofChange fnExactFirstWithWrong)

/-- 'laws.FnExactEventsOf': WHATEVER THE INPUT: true; the input reads as it did. -/
def fnExactEventsOfSpec : ChangeSpec := { name := "fnExactEventsOf", fn := fun _ => fun
  | [d1, d2] => { results := [.lit (.bool true)], args := [d1, d2] }
  | _ => none }
def fnExactEventsOfRow : OpenClaim := { program := "ytfcebglkdfadcaa", sum := "e133dcb1d7923982526dd299613ea043172b72897aa6bb57ffa49508ce056a83", func := "loop.example/g00843/laws.FnExactEventsOf", spec := "fnExactEventsOf", unfollowed := true, recurses := true, apart := false }
def FnExactEventsOfSaid : Prop := fnExactEventsOfRow.holds Try.pinned (OpenSpec.ofChange fnExactEventsOfSpec)

/-- ITS FALSE NEIGHBOUR: 'it returns false'. Refute it at one input. -/
def fnExactEventsOfWrong : ChangeSpec := { name := "fnExactEventsOf", fn := fun _ => fun
  | [d1, d2] => { results := [.lit (.bool false)], args := [d1, d2] }
  | _ => none }
def FnExactEventsOfWrongFalsely : Prop := fnExactEventsOfRow.holds Try.pinned (OpenSpec.ofChange fnExactEventsOfWrong)

/-- 'laws.FnExactEventsWithin': WHATEVER THE INPUT: true; the input reads as it did. -/
def fnExactEventsWithinSpec : ChangeSpec := { name := "fnExactEventsWithin", fn := fun _ => fun
  | [d1, d2, d3] => { results := [.lit (.bool true)], args := [d1, d2, d3] }
  | _ => none }
def fnExactEventsWithinRow : OpenClaim := { program := "ytfcebglkdfadcaa", sum := "e133dcb1d7923982526dd299613ea043172b72897aa6bb57ffa49508ce056a83", func := "loop.example/g00843/laws.FnExactEventsWithin", spec := "fnExactEventsWithin", unfollowed := true, recurses := true, apart := false }
def FnExactEventsWithinSaid : Prop := fnExactEventsWithinRow.holds Try.pinned (OpenSpec.ofChange fnExactEventsWithinSpec)

/-- ITS FALSE NEIGHBOUR: 'it returns false'. Refute it at one input. -/
def fnExactEventsWithinWrong : ChangeSpec := { name := "fnExactEventsWithin", fn := fun _ => fun
  | [d1, d2, d3] => { results := [.lit (.bool false)], args := [d1, d2, d3] }
  | _ => none }
def FnExactEventsWithinWrongFalsely : Prop := fnExactEventsWithinRow.holds Try.pinned (OpenSpec.ofChange fnExactEventsWithinWrong)

/-- 'laws.FnExactAddEvent': WHATEVER THE INPUT: true; the input reads as it did. -/
def fnExactAddEventSpec : ChangeSpec := { name := "fnExactAddEvent", fn := fun _ => fun
  | [d1, d2] => { results := [.lit (.bool true)], args := [d1, d2] }
  | _ => none }
def fnExactAddEventRow : OpenClaim := { program := "ytfcebglkdfadcaa", sum := "e133dcb1d7923982526dd299613ea043172b72897aa6bb57ffa49508ce056a83", func := "loop.example/g00843/laws.FnExactAddEvent", spec := "fnExactAddEvent", unfollowed := true, recurses := true, apart := false }
def FnExactAddEventSaid : Prop := fnExactAddEventRow.holds Try.pinned (OpenSpec.ofChange fnExactAddEventSpec)

/-- ITS FALSE NEIGHBOUR: 'it returns false'. Refute it at one input. -/
def fnExactAddEventWrong : ChangeSpec := { name := "fnExactAddEvent", fn := fun _ => fun
  | [d1, d2] => { results := [.lit (.bool false)], args := [d1, d2] }
  | _ => none }
def FnExactAddEventWrongFalsely : Prop := fnExactAddEventRow.holds Try.pinned (OpenSpec.ofChange fnExactAddEventWrong)

/-- 'laws.FnExactMergeRecords': WHATEVER THE INPUT: true; the input reads as it did. -/
def fnExactMergeRecordsSpec : ChangeSpec := { name := "fnExactMergeRecords", fn := fun _ => fun
  | [d1, d2] => { results := [.lit (.bool true)], args := [d1, d2] }
  | _ => none }
def fnExactMergeRecordsRow : OpenClaim := { program := "ytfcebglkdfadcaa", sum := "e133dcb1d7923982526dd299613ea043172b72897aa6bb57ffa49508ce056a83", func := "loop.example/g00843/laws.FnExactMergeRecords", spec := "fnExactMergeRecords", unfollowed := true, recurses := true, apart := false }
def FnExactMergeRecordsSaid : Prop := fnExactMergeRecordsRow.holds Try.pinned (OpenSpec.ofChange fnExactMergeRecordsSpec)

/-- ITS FALSE NEIGHBOUR: 'it returns false'. Refute it at one input. -/
def fnExactMergeRecordsWrong : ChangeSpec := { name := "fnExactMergeRecords", fn := fun _ => fun
  | [d1, d2] => { results := [.lit (.bool false)], args := [d1, d2] }
  | _ => none }
def FnExactMergeRecordsWrongFalsely : Prop := fnExactMergeRecordsRow.holds Try.pinned (OpenSpec.ofChange fnExactMergeRecordsWrong)

/-- 'laws.FnExactCountKinds': WHATEVER THE INPUT: true; the input reads as it did. -/
def fnExactCountKindsSpec : ChangeSpec := { name := "fnExactCountKinds", fn := fun _ => fun
  | [d] => { results := [.lit (.bool true)], args := [d] }
  | _ => none }
def fnExactCountKindsRow : OpenClaim := { program := "ytfcebglkdfadcaa", sum := "e133dcb1d7923982526dd299613ea043172b72897aa6bb57ffa49508ce056a83", func := "loop.example/g00843/laws.FnExactCountKinds", spec := "fnExactCountKinds", unfollowed := true, recurses := true, apart := false }
def FnExactCountKindsSaid : Prop := fnExactCountKindsRow.holds Try.pinned (OpenSpec.ofChange fnExactCountKindsSpec)

/-- ITS FALSE NEIGHBOUR: 'it returns false'. Refute it at one input. -/
def fnExactCountKindsWrong : ChangeSpec := { name := "fnExactCountKinds", fn := fun _ => fun
  | [d] => { results := [.lit (.bool false)], args := [d] }
  | _ => none }
def FnExactCountKindsWrongFalsely : Prop := fnExactCountKindsRow.holds Try.pinned (OpenSpec.ofChange fnExactCountKindsWrong)

/-- 'laws.FnRecords': WHATEVER THE INPUT: true; the input reads as it did. -/
def fnRecordsSpec : ChangeSpec := { name := "fnRecords", fn := fun _ => fun
  | [d] => { results := [.lit (.bool true)], args := [d] }
  | _ => none }
def fnRecordsRow : OpenClaim := { program := "ytfcebglkdfadcaa", sum := "e133dcb1d7923982526dd299613ea043172b72897aa6bb57ffa49508ce056a83", func := "loop.example/g00843/laws.FnRecords", spec := "fnRecords", unfollowed := true, recurses := true, apart := false }
def FnRecordsSaid : Prop := fnRecordsRow.holds Try.pinned (OpenSpec.ofChange fnRecordsSpec)

/-- ITS FALSE NEIGHBOUR: 'it returns false'. Refute it at one input. -/
def fnRecordsWrong : ChangeSpec := { name := "fnRecords", fn := fun _ => fun
  | [d] => { results := [.lit (.bool false)], args := [d] }
  | _ => none }
def FnRecordsWrongFalsely : Prop := fnRecordsRow.holds Try.pinned (OpenSpec.ofChange fnRecordsWrong)

/- THE SECOND FORM. 'bulk': how many values and letters a reading holds, each counted each time it is reached (what is shared counts as often as it is met; a slice's spare places count too). A statement '..UptoSaid' is the law's where the arguments, and the package variables that the reading takes, are together of bulk at most 1048576: NARROWER than '..Said'. Prove '..Said' where nothing that the law and all that it calls make is longer than what came in: it says more and counts as full. Else prove '..UptoSaid'. A law counts once. -/
mutual
def uptoBulk {H : Type} : DataW H → Nat
  | .lit (.string bytes) => bytes.length + 1
  | .lit _ => 1
  | .nil => 1
  | .ptr d => uptoBulk d + 1
  | .slice elems spare => uptoBulkAll elems + uptoBulkAll spare + 1
  | .agg parts => uptoBulkAll parts + 1
  | .iface _ d => uptoBulk d + 1
  | .map entries => uptoBulkEntries entries + 1
  | .held _ => 1
def uptoBulkAll {H : Type} : List (DataW H) → Nat
  | [] => 0
  | d :: r => uptoBulk d + uptoBulkAll r
def uptoBulkEntries {H : Type} : List (Lit × DataW H) → Nat
  | [] => 0
  | x :: r => uptoBulkEntry x + uptoBulkEntries r
def uptoBulkEntry {H : Type} : Lit × DataW H → Nat
  | (.string bytes, d) => bytes.length + uptoBulk d + 1
  | (_, d) => uptoBulk d + 1
 end
def uptoSmall : (H : Type) → List (DataW H) → Bool := fun _ ds => decide (uptoBulkAll ds ≤ 1048576)
def OpenSpec.upto (s : _root_.Go.ChangeSpec) : _root_.Go.OpenSpec := { _root_.Go.OpenSpec.ofChange s with cond := some uptoSmall }

/-- 'laws.FnExactIsEvent', WHERE WHAT IT READS IS OF BULK AT MOST 1048576: true; the input reads as it did. -/
def fnExactIsEventUptoRow : OpenClaim := { program := "ytfcebglkdfadcaa", sum := "e133dcb1d7923982526dd299613ea043172b72897aa6bb57ffa49508ce056a83", func := "loop.example/g00843/laws.FnExactIsEvent", spec := "fnExactIsEvent", apart := false, narrowed := true }
def FnExactIsEventUptoSaid : Prop := fnExactIsEventUptoRow.holds Try.pinned (OpenSpec.upto fnExactIsEventSpec)

/-- 'laws.FnExactIsRecord', WHERE WHAT IT READS IS OF BULK AT MOST 1048576: true; the input reads as it did. -/
def fnExactIsRecordUptoRow : OpenClaim := { program := "ytfcebglkdfadcaa", sum := "e133dcb1d7923982526dd299613ea043172b72897aa6bb57ffa49508ce056a83", func := "loop.example/g00843/laws.FnExactIsRecord", spec := "fnExactIsRecord", apart := false, narrowed := true }
def FnExactIsRecordUptoSaid : Prop := fnExactIsRecordUptoRow.holds Try.pinned (OpenSpec.upto fnExactIsRecordSpec)

/-- 'laws.FnExactLongestGap', WHERE WHAT IT READS IS OF BULK AT MOST 1048576: true; the input reads as it did. -/
def fnExactLongestGapUptoRow : OpenClaim := { program := "ytfcebglkdfadcaa", sum := "e133dcb1d7923982526dd299613ea043172b72897aa6bb57ffa49508ce056a83", func := "loop.example/g00843/laws.FnExactLongestGap", spec := "fnExactLongestGap", apart := false, narrowed := true }
def FnExactLongestGapUptoSaid : Prop := fnExactLongestGapUptoRow.holds Try.pinned (OpenSpec.upto fnExactLongestGapSpec)

/-- 'laws.FnExactFirstWith', WHERE WHAT IT READS IS OF BULK AT MOST 1048576: true; the input reads as it did. -/
def fnExactFirstWithUptoRow : OpenClaim := { program := "ytfcebglkdfadcaa", sum := "e133dcb1d7923982526dd299613ea043172b72897aa6bb57ffa49508ce056a83", func := "loop.example/g00843/laws.FnExactFirstWith", spec := "fnExactFirstWith", unfollowed := true, recurses := true, apart := false, narrowed := true }
def FnExactFirstWithUptoSaid : Prop := fnExactFirstWithUptoRow.holds Try.pinned (OpenSpec.upto fnExactFirstWithSpec)

/-- 'laws.FnExactEventsOf', WHERE WHAT IT READS IS OF BULK AT MOST 1048576: true; the input reads as it did. -/
def fnExactEventsOfUptoRow : OpenClaim := { program := "ytfcebglkdfadcaa", sum := "e133dcb1d7923982526dd299613ea043172b72897aa6bb57ffa49508ce056a83", func := "loop.example/g00843/laws.FnExactEventsOf", spec := "fnExactEventsOf", unfollowed := true, recurses := true, apart := false, narrowed := true }
def FnExactEventsOfUptoSaid : Prop := fnExactEventsOfUptoRow.holds Try.pinned (OpenSpec.upto fnExactEventsOfSpec)

/-- 'laws.FnExactEventsWithin', WHERE WHAT IT READS IS OF BULK AT MOST 1048576: true; the input reads as it did. -/
def fnExactEventsWithinUptoRow : OpenClaim := { program := "ytfcebglkdfadcaa", sum := "e133dcb1d7923982526dd299613ea043172b72897aa6bb57ffa49508ce056a83", func := "loop.example/g00843/laws.FnExactEventsWithin", spec := "fnExactEventsWithin", unfollowed := true, recurses := true, apart := false, narrowed := true }
def FnExactEventsWithinUptoSaid : Prop := fnExactEventsWithinUptoRow.holds Try.pinned (OpenSpec.upto fnExactEventsWithinSpec)

/-- 'laws.FnExactAddEvent', WHERE WHAT IT READS IS OF BULK AT MOST 1048576: true; the input reads as it did. -/
def fnExactAddEventUptoRow : OpenClaim := { program := "ytfcebglkdfadcaa", sum := "e133dcb1d7923982526dd299613ea043172b72897aa6bb57ffa49508ce056a83", func := "loop.example/g00843/laws.FnExactAddEvent", spec := "fnExactAddEvent", unfollowed := true, recurses := true, apart := false, narrowed := true }
def FnExactAddEventUptoSaid : Prop := fnExactAddEventUptoRow.holds Try.pinned (OpenSpec.upto fnExactAddEventSpec)

/-- 'laws.FnExactMergeRecords', WHERE WHAT IT READS IS OF BULK AT MOST 1048576: true; the input reads as it did. -/
def fnExactMergeRecordsUptoRow : OpenClaim := { program := "ytfcebglkdfadcaa", sum := "e133dcb1d7923982526dd299613ea043172b72897aa6bb57ffa49508ce056a83", func := "loop.example/g00843/laws.FnExactMergeRecords", spec := "fnExactMergeRecords", unfollowed := true, recurses := true, apart := false, narrowed := true }
def FnExactMergeRecordsUptoSaid : Prop := fnExactMergeRecordsUptoRow.holds Try.pinned (OpenSpec.upto fnExactMergeRecordsSpec)

/-- 'laws.FnExactCountKinds', WHERE WHAT IT READS IS OF BULK AT MOST 1048576: true; the input reads as it did. -/
def fnExactCountKindsUptoRow : OpenClaim := { program := "ytfcebglkdfadcaa", sum := "e133dcb1d7923982526dd299613ea043172b72897aa6bb57ffa49508ce056a83", func := "loop.example/g00843/laws.FnExactCountKinds", spec := "fnExactCountKinds", unfollowed := true, recurses := true, apart := false, narrowed := true }
def FnExactCountKindsUptoSaid : Prop := fnExactCountKindsUptoRow.holds Try.pinned (OpenSpec.upto fnExactCountKindsSpec)

/-- 'laws.FnRecords', WHERE WHAT IT READS IS OF BULK AT MOST 1048576: true; the input reads as it did. -/
def fnRecordsUptoRow : OpenClaim := { program := "ytfcebglkdfadcaa", sum := "e133dcb1d7923982526dd299613ea043172b72897aa6bb57ffa49508ce056a83", func := "loop.example/g00843/laws.FnRecords", spec := "fnRecords", unfollowed := true, recurses := true, apart := false, narrowed := true }
def FnRecordsUptoSaid : Prop := fnRecordsUptoRow.holds Try.pinned (OpenSpec.upto fnRecordsSpec)

end Rows
end Go.Proofs.Ytfcebglkdfadcaa
