/-
  No cell of these rows narrows 'for every input' (looked for: loops, veiled, ifaces, maps, wideKeys, modest, calm, conditions, laid).
  DERIVED. THE GIVEN ROWS OF THIS SEAT. 11 by the template 'for every input the law returns true; each argument reads behind the call as it read before'; 0 by the template 'total and deterministic' (their statements: YtopnablbecepjaaTotals.lean).
  GIVEN WITH THE SEED: the statements are not yours to turn. If you find one false, say at which input.
  Laid BY PROGRAM, IN A SANDBOX (cutbox-rows.mjs): the forced cells as the released guide's own fill.sh prints them over the translation 4fd798ec5eb35f20… (all of the seat's roots in one cut). By AI agents, Wed Nov 11 2026. No macro, syntax, notation, axiom, sorry.
-/
import Derived.Test.YtopnablbecepjaaChecked
import GoSem.Claim
import GoSem.ClaimJoined
import GoSem.ClaimMapViews
import Derived.JoinedTies
import Derived.KernelRfl
namespace Go.Proofs.Ytopnablbecepjaa
/- THE CELL 'sum', in the pinned program and in every row, IS THE sha256 OF THE DUMP (.gsa) THAT YtopnablbecepjaaProg.lean LOADS. Nothing in Lean hashes anything: it is a label: what it is worth is what the hold of that sum in a sandbox is worth. -/
noncomputable def Try.pinned : Pinned := { name := "ytopnablbecepjaa", sum := "4fd798ec5eb35f20a5dad947562607e8a771031df3a7a4afb2d36ed55bebde3c", checked := Try.checked }
namespace Rows
def none {H : Type} : Left H := { results := [], args := [] }

/-- 'laws.FnExactNeedsSignal': WHATEVER THE INPUT: true; the input reads as it did. -/
def fnExactNeedsSignalSpec : ChangeSpec := { name := "fnExactNeedsSignal", fn := fun _ => fun
  | [d1, d2, d3] => { results := [.lit (.bool true)], args := [d1, d2, d3] }
  | _ => none }
def fnExactNeedsSignalRow : OpenClaim := { program := "ytopnablbecepjaa", sum := "4fd798ec5eb35f20a5dad947562607e8a771031df3a7a4afb2d36ed55bebde3c", func := "loop.example/g00843/laws.FnExactNeedsSignal", spec := "fnExactNeedsSignal", apart := false }
def FnExactNeedsSignalSaid : Prop := fnExactNeedsSignalRow.holds Try.pinned (OpenSpec.ofChange fnExactNeedsSignalSpec)

/-- ITS FALSE NEIGHBOUR: 'it returns false'. Refute it at one input. -/
def fnExactNeedsSignalWrong : ChangeSpec := { name := "fnExactNeedsSignal", fn := fun _ => fun
  | [d1, d2, d3] => { results := [.lit (.bool false)], args := [d1, d2, d3] }
  | _ => none }
def FnExactNeedsSignalWrongFalsely : Prop := fnExactNeedsSignalRow.holds Try.pinned (OpenSpec.ofChange fnExactNeedsSignalWrong)

/-- 'laws.FnExactMakeRing': WHATEVER THE INPUT: true; the input reads as it did. -/
def fnExactMakeRingSpec : ChangeSpec := { name := "fnExactMakeRing", fn := fun _ => fun
  | [d1, d2] => { results := [.lit (.bool true)], args := [d1, d2] }
  | _ => none }
def fnExactMakeRingRow : OpenClaim := { program := "ytopnablbecepjaa", sum := "4fd798ec5eb35f20a5dad947562607e8a771031df3a7a4afb2d36ed55bebde3c", func := "loop.example/g00843/laws.FnExactMakeRing", spec := "fnExactMakeRing", apart := false }
def FnExactMakeRingSaid : Prop := fnExactMakeRingRow.holds Try.pinned (OpenSpec.ofChange fnExactMakeRingSpec)

/-- ITS FALSE NEIGHBOUR: 'it returns false'. Refute it at one input. -/
def fnExactMakeRingWrong : ChangeSpec := { name := "fnExactMakeRing", fn := fun _ => fun
  | [d1, d2] => { results := [.lit (.bool false)], args := [d1, d2] }
  | _ => none }
def FnExactMakeRingWrongFalsely : Prop := fnExactMakeRingRow.holds Try.pinned (OpenSpec.ofChange fnExactMakeRingWrong)

/-- 'laws.FnExactIsRing': WHATEVER THE INPUT: true; the input reads as it did. -/
def fnExactIsRingSpec : ChangeSpec := { name := "fnExactIsRing", fn := fun _ => fun
  | [d] => { results := [.lit (.bool true)], args := [d] }
  | _ => none }
def fnExactIsRingRow : OpenClaim := { program := "ytopnablbecepjaa", sum := "4fd798ec5eb35f20a5dad947562607e8a771031df3a7a4afb2d36ed55bebde3c", func := "loop.example/g00843/laws.FnExactIsRing", spec := "fnExactIsRing", apart := false }
def FnExactIsRingSaid : Prop := fnExactIsRingRow.holds Try.pinned (OpenSpec.ofChange fnExactIsRingSpec)

/-- ITS FALSE NEIGHBOUR: 'it returns false'. Refute it at one input. -/
def fnExactIsRingWrong : ChangeSpec := { name := "fnExactIsRing", fn := fun _ => fun
  | [d] => { results := [.lit (.bool false)], args := [d] }
  | _ => none }
def FnExactIsRingWrongFalsely : Prop := fnExactIsRingRow.holds Try.pinned (OpenSpec.ofChange fnExactIsRingWrong)

/-- 'laws.FnExactRingWords': WHATEVER THE INPUT: true; the input reads as it did. -/
def fnExactRingWordsSpec : ChangeSpec := { name := "fnExactRingWords", fn := fun _ => fun
  | [d] => { results := [.lit (.bool true)], args := [d] }
  | _ => none }
def fnExactRingWordsRow : OpenClaim := { program := "ytopnablbecepjaa", sum := "4fd798ec5eb35f20a5dad947562607e8a771031df3a7a4afb2d36ed55bebde3c", func := "loop.example/g00843/laws.FnExactRingWords", spec := "fnExactRingWords", apart := false }
def FnExactRingWordsSaid : Prop := fnExactRingWordsRow.holds Try.pinned (OpenSpec.ofChange fnExactRingWordsSpec)

/-- ITS FALSE NEIGHBOUR: 'it returns false'. Refute it at one input. -/
def fnExactRingWordsWrong : ChangeSpec := { name := "fnExactRingWords", fn := fun _ => fun
  | [d] => { results := [.lit (.bool false)], args := [d] }
  | _ => none }
def FnExactRingWordsWrongFalsely : Prop := fnExactRingWordsRow.holds Try.pinned (OpenSpec.ofChange fnExactRingWordsWrong)

/-- 'laws.FnExactTakeWords': WHATEVER THE INPUT: true; the input reads as it did. -/
def fnExactTakeWordsSpec : ChangeSpec := { name := "fnExactTakeWords", fn := fun _ => fun
  | [d1, d2] => { results := [.lit (.bool true)], args := [d1, d2] }
  | _ => none }
def fnExactTakeWordsRow : OpenClaim := { program := "ytopnablbecepjaa", sum := "4fd798ec5eb35f20a5dad947562607e8a771031df3a7a4afb2d36ed55bebde3c", func := "loop.example/g00843/laws.FnExactTakeWords", spec := "fnExactTakeWords", apart := false }
def FnExactTakeWordsSaid : Prop := fnExactTakeWordsRow.holds Try.pinned (OpenSpec.ofChange fnExactTakeWordsSpec)

/-- ITS FALSE NEIGHBOUR: 'it returns false'. Refute it at one input. -/
def fnExactTakeWordsWrong : ChangeSpec := { name := "fnExactTakeWords", fn := fun _ => fun
  | [d1, d2] => { results := [.lit (.bool false)], args := [d1, d2] }
  | _ => none }
def FnExactTakeWordsWrongFalsely : Prop := fnExactTakeWordsRow.holds Try.pinned (OpenSpec.ofChange fnExactTakeWordsWrong)

/-- 'laws.FnExactTakeWord': WHATEVER THE INPUT: true; the input reads as it did. -/
def fnExactTakeWordSpec : ChangeSpec := { name := "fnExactTakeWord", fn := fun _ => fun
  | [d] => { results := [.lit (.bool true)], args := [d] }
  | _ => none }
def fnExactTakeWordRow : OpenClaim := { program := "ytopnablbecepjaa", sum := "4fd798ec5eb35f20a5dad947562607e8a771031df3a7a4afb2d36ed55bebde3c", func := "loop.example/g00843/laws.FnExactTakeWord", spec := "fnExactTakeWord", apart := false }
def FnExactTakeWordSaid : Prop := fnExactTakeWordRow.holds Try.pinned (OpenSpec.ofChange fnExactTakeWordSpec)

/-- ITS FALSE NEIGHBOUR: 'it returns false'. Refute it at one input. -/
def fnExactTakeWordWrong : ChangeSpec := { name := "fnExactTakeWord", fn := fun _ => fun
  | [d] => { results := [.lit (.bool false)], args := [d] }
  | _ => none }
def FnExactTakeWordWrongFalsely : Prop := fnExactTakeWordRow.holds Try.pinned (OpenSpec.ofChange fnExactTakeWordWrong)

/-- 'laws.FnExactResizeRing': WHATEVER THE INPUT: true; the input reads as it did. -/
def fnExactResizeRingSpec : ChangeSpec := { name := "fnExactResizeRing", fn := fun _ => fun
  | [d1, d2] => { results := [.lit (.bool true)], args := [d1, d2] }
  | _ => none }
def fnExactResizeRingRow : OpenClaim := { program := "ytopnablbecepjaa", sum := "4fd798ec5eb35f20a5dad947562607e8a771031df3a7a4afb2d36ed55bebde3c", func := "loop.example/g00843/laws.FnExactResizeRing", spec := "fnExactResizeRing", apart := false }
def FnExactResizeRingSaid : Prop := fnExactResizeRingRow.holds Try.pinned (OpenSpec.ofChange fnExactResizeRingSpec)

/-- ITS FALSE NEIGHBOUR: 'it returns false'. Refute it at one input. -/
def fnExactResizeRingWrong : ChangeSpec := { name := "fnExactResizeRing", fn := fun _ => fun
  | [d1, d2] => { results := [.lit (.bool false)], args := [d1, d2] }
  | _ => none }
def FnExactResizeRingWrongFalsely : Prop := fnExactResizeRingRow.holds Try.pinned (OpenSpec.ofChange fnExactResizeRingWrong)

/-- 'laws.FnExactPutWord': WHATEVER THE INPUT: true; the input reads as it did. -/
def fnExactPutWordSpec : ChangeSpec := { name := "fnExactPutWord", fn := fun _ => fun
  | [d1, d2] => { results := [.lit (.bool true)], args := [d1, d2] }
  | _ => none }
def fnExactPutWordRow : OpenClaim := { program := "ytopnablbecepjaa", sum := "4fd798ec5eb35f20a5dad947562607e8a771031df3a7a4afb2d36ed55bebde3c", func := "loop.example/g00843/laws.FnExactPutWord", spec := "fnExactPutWord", unfollowed := true, recurses := true, apart := false }
def FnExactPutWordSaid : Prop := fnExactPutWordRow.holds Try.pinned (OpenSpec.ofChange fnExactPutWordSpec)

/-- ITS FALSE NEIGHBOUR: 'it returns false'. Refute it at one input. -/
def fnExactPutWordWrong : ChangeSpec := { name := "fnExactPutWord", fn := fun _ => fun
  | [d1, d2] => { results := [.lit (.bool false)], args := [d1, d2] }
  | _ => none }
def FnExactPutWordWrongFalsely : Prop := fnExactPutWordRow.holds Try.pinned (OpenSpec.ofChange fnExactPutWordWrong)

/-- 'laws.FnExactPutWords': WHATEVER THE INPUT: true; the input reads as it did. -/
def fnExactPutWordsSpec : ChangeSpec := { name := "fnExactPutWords", fn := fun _ => fun
  | [d1, d2] => { results := [.lit (.bool true)], args := [d1, d2] }
  | _ => none }
def fnExactPutWordsRow : OpenClaim := { program := "ytopnablbecepjaa", sum := "4fd798ec5eb35f20a5dad947562607e8a771031df3a7a4afb2d36ed55bebde3c", func := "loop.example/g00843/laws.FnExactPutWords", spec := "fnExactPutWords", unfollowed := true, recurses := true, apart := false }
def FnExactPutWordsSaid : Prop := fnExactPutWordsRow.holds Try.pinned (OpenSpec.ofChange fnExactPutWordsSpec)

/-- ITS FALSE NEIGHBOUR: 'it returns false'. Refute it at one input. -/
def fnExactPutWordsWrong : ChangeSpec := { name := "fnExactPutWords", fn := fun _ => fun
  | [d1, d2] => { results := [.lit (.bool false)], args := [d1, d2] }
  | _ => none }
def FnExactPutWordsWrongFalsely : Prop := fnExactPutWordsRow.holds Try.pinned (OpenSpec.ofChange fnExactPutWordsWrong)

/-- 'laws.FnSignals': WHATEVER THE INPUT: true; the input reads as it did. -/
def fnSignalsSpec : ChangeSpec := { name := "fnSignals", fn := fun _ => fun
  | [d] => { results := [.lit (.bool true)], args := [d] }
  | _ => none }
def fnSignalsRow : OpenClaim := { program := "ytopnablbecepjaa", sum := "4fd798ec5eb35f20a5dad947562607e8a771031df3a7a4afb2d36ed55bebde3c", func := "loop.example/g00843/laws.FnSignals", spec := "fnSignals", apart := false }
def FnSignalsSaid : Prop := fnSignalsRow.holds Try.pinned (OpenSpec.ofChange fnSignalsSpec)

/-- ITS FALSE NEIGHBOUR: 'it returns false'. Refute it at one input. -/
def fnSignalsWrong : ChangeSpec := { name := "fnSignals", fn := fun _ => fun
  | [d] => { results := [.lit (.bool false)], args := [d] }
  | _ => none }
def FnSignalsWrongFalsely : Prop := fnSignalsRow.holds Try.pinned (OpenSpec.ofChange fnSignalsWrong)

/-- 'laws.FnRings': WHATEVER THE INPUT: true; the input reads as it did. -/
def fnRingsSpec : ChangeSpec := { name := "fnRings", fn := fun _ => fun
  | [d] => { results := [.lit (.bool true)], args := [d] }
  | _ => none }
def fnRingsRow : OpenClaim := { program := "ytopnablbecepjaa", sum := "4fd798ec5eb35f20a5dad947562607e8a771031df3a7a4afb2d36ed55bebde3c", func := "loop.example/g00843/laws.FnRings", spec := "fnRings", unfollowed := true, recurses := true, apart := false }
def FnRingsSaid : Prop := fnRingsRow.holds Try.pinned (OpenSpec.ofChange fnRingsSpec)

/-- ITS FALSE NEIGHBOUR: 'it returns false'. Refute it at one input. -/
def fnRingsWrong : ChangeSpec := { name := "fnRings", fn := fun _ => fun
  | [d] => { results := [.lit (.bool false)], args := [d] }
  | _ => none }
def FnRingsWrongFalsely : Prop := fnRingsRow.holds Try.pinned (OpenSpec.ofChange fnRingsWrong)

/- THE SECOND FORM. 'bulk': how many values and letters a reading holds, each counted each time it is reached (what is shared counts as often as it is met; a slice's spare places count too). A statement '..UptoSaid' is the law's where the arguments, and the package variables that the reading takes, are together of bulk at most 1048576: NARROWER than '..Said'. Prove '..Said' where nothing that the law and all that it calls make is longer than what came in: it says more and counts as full. Else prove '..UptoSaid'. A law counts once. -/
mutual
def uptoBulk {H : Type} : DataW H → Nat
  | .lit (.string bytes) => bytes.length + 1
  | .lit _ => 1
  | .nil => 1
  | .ptr d => uptoBulk d + 1
  | .slice elems spare => uptoBulkAll elems + uptoBulkAll spare + 1
  | .agg parts => uptoBulkAll parts + 1
  | .iface _ d => uptoBulk d + 1
  | .map entries => uptoBulkEntries entries + 1
  | .held _ => 1
def uptoBulkAll {H : Type} : List (DataW H) → Nat
  | [] => 0
  | d :: r => uptoBulk d + uptoBulkAll r
def uptoBulkEntries {H : Type} : List (Lit × DataW H) → Nat
  | [] => 0
  | x :: r => uptoBulkEntry x + uptoBulkEntries r
def uptoBulkEntry {H : Type} : Lit × DataW H → Nat
  | (.string bytes, d) => bytes.length + uptoBulk d + 1
  | (_, d) => uptoBulk d + 1
 end
def uptoSmall : (H : Type) → List (DataW H) → Bool := fun _ ds => decide (uptoBulkAll ds ≤ 1048576)
def OpenSpec.upto (s : _root_.Go.ChangeSpec) : _root_.Go.OpenSpec := { _root_.Go.OpenSpec.ofChange s with cond := some uptoSmall }

/-- 'laws.FnExactNeedsSignal', WHERE WHAT IT READS IS OF BULK AT MOST 1048576: true; the input reads as it did. -/
def fnExactNeedsSignalUptoRow : OpenClaim := { program := "ytopnablbecepjaa", sum := "4fd798ec5eb35f20a5dad947562607e8a771031df3a7a4afb2d36ed55bebde3c", func := "loop.example/g00843/laws.FnExactNeedsSignal", spec := "fnExactNeedsSignal", apart := false, narrowed := true }
def FnExactNeedsSignalUptoSaid : Prop := fnExactNeedsSignalUptoRow.holds Try.pinned (OpenSpec.upto fnExactNeedsSignalSpec)

/-- 'laws.FnExactMakeRing', WHERE WHAT IT READS IS OF BULK AT MOST 1048576: true; the input reads as it did. -/
def fnExactMakeRingUptoRow : OpenClaim := { program := "ytopnablbecepjaa", sum := "4fd798ec5eb35f20a5dad947562607e8a771031df3a7a4afb2d36ed55bebde3c", func := "loop.example/g00843/laws.FnExactMakeRing", spec := "fnExactMakeRing", apart := false, narrowed := true }
def FnExactMakeRingUptoSaid : Prop := fnExactMakeRingUptoRow.holds Try.pinned (OpenSpec.upto fnExactMakeRingSpec)

/-- 'laws.FnExactIsRing', WHERE WHAT IT READS IS OF BULK AT MOST 1048576: true; the input reads as it did. -/
def fnExactIsRingUptoRow : OpenClaim := { program := "ytopnablbecepjaa", sum := "4fd798ec5eb35f20a5dad947562607e8a771031df3a7a4afb2d36ed55bebde3c", func := "loop.example/g00843/laws.FnExactIsRing", spec := "fnExactIsRing", apart := false, narrowed := true }
def FnExactIsRingUptoSaid : Prop := fnExactIsRingUptoRow.holds Try.pinned (OpenSpec.upto fnExactIsRingSpec)

/-- 'laws.FnExactRingWords', WHERE WHAT IT READS IS OF BULK AT MOST 1048576: true; the input reads as it did. -/
def fnExactRingWordsUptoRow : OpenClaim := { program := "ytopnablbecepjaa", sum := "4fd798ec5eb35f20a5dad947562607e8a771031df3a7a4afb2d36ed55bebde3c", func := "loop.example/g00843/laws.FnExactRingWords", spec := "fnExactRingWords", apart := false, narrowed := true }
def FnExactRingWordsUptoSaid : Prop := fnExactRingWordsUptoRow.holds Try.pinned (OpenSpec.upto fnExactRingWordsSpec)

/-- 'laws.FnExactTakeWords', WHERE WHAT IT READS IS OF BULK AT MOST 1048576: true; the input reads as it did. -/
def fnExactTakeWordsUptoRow : OpenClaim := { program := "ytopnablbecepjaa", sum := "4fd798ec5eb35f20a5dad947562607e8a771031df3a7a4afb2d36ed55bebde3c", func := "loop.example/g00843/laws.FnExactTakeWords", spec := "fnExactTakeWords", apart := false, narrowed := true }
def FnExactTakeWordsUptoSaid : Prop := fnExactTakeWordsUptoRow.holds Try.pinned (OpenSpec.upto fnExactTakeWordsSpec)

/-- 'laws.FnExactTakeWord', WHERE WHAT IT READS IS OF BULK AT MOST 1048576: true; the input reads as it did. -/
def fnExactTakeWordUptoRow : OpenClaim := { program := "ytopnablbecepjaa", sum := "4fd798ec5eb35f20a5dad947562607e8a771031df3a7a4afb2d36ed55bebde3c", func := "loop.example/g00843/laws.FnExactTakeWord", spec := "fnExactTakeWord", apart := false, narrowed := true }
def FnExactTakeWordUptoSaid : Prop := fnExactTakeWordUptoRow.holds Try.pinned (OpenSpec.upto fnExactTakeWordSpec)

/-- 'laws.FnExactResizeRing', WHERE WHAT IT READS IS OF BULK AT MOST 1048576: true; the input reads as it did. -/
def fnExactResizeRingUptoRow : OpenClaim := { program := "ytopnablbecepjaa", sum := "4fd798ec5eb35f20a5dad947562607e8a771031df3a7a4afb2d36ed55bebde3c", func := "loop.example/g00843/laws.FnExactResizeRing", spec := "fnExactResizeRing", apart := false, narrowed := true }
def FnExactResizeRingUptoSaid : Prop := fnExactResizeRingUptoRow.holds Try.pinned (OpenSpec.upto fnExactResizeRingSpec)

/-- 'laws.FnExactPutWord', WHERE WHAT IT READS IS OF BULK AT MOST 1048576: true; the input reads as it did. -/
def fnExactPutWordUptoRow : OpenClaim := { program := "ytopnablbecepjaa", sum := "4fd798ec5eb35f20a5dad947562607e8a771031df3a7a4afb2d36ed55bebde3c", func := "loop.example/g00843/laws.FnExactPutWord", spec := "fnExactPutWord", unfollowed := true, recurses := true, apart := false, narrowed := true }
def FnExactPutWordUptoSaid : Prop := fnExactPutWordUptoRow.holds Try.pinned (OpenSpec.upto fnExactPutWordSpec)

/-- 'laws.FnExactPutWords', WHERE WHAT IT READS IS OF BULK AT MOST 1048576: true; the input reads as it did. -/
def fnExactPutWordsUptoRow : OpenClaim := { program := "ytopnablbecepjaa", sum := "4fd798ec5eb35f20a5dad947562607e8a771031df3a7a4afb2d36ed55bebde3c", func := "loop.example/g00843/laws.FnExactPutWords", spec := "fnExactPutWords", unfollowed := true, recurses := true, apart := false, narrowed := true }
def FnExactPutWordsUptoSaid : Prop := fnExactPutWordsUptoRow.holds Try.pinned (OpenSpec.upto fnExactPutWordsSpec)

/-- 'laws.FnSignals', WHERE WHAT IT READS IS OF BULK AT MOST 1048576: true; the input reads as it did. -/
def fnSignalsUptoRow : OpenClaim := { program := "ytopnablbecepjaa", sum := "4fd798ec5eb35f20a5dad947562607e8a771031df3a7a4afb2d36ed55bebde3c", func := "loop.example/g00843/laws.FnSignals", spec := "fnSignals", apart := false, narrowed := true }
def FnSignalsUptoSaid : Prop := fnSignalsUptoRow.holds Try.pinned (OpenSpec.upto fnSignalsSpec)

/-- 'laws.FnRings', WHERE WHAT IT READS IS OF BULK AT MOST 1048576: true; the input reads as it did. -/
def fnRingsUptoRow : OpenClaim := { program := "ytopnablbecepjaa", sum := "4fd798ec5eb35f20a5dad947562607e8a771031df3a7a4afb2d36ed55bebde3c", func := "loop.example/g00843/laws.FnRings", spec := "fnRings", unfollowed := true, recurses := true, apart := false, narrowed := true }
def FnRingsUptoSaid : Prop := fnRingsUptoRow.holds Try.pinned (OpenSpec.upto fnRingsSpec)

end Rows
end Go.Proofs.Ytopnablbecepjaa
