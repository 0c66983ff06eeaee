/-
  No cell of these rows narrows 'for every input' (looked for: loops, veiled, ifaces, maps, wideKeys, modest, calm, conditions, laid).
  DERIVED. THE GIVEN ROWS OF THIS SEAT. 10 by the template 'for every input the law returns true; each argument reads behind the call as it read before'; 0 by the template 'total and deterministic' (their statements: YtlfligjpmodefaaTotals.lean).
  GIVEN WITH THE SEED: the statements are not yours to turn. If you find one false, say at which input.
  Laid BY PROGRAM, IN A SANDBOX (cutbox-rows.mjs): the forced cells as the released guide's own fill.sh prints them over the translation ba604a8ca2efc6d2… (all of the seat's roots in one cut). By AI agents, Wed Nov 11 2026. No macro, syntax, notation, axiom, sorry.
-/
import Derived.Test.YtlfligjpmodefaaChecked
import GoSem.Claim
import GoSem.ClaimJoined
import GoSem.ClaimMapViews
import Derived.JoinedTies
import Derived.KernelRfl
namespace Go.Proofs.Ytlfligjpmodefaa
/- THE CELL 'sum', in the pinned program and in every row, IS THE sha256 OF THE DUMP (.gsa) THAT YtlfligjpmodefaaProg.lean LOADS. Nothing in Lean hashes anything: it is a label: what it is worth is what the hold of that sum in a sandbox is worth. -/
noncomputable def Try.pinned : Pinned := { name := "ytlfligjpmodefaa", sum := "ba604a8ca2efc6d2ff900363a8e5a02d110e332e4e934b7d476f45b17abde84f", checked := Try.checked }
namespace Rows
def none {H : Type} : Left H := { results := [], args := [] }

/-- 'laws.FnExactAreBalloons': WHATEVER THE INPUT: true; the input reads as it did. -/
def fnExactAreBalloonsSpec : ChangeSpec := { name := "fnExactAreBalloons", fn := fun _ => fun
  | [d1, d2] => { results := [.lit (.bool true)], args := [d1, d2] }
  | _ => none }
def fnExactAreBalloonsRow : OpenClaim := { program := "ytlfligjpmodefaa", sum := "ba604a8ca2efc6d2ff900363a8e5a02d110e332e4e934b7d476f45b17abde84f", func := "loop.example/g00843/laws.FnExactAreBalloons", spec := "fnExactAreBalloons", unfollowed := true, recurses := true, apart := false }
def FnExactAreBalloonsSaid : Prop := fnExactAreBalloonsRow.holds Try.pinned (OpenSpec.ofChange fnExactAreBalloonsSpec)

/-- ITS FALSE NEIGHBOUR: 'it returns false'. Refute it at one input. -/
def fnExactAreBalloonsWrong : ChangeSpec := { name := "fnExactAreBalloons", fn := fun _ => fun
  | [d1, d2] => { results := [.lit (.bool false)], args := [d1, d2] }
  | _ => none }
def FnExactAreBalloonsWrongFalsely : Prop := fnExactAreBalloonsRow.holds Try.pinned (OpenSpec.ofChange fnExactAreBalloonsWrong)

/-- 'laws.FnExactGivenFrames': WHATEVER THE INPUT: true; the input reads as it did. -/
def fnExactGivenFramesSpec : ChangeSpec := { name := "fnExactGivenFrames", fn := fun _ => fun
  | [d1, d2] => { results := [.lit (.bool true)], args := [d1, d2] }
  | _ => none }
def fnExactGivenFramesRow : OpenClaim := { program := "ytlfligjpmodefaa", sum := "ba604a8ca2efc6d2ff900363a8e5a02d110e332e4e934b7d476f45b17abde84f", func := "loop.example/g00843/laws.FnExactGivenFrames", spec := "fnExactGivenFrames", unfollowed := true, recurses := true, apart := false }
def FnExactGivenFramesSaid : Prop := fnExactGivenFramesRow.holds Try.pinned (OpenSpec.ofChange fnExactGivenFramesSpec)

/-- ITS FALSE NEIGHBOUR: 'it returns false'. Refute it at one input. -/
def fnExactGivenFramesWrong : ChangeSpec := { name := "fnExactGivenFrames", fn := fun _ => fun
  | [d1, d2] => { results := [.lit (.bool false)], args := [d1, d2] }
  | _ => none }
def FnExactGivenFramesWrongFalsely : Prop := fnExactGivenFramesRow.holds Try.pinned (OpenSpec.ofChange fnExactGivenFramesWrong)

/-- 'laws.FnExactSetGoal': WHATEVER THE INPUT: true; the input reads as it did. -/
def fnExactSetGoalSpec : ChangeSpec := { name := "fnExactSetGoal", fn := fun _ => fun
  | [d1, d2, d3, d4] => { results := [.lit (.bool true)], args := [d1, d2, d3, d4] }
  | _ => none }
def fnExactSetGoalRow : OpenClaim := { program := "ytlfligjpmodefaa", sum := "ba604a8ca2efc6d2ff900363a8e5a02d110e332e4e934b7d476f45b17abde84f", func := "loop.example/g00843/laws.FnExactSetGoal", spec := "fnExactSetGoal", unfollowed := true, recurses := true, apart := false }
def FnExactSetGoalSaid : Prop := fnExactSetGoalRow.holds Try.pinned (OpenSpec.ofChange fnExactSetGoalSpec)

/-- ITS FALSE NEIGHBOUR: 'it returns false'. Refute it at one input. -/
def fnExactSetGoalWrong : ChangeSpec := { name := "fnExactSetGoal", fn := fun _ => fun
  | [d1, d2, d3, d4] => { results := [.lit (.bool false)], args := [d1, d2, d3, d4] }
  | _ => none }
def FnExactSetGoalWrongFalsely : Prop := fnExactSetGoalRow.holds Try.pinned (OpenSpec.ofChange fnExactSetGoalWrong)

/-- 'laws.FnExactTakeGiven': WHATEVER THE INPUT: true; the input reads as it did. -/
def fnExactTakeGivenSpec : ChangeSpec := { name := "fnExactTakeGiven", fn := fun _ => fun
  | [d1, d2, d3] => { results := [.lit (.bool true)], args := [d1, d2, d3] }
  | _ => none }
def fnExactTakeGivenRow : OpenClaim := { program := "ytlfligjpmodefaa", sum := "ba604a8ca2efc6d2ff900363a8e5a02d110e332e4e934b7d476f45b17abde84f", func := "loop.example/g00843/laws.FnExactTakeGiven", spec := "fnExactTakeGiven", unfollowed := true, recurses := true, apart := false }
def FnExactTakeGivenSaid : Prop := fnExactTakeGivenRow.holds Try.pinned (OpenSpec.ofChange fnExactTakeGivenSpec)

/-- ITS FALSE NEIGHBOUR: 'it returns false'. Refute it at one input. -/
def fnExactTakeGivenWrong : ChangeSpec := { name := "fnExactTakeGiven", fn := fun _ => fun
  | [d1, d2, d3] => { results := [.lit (.bool false)], args := [d1, d2, d3] }
  | _ => none }
def FnExactTakeGivenWrongFalsely : Prop := fnExactTakeGivenRow.holds Try.pinned (OpenSpec.ofChange fnExactTakeGivenWrong)

/-- 'laws.FnExactShareGoals': WHATEVER THE INPUT: true; the input reads as it did. -/
def fnExactShareGoalsSpec : ChangeSpec := { name := "fnExactShareGoals", fn := fun _ => fun
  | [d1, d2, d3] => { results := [.lit (.bool true)], args := [d1, d2, d3] }
  | _ => none }
def fnExactShareGoalsRow : OpenClaim := { program := "ytlfligjpmodefaa", sum := "ba604a8ca2efc6d2ff900363a8e5a02d110e332e4e934b7d476f45b17abde84f", func := "loop.example/g00843/laws.FnExactShareGoals", spec := "fnExactShareGoals", unfollowed := true, recurses := true, apart := false }
def FnExactShareGoalsSaid : Prop := fnExactShareGoalsRow.holds Try.pinned (OpenSpec.ofChange fnExactShareGoalsSpec)

/-- ITS FALSE NEIGHBOUR: 'it returns false'. Refute it at one input. -/
def fnExactShareGoalsWrong : ChangeSpec := { name := "fnExactShareGoals", fn := fun _ => fun
  | [d1, d2, d3] => { results := [.lit (.bool false)], args := [d1, d2, d3] }
  | _ => none }
def FnExactShareGoalsWrongFalsely : Prop := fnExactShareGoalsRow.holds Try.pinned (OpenSpec.ofChange fnExactShareGoalsWrong)

/-- 'laws.FnExactDeflate': WHATEVER THE INPUT: true; the input reads as it did. -/
def fnExactDeflateSpec : ChangeSpec := { name := "fnExactDeflate", fn := fun _ => fun
  | [d1, d2, d3] => { results := [.lit (.bool true)], args := [d1, d2, d3] }
  | _ => none }
def fnExactDeflateRow : OpenClaim := { program := "ytlfligjpmodefaa", sum := "ba604a8ca2efc6d2ff900363a8e5a02d110e332e4e934b7d476f45b17abde84f", func := "loop.example/g00843/laws.FnExactDeflate", spec := "fnExactDeflate", unfollowed := true, recurses := true, apart := false }
def FnExactDeflateSaid : Prop := fnExactDeflateRow.holds Try.pinned (OpenSpec.ofChange fnExactDeflateSpec)

/-- ITS FALSE NEIGHBOUR: 'it returns false'. Refute it at one input. -/
def fnExactDeflateWrong : ChangeSpec := { name := "fnExactDeflate", fn := fun _ => fun
  | [d1, d2, d3] => { results := [.lit (.bool false)], args := [d1, d2, d3] }
  | _ => none }
def FnExactDeflateWrongFalsely : Prop := fnExactDeflateRow.holds Try.pinned (OpenSpec.ofChange fnExactDeflateWrong)

/-- 'laws.FnExactInflate': WHATEVER THE INPUT: true; the input reads as it did. -/
def fnExactInflateSpec : ChangeSpec := { name := "fnExactInflate", fn := fun _ => fun
  | [d1, d2, d3] => { results := [.lit (.bool true)], args := [d1, d2, d3] }
  | _ => none }
def fnExactInflateRow : OpenClaim := { program := "ytlfligjpmodefaa", sum := "ba604a8ca2efc6d2ff900363a8e5a02d110e332e4e934b7d476f45b17abde84f", func := "loop.example/g00843/laws.FnExactInflate", spec := "fnExactInflate", unfollowed := true, recurses := true, apart := false }
def FnExactInflateSaid : Prop := fnExactInflateRow.holds Try.pinned (OpenSpec.ofChange fnExactInflateSpec)

/-- ITS FALSE NEIGHBOUR: 'it returns false'. Refute it at one input. -/
def fnExactInflateWrong : ChangeSpec := { name := "fnExactInflate", fn := fun _ => fun
  | [d1, d2, d3] => { results := [.lit (.bool false)], args := [d1, d2, d3] }
  | _ => none }
def FnExactInflateWrongFalsely : Prop := fnExactInflateRow.holds Try.pinned (OpenSpec.ofChange fnExactInflateWrong)

/-- 'laws.FnExactSettleGuest': WHATEVER THE INPUT: true; the input reads as it did. -/
def fnExactSettleGuestSpec : ChangeSpec := { name := "fnExactSettleGuest", fn := fun _ => fun
  | [d1, d2, d3] => { results := [.lit (.bool true)], args := [d1, d2, d3] }
  | _ => none }
def fnExactSettleGuestRow : OpenClaim := { program := "ytlfligjpmodefaa", sum := "ba604a8ca2efc6d2ff900363a8e5a02d110e332e4e934b7d476f45b17abde84f", func := "loop.example/g00843/laws.FnExactSettleGuest", spec := "fnExactSettleGuest", unfollowed := true, recurses := true, apart := false }
def FnExactSettleGuestSaid : Prop := fnExactSettleGuestRow.holds Try.pinned (OpenSpec.ofChange fnExactSettleGuestSpec)

/-- ITS FALSE NEIGHBOUR: 'it returns false'. Refute it at one input. -/
def fnExactSettleGuestWrong : ChangeSpec := { name := "fnExactSettleGuest", fn := fun _ => fun
  | [d1, d2, d3] => { results := [.lit (.bool false)], args := [d1, d2, d3] }
  | _ => none }
def FnExactSettleGuestWrongFalsely : Prop := fnExactSettleGuestRow.holds Try.pinned (OpenSpec.ofChange fnExactSettleGuestWrong)

/-- 'laws.FnBalloons': WHATEVER THE INPUT: true; the input reads as it did. -/
def fnBalloonsSpec : ChangeSpec := { name := "fnBalloons", fn := fun _ => fun
  | [d] => { results := [.lit (.bool true)], args := [d] }
  | _ => none }
def fnBalloonsRow : OpenClaim := { program := "ytlfligjpmodefaa", sum := "ba604a8ca2efc6d2ff900363a8e5a02d110e332e4e934b7d476f45b17abde84f", func := "loop.example/g00843/laws.FnBalloons", spec := "fnBalloons", unfollowed := true, recurses := true, apart := false }
def FnBalloonsSaid : Prop := fnBalloonsRow.holds Try.pinned (OpenSpec.ofChange fnBalloonsSpec)

/-- ITS FALSE NEIGHBOUR: 'it returns false'. Refute it at one input. -/
def fnBalloonsWrong : ChangeSpec := { name := "fnBalloons", fn := fun _ => fun
  | [d] => { results := [.lit (.bool false)], args := [d] }
  | _ => none }
def FnBalloonsWrongFalsely : Prop := fnBalloonsRow.holds Try.pinned (OpenSpec.ofChange fnBalloonsWrong)

/-- 'laws.FnBalloonGoals': WHATEVER THE INPUT: true; the input reads as it did. -/
def fnBalloonGoalsSpec : ChangeSpec := { name := "fnBalloonGoals", fn := fun _ => fun
  | [d] => { results := [.lit (.bool true)], args := [d] }
  | _ => none }
def fnBalloonGoalsRow : OpenClaim := { program := "ytlfligjpmodefaa", sum := "ba604a8ca2efc6d2ff900363a8e5a02d110e332e4e934b7d476f45b17abde84f", func := "loop.example/g00843/laws.FnBalloonGoals", spec := "fnBalloonGoals", unfollowed := true, recurses := true, apart := false }
def FnBalloonGoalsSaid : Prop := fnBalloonGoalsRow.holds Try.pinned (OpenSpec.ofChange fnBalloonGoalsSpec)

/-- ITS FALSE NEIGHBOUR: 'it returns false'. Refute it at one input. -/
def fnBalloonGoalsWrong : ChangeSpec := { name := "fnBalloonGoals", fn := fun _ => fun
  | [d] => { results := [.lit (.bool false)], args := [d] }
  | _ => none }
def FnBalloonGoalsWrongFalsely : Prop := fnBalloonGoalsRow.holds Try.pinned (OpenSpec.ofChange fnBalloonGoalsWrong)

/- THE SECOND FORM. 'bulk': how many values and letters a reading holds, each counted each time it is reached (what is shared counts as often as it is met; a slice's spare places count too). A statement '..UptoSaid' is the law's where the arguments, and the package variables that the reading takes, are together of bulk at most 1048576: NARROWER than '..Said'. Prove '..Said' where nothing that the law and all that it calls make is longer than what came in: it says more and counts as full. Else prove '..UptoSaid'. A law counts once. -/
mutual
def uptoBulk {H : Type} : DataW H → Nat
  | .lit (.string bytes) => bytes.length + 1
  | .lit _ => 1
  | .nil => 1
  | .ptr d => uptoBulk d + 1
  | .slice elems spare => uptoBulkAll elems + uptoBulkAll spare + 1
  | .agg parts => uptoBulkAll parts + 1
  | .iface _ d => uptoBulk d + 1
  | .map entries => uptoBulkEntries entries + 1
  | .held _ => 1
def uptoBulkAll {H : Type} : List (DataW H) → Nat
  | [] => 0
  | d :: r => uptoBulk d + uptoBulkAll r
def uptoBulkEntries {H : Type} : List (Lit × DataW H) → Nat
  | [] => 0
  | x :: r => uptoBulkEntry x + uptoBulkEntries r
def uptoBulkEntry {H : Type} : Lit × DataW H → Nat
  | (.string bytes, d) => bytes.length + uptoBulk d + 1
  | (_, d) => uptoBulk d + 1
 end
def uptoSmall : (H : Type) → List (DataW H) → Bool := fun _ ds => decide (uptoBulkAll ds ≤ 1048576)
def OpenSpec.upto (s : _root_.Go.ChangeSpec) : _root_.Go.OpenSpec := { _root_.Go.OpenSpec.ofChange s with cond := some uptoSmall }

/-- 'laws.FnExactAreBalloons', WHERE WHAT IT READS IS OF BULK AT MOST 1048576: true; the input reads as it did. -/
def fnExactAreBalloonsUptoRow : OpenClaim := { program := "ytlfligjpmodefaa", sum := "ba604a8ca2efc6d2ff900363a8e5a02d110e332e4e934b7d476f45b17abde84f", func := "loop.example/g00843/laws.FnExactAreBalloons", spec := "fnExactAreBalloons", unfollowed := true, recurses := true, apart := false, narrowed := true }
def FnExactAreBalloonsUptoSaid : Prop := fnExactAreBalloonsUptoRow.holds Try.pinned (OpenSpec.upto fnExactAreBalloonsSpec)

/-- 'laws.FnExactGivenFrames', WHERE WHAT IT READS IS OF BULK AT MOST 1048576: true; the input reads as it did. -/
def fnExactGivenFramesUptoRow : OpenClaim := { program := "ytlfligjpmodefaa", sum := "ba604a8ca2efc6d2ff900363a8e5a02d110e332e4e934b7d476f45b17abde84f", func := "loop.example/g00843/laws.FnExactGivenFrames", spec := "fnExactGivenFrames", unfollowed := true, recurses := true, apart := false, narrowed := true }
def FnExactGivenFramesUptoSaid : Prop := fnExactGivenFramesUptoRow.holds Try.pinned (OpenSpec.upto fnExactGivenFramesSpec)

/-- 'laws.FnExactSetGoal', WHERE WHAT IT READS IS OF BULK AT MOST 1048576: true; the input reads as it did. -/
def fnExactSetGoalUptoRow : OpenClaim := { program := "ytlfligjpmodefaa", sum := "ba604a8ca2efc6d2ff900363a8e5a02d110e332e4e934b7d476f45b17abde84f", func := "loop.example/g00843/laws.FnExactSetGoal", spec := "fnExactSetGoal", unfollowed := true, recurses := true, apart := false, narrowed := true }
def FnExactSetGoalUptoSaid : Prop := fnExactSetGoalUptoRow.holds Try.pinned (OpenSpec.upto fnExactSetGoalSpec)

/-- 'laws.FnExactTakeGiven', WHERE WHAT IT READS IS OF BULK AT MOST 1048576: true; the input reads as it did. -/
def fnExactTakeGivenUptoRow : OpenClaim := { program := "ytlfligjpmodefaa", sum := "ba604a8ca2efc6d2ff900363a8e5a02d110e332e4e934b7d476f45b17abde84f", func := "loop.example/g00843/laws.FnExactTakeGiven", spec := "fnExactTakeGiven", unfollowed := true, recurses := true, apart := false, narrowed := true }
def FnExactTakeGivenUptoSaid : Prop := fnExactTakeGivenUptoRow.holds Try.pinned (OpenSpec.upto fnExactTakeGivenSpec)

/-- 'laws.FnExactShareGoals', WHERE WHAT IT READS IS OF BULK AT MOST 1048576: true; the input reads as it did. -/
def fnExactShareGoalsUptoRow : OpenClaim := { program := "ytlfligjpmodefaa", sum := "ba604a8ca2efc6d2ff900363a8e5a02d110e332e4e934b7d476f45b17abde84f", func := "loop.example/g00843/laws.FnExactShareGoals", spec := "fnExactShareGoals", unfollowed := true, recurses := true, apart := false, narrowed := true }
def FnExactShareGoalsUptoSaid : Prop := fnExactShareGoalsUptoRow.holds Try.pinned (OpenSpec.upto fnExactShareGoalsSpec)

/-- 'laws.FnExactDeflate', WHERE WHAT IT READS IS OF BULK AT MOST 1048576: true; the input reads as it did. -/
def fnExactDeflateUptoRow : OpenClaim := { program := "ytlfligjpmodefaa", sum := "ba604a8ca2efc6d2ff900363a8e5a02d110e332e4e934b7d476f45b17abde84f", func := "loop.example/g00843/laws.FnExactDeflate", spec := "fnExactDeflate", unfollowed := true, recurses := true, apart := false, narrowed := true }
def FnExactDeflateUptoSaid : Prop := fnExactDeflateUptoRow.holds Try.pinned (OpenSpec.upto fnExactDeflateSpec)

/-- 'laws.FnExactInflate', WHERE WHAT IT READS IS OF BULK AT MOST 1048576: true; the input reads as it did. -/
def fnExactInflateUptoRow : OpenClaim := { program := "ytlfligjpmodefaa", sum := "ba604a8ca2efc6d2ff900363a8e5a02d110e332e4e934b7d476f45b17abde84f", func := "loop.example/g00843/laws.FnExactInflate", spec := "fnExactInflate", unfollowed := true, recurses := true, apart := false, narrowed := true }
def FnExactInflateUptoSaid : Prop := fnExactInflateUptoRow.holds Try.pinned (OpenSpec.upto fnExactInflateSpec)

/-- 'laws.FnExactSettleGuest', WHERE WHAT IT READS IS OF BULK AT MOST 1048576: true; the input reads as it did. -/
def fnExactSettleGuestUptoRow : OpenClaim := { program := "ytlfligjpmodefaa", sum := "ba604a8ca2efc6d2ff900363a8e5a02d110e332e4e934b7d476f45b17abde84f", func := "loop.example/g00843/laws.FnExactSettleGuest", spec := "fnExactSettleGuest", unfollowed := true, recurses := true, apart := false, narrowed := true }
def FnExactSettleGuestUptoSaid : Prop := fnExactSettleGuestUptoRow.holds Try.pinned (OpenSpec.upto fnExactSettleGuestSpec)

/-- 'laws.FnBalloons', WHERE WHAT IT READS IS OF BULK AT MOST 1048576: true; the input reads as it did. -/
def fnBalloonsUptoRow : OpenClaim := { program := "ytlfligjpmodefaa", sum := "ba604a8ca2efc6d2ff900363a8e5a02d110e332e4e934b7d476f45b17abde84f", func := "loop.example/g00843/laws.FnBalloons", spec := "fnBalloons", unfollowed := true, recurses := true, apart := false, narrowed := true }
def FnBalloonsUptoSaid : Prop := fnBalloonsUptoRow.holds Try.pinned (OpenSpec.upto fnBalloonsSpec)

/-- 'laws.FnBalloonGoals', WHERE WHAT IT READS IS OF BULK AT MOST 1048576: true; the input reads as it did. -/
def fnBalloonGoalsUptoRow : OpenClaim := { program := "ytlfligjpmodefaa", sum := "ba604a8ca2efc6d2ff900363a8e5a02d110e332e4e934b7d476f45b17abde84f", func := "loop.example/g00843/laws.FnBalloonGoals", spec := "fnBalloonGoals", unfollowed := true, recurses := true, apart := false, narrowed := true }
def FnBalloonGoalsUptoSaid : Prop := fnBalloonGoalsUptoRow.holds Try.pinned (OpenSpec.upto fnBalloonGoalsSpec)

end Rows
end Go.Proofs.Ytlfligjpmodefaa
