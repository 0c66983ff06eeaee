/-
  No cell of these rows narrows 'for every input' (looked for: loops, veiled, ifaces, maps, wideKeys, modest, calm, conditions, laid).
  DERIVED. THE GIVEN ROWS OF THIS SEAT. 10 by the template 'for every input the law returns true; each argument reads behind the call as it read before'; 0 by the template 'total and deterministic' (their statements: YtjbblcdajdpfkaaTotals.lean).
  GIVEN WITH THE SEED: the statements are not yours to turn. If you find one false, say at which input.
  Laid BY PROGRAM, IN A SANDBOX (cutbox-rows.mjs): the forced cells as the released guide's own fill.sh prints them over the translation 978c2cbdebc48d6e… (all of the seat's roots in one cut). By AI agents, Wed Nov 11 2026. No macro, syntax, notation, axiom, sorry.
-/
import Derived.Test.YtjbblcdajdpfkaaChecked
import GoSem.Claim
import GoSem.ClaimJoined
import GoSem.ClaimMapViews
import Derived.JoinedTies
import Derived.KernelRfl
namespace Go.Proofs.Ytjbblcdajdpfkaa
/- THE CELL 'sum', in the pinned program and in every row, IS THE sha256 OF THE DUMP (.gsa) THAT YtjbblcdajdpfkaaProg.lean LOADS. Nothing in Lean hashes anything: it is a label: what it is worth is what the hold of that sum in a sandbox is worth. -/
noncomputable def Try.pinned : Pinned := { name := "ytjbblcdajdpfkaa", sum := "978c2cbdebc48d6e9cb8295c887989856d5ab58afeff4293baafe92a8b0377a5", checked := Try.checked }
namespace Rows
def none {H : Type} : Left H := { results := [], args := [] }

/-- 'laws.FnExactIsCopying': WHATEVER THE INPUT: true; the input reads as it did. -/
def fnExactIsCopyingSpec : ChangeSpec := { name := "fnExactIsCopying", fn := fun _ => fun
  | [d] => { results := [.lit (.bool true)], args := [d] }
  | _ => none }
def fnExactIsCopyingRow : OpenClaim := { program := "ytjbblcdajdpfkaa", sum := "978c2cbdebc48d6e9cb8295c887989856d5ab58afeff4293baafe92a8b0377a5", func := "loop.example/g00843/laws.FnExactIsCopying", spec := "fnExactIsCopying", unfollowed := true, recurses := true, apart := false }
def FnExactIsCopyingSaid : Prop := fnExactIsCopyingRow.holds Try.pinned (OpenSpec.ofChange fnExactIsCopyingSpec)

/-- ITS FALSE NEIGHBOUR: 'it returns false'. Refute it at one input. -/
def fnExactIsCopyingWrong : ChangeSpec := { name := "fnExactIsCopying", fn := fun _ => fun
  | [d] => { results := [.lit (.bool false)], args := [d] }
  | _ => none }
def FnExactIsCopyingWrongFalsely : Prop := fnExactIsCopyingRow.holds Try.pinned (OpenSpec.ofChange fnExactIsCopyingWrong)

/-- 'laws.FnExactStartCopy': WHATEVER THE INPUT: true; the input reads as it did. -/
def fnExactStartCopySpec : ChangeSpec := { name := "fnExactStartCopy", fn := fun _ => fun
  | [d] => { results := [.lit (.bool true)], args := [d] }
  | _ => none }
def fnExactStartCopyRow : OpenClaim := { program := "ytjbblcdajdpfkaa", sum := "978c2cbdebc48d6e9cb8295c887989856d5ab58afeff4293baafe92a8b0377a5", func := "loop.example/g00843/laws.FnExactStartCopy", spec := "fnExactStartCopy", unfollowed := true, recurses := true, apart := false }
def FnExactStartCopySaid : Prop := fnExactStartCopyRow.holds Try.pinned (OpenSpec.ofChange fnExactStartCopySpec)

/-- ITS FALSE NEIGHBOUR: 'it returns false'. Refute it at one input. -/
def fnExactStartCopyWrong : ChangeSpec := { name := "fnExactStartCopy", fn := fun _ => fun
  | [d] => { results := [.lit (.bool false)], args := [d] }
  | _ => none }
def FnExactStartCopyWrongFalsely : Prop := fnExactStartCopyRow.holds Try.pinned (OpenSpec.ofChange fnExactStartCopyWrong)

/-- 'laws.FnExactDirtyWords': WHATEVER THE INPUT: true; the input reads as it did. -/
def fnExactDirtyWordsSpec : ChangeSpec := { name := "fnExactDirtyWords", fn := fun _ => fun
  | [d] => { results := [.lit (.bool true)], args := [d] }
  | _ => none }
def fnExactDirtyWordsRow : OpenClaim := { program := "ytjbblcdajdpfkaa", sum := "978c2cbdebc48d6e9cb8295c887989856d5ab58afeff4293baafe92a8b0377a5", func := "loop.example/g00843/laws.FnExactDirtyWords", spec := "fnExactDirtyWords", unfollowed := true, recurses := true, apart := false }
def FnExactDirtyWordsSaid : Prop := fnExactDirtyWordsRow.holds Try.pinned (OpenSpec.ofChange fnExactDirtyWordsSpec)

/-- ITS FALSE NEIGHBOUR: 'it returns false'. Refute it at one input. -/
def fnExactDirtyWordsWrong : ChangeSpec := { name := "fnExactDirtyWords", fn := fun _ => fun
  | [d] => { results := [.lit (.bool false)], args := [d] }
  | _ => none }
def FnExactDirtyWordsWrongFalsely : Prop := fnExactDirtyWordsRow.holds Try.pinned (OpenSpec.ofChange fnExactDirtyWordsWrong)

/-- 'laws.FnExactFinishCopy': WHATEVER THE INPUT: true; the input reads as it did. -/
def fnExactFinishCopySpec : ChangeSpec := { name := "fnExactFinishCopy", fn := fun _ => fun
  | [d] => { results := [.lit (.bool true)], args := [d] }
  | _ => none }
def fnExactFinishCopyRow : OpenClaim := { program := "ytjbblcdajdpfkaa", sum := "978c2cbdebc48d6e9cb8295c887989856d5ab58afeff4293baafe92a8b0377a5", func := "loop.example/g00843/laws.FnExactFinishCopy", spec := "fnExactFinishCopy", unfollowed := true, recurses := true, apart := false }
def FnExactFinishCopySaid : Prop := fnExactFinishCopyRow.holds Try.pinned (OpenSpec.ofChange fnExactFinishCopySpec)

/-- ITS FALSE NEIGHBOUR: 'it returns false'. Refute it at one input. -/
def fnExactFinishCopyWrong : ChangeSpec := { name := "fnExactFinishCopy", fn := fun _ => fun
  | [d] => { results := [.lit (.bool false)], args := [d] }
  | _ => none }
def FnExactFinishCopyWrongFalsely : Prop := fnExactFinishCopyRow.holds Try.pinned (OpenSpec.ofChange fnExactFinishCopyWrong)

/-- 'laws.FnExactStoreWord': WHATEVER THE INPUT: true; the input reads as it did. -/
def fnExactStoreWordSpec : ChangeSpec := { name := "fnExactStoreWord", fn := fun _ => fun
  | [d1, d2] => { results := [.lit (.bool true)], args := [d1, d2] }
  | _ => none }
def fnExactStoreWordRow : OpenClaim := { program := "ytjbblcdajdpfkaa", sum := "978c2cbdebc48d6e9cb8295c887989856d5ab58afeff4293baafe92a8b0377a5", func := "loop.example/g00843/laws.FnExactStoreWord", spec := "fnExactStoreWord", unfollowed := true, recurses := true, apart := false }
def FnExactStoreWordSaid : Prop := fnExactStoreWordRow.holds Try.pinned (OpenSpec.ofChange fnExactStoreWordSpec)

/-- ITS FALSE NEIGHBOUR: 'it returns false'. Refute it at one input. -/
def fnExactStoreWordWrong : ChangeSpec := { name := "fnExactStoreWord", fn := fun _ => fun
  | [d1, d2] => { results := [.lit (.bool false)], args := [d1, d2] }
  | _ => none }
def FnExactStoreWordWrongFalsely : Prop := fnExactStoreWordRow.holds Try.pinned (OpenSpec.ofChange fnExactStoreWordWrong)

/-- 'laws.FnExactCopyRound': WHATEVER THE INPUT: true; the input reads as it did. -/
def fnExactCopyRoundSpec : ChangeSpec := { name := "fnExactCopyRound", fn := fun _ => fun
  | [d1, d2] => { results := [.lit (.bool true)], args := [d1, d2] }
  | _ => none }
def fnExactCopyRoundRow : OpenClaim := { program := "ytjbblcdajdpfkaa", sum := "978c2cbdebc48d6e9cb8295c887989856d5ab58afeff4293baafe92a8b0377a5", func := "loop.example/g00843/laws.FnExactCopyRound", spec := "fnExactCopyRound", unfollowed := true, recurses := true, apart := false }
def FnExactCopyRoundSaid : Prop := fnExactCopyRoundRow.holds Try.pinned (OpenSpec.ofChange fnExactCopyRoundSpec)

/-- ITS FALSE NEIGHBOUR: 'it returns false'. Refute it at one input. -/
def fnExactCopyRoundWrong : ChangeSpec := { name := "fnExactCopyRound", fn := fun _ => fun
  | [d1, d2] => { results := [.lit (.bool false)], args := [d1, d2] }
  | _ => none }
def FnExactCopyRoundWrongFalsely : Prop := fnExactCopyRoundRow.holds Try.pinned (OpenSpec.ofChange fnExactCopyRoundWrong)

/-- 'laws.FnExactRoundsUntil': WHATEVER THE INPUT: true; the input reads as it did. -/
def fnExactRoundsUntilSpec : ChangeSpec := { name := "fnExactRoundsUntil", fn := fun _ => fun
  | [d1, d2, d3, d4] => { results := [.lit (.bool true)], args := [d1, d2, d3, d4] }
  | _ => none }
def fnExactRoundsUntilRow : OpenClaim := { program := "ytjbblcdajdpfkaa", sum := "978c2cbdebc48d6e9cb8295c887989856d5ab58afeff4293baafe92a8b0377a5", func := "loop.example/g00843/laws.FnExactRoundsUntil", spec := "fnExactRoundsUntil", unfollowed := true, recurses := true, apart := false }
def FnExactRoundsUntilSaid : Prop := fnExactRoundsUntilRow.holds Try.pinned (OpenSpec.ofChange fnExactRoundsUntilSpec)

/-- ITS FALSE NEIGHBOUR: 'it returns false'. Refute it at one input. -/
def fnExactRoundsUntilWrong : ChangeSpec := { name := "fnExactRoundsUntil", fn := fun _ => fun
  | [d1, d2, d3, d4] => { results := [.lit (.bool false)], args := [d1, d2, d3, d4] }
  | _ => none }
def FnExactRoundsUntilWrongFalsely : Prop := fnExactRoundsUntilRow.holds Try.pinned (OpenSpec.ofChange fnExactRoundsUntilWrong)

/-- 'laws.FnExactRunRounds': WHATEVER THE INPUT: true; the input reads as it did. -/
def fnExactRunRoundsSpec : ChangeSpec := { name := "fnExactRunRounds", fn := fun _ => fun
  | [d1, d2, d3] => { results := [.lit (.bool true)], args := [d1, d2, d3] }
  | _ => none }
def fnExactRunRoundsRow : OpenClaim := { program := "ytjbblcdajdpfkaa", sum := "978c2cbdebc48d6e9cb8295c887989856d5ab58afeff4293baafe92a8b0377a5", func := "loop.example/g00843/laws.FnExactRunRounds", spec := "fnExactRunRounds", unfollowed := true, recurses := true, apart := false }
def FnExactRunRoundsSaid : Prop := fnExactRunRoundsRow.holds Try.pinned (OpenSpec.ofChange fnExactRunRoundsSpec)

/-- ITS FALSE NEIGHBOUR: 'it returns false'. Refute it at one input. -/
def fnExactRunRoundsWrong : ChangeSpec := { name := "fnExactRunRounds", fn := fun _ => fun
  | [d1, d2, d3] => { results := [.lit (.bool false)], args := [d1, d2, d3] }
  | _ => none }
def FnExactRunRoundsWrongFalsely : Prop := fnExactRunRoundsRow.holds Try.pinned (OpenSpec.ofChange fnExactRunRoundsWrong)

/-- 'laws.FnCopies': WHATEVER THE INPUT: true; the input reads as it did. -/
def fnCopiesSpec : ChangeSpec := { name := "fnCopies", fn := fun _ => fun
  | [d] => { results := [.lit (.bool true)], args := [d] }
  | _ => none }
def fnCopiesRow : OpenClaim := { program := "ytjbblcdajdpfkaa", sum := "978c2cbdebc48d6e9cb8295c887989856d5ab58afeff4293baafe92a8b0377a5", func := "loop.example/g00843/laws.FnCopies", spec := "fnCopies", unfollowed := true, recurses := true, apart := false }
def FnCopiesSaid : Prop := fnCopiesRow.holds Try.pinned (OpenSpec.ofChange fnCopiesSpec)

/-- ITS FALSE NEIGHBOUR: 'it returns false'. Refute it at one input. -/
def fnCopiesWrong : ChangeSpec := { name := "fnCopies", fn := fun _ => fun
  | [d] => { results := [.lit (.bool false)], args := [d] }
  | _ => none }
def FnCopiesWrongFalsely : Prop := fnCopiesRow.holds Try.pinned (OpenSpec.ofChange fnCopiesWrong)

/-- 'laws.FnRounds': WHATEVER THE INPUT: true; the input reads as it did. -/
def fnRoundsSpec : ChangeSpec := { name := "fnRounds", fn := fun _ => fun
  | [d] => { results := [.lit (.bool true)], args := [d] }
  | _ => none }
def fnRoundsRow : OpenClaim := { program := "ytjbblcdajdpfkaa", sum := "978c2cbdebc48d6e9cb8295c887989856d5ab58afeff4293baafe92a8b0377a5", func := "loop.example/g00843/laws.FnRounds", spec := "fnRounds", unfollowed := true, recurses := true, apart := false }
def FnRoundsSaid : Prop := fnRoundsRow.holds Try.pinned (OpenSpec.ofChange fnRoundsSpec)

/-- ITS FALSE NEIGHBOUR: 'it returns false'. Refute it at one input. -/
def fnRoundsWrong : ChangeSpec := { name := "fnRounds", fn := fun _ => fun
  | [d] => { results := [.lit (.bool false)], args := [d] }
  | _ => none }
def FnRoundsWrongFalsely : Prop := fnRoundsRow.holds Try.pinned (OpenSpec.ofChange fnRoundsWrong)

/- THE SECOND FORM. 'bulk': how many values and letters a reading holds, each counted each time it is reached (what is shared counts as often as it is met; a slice's spare places count too). A statement '..UptoSaid' is the law's where the arguments, and the package variables that the reading takes, are together of bulk at most 1048576: NARROWER than '..Said'. Prove '..Said' where nothing that the law and all that it calls make is longer than what came in: it says more and counts as full. Else prove '..UptoSaid'. A law counts once. -/
mutual
def uptoBulk {H : Type} : DataW H → Nat
  | .lit (.string bytes) => bytes.length + 1
  | .lit _ => 1
  | .nil => 1
  | .ptr d => uptoBulk d + 1
  | .slice elems spare => uptoBulkAll elems + uptoBulkAll spare + 1
  | .agg parts => uptoBulkAll parts + 1
  | .iface _ d => uptoBulk d + 1
  | .map entries => uptoBulkEntries entries + 1
  | .held _ => 1
def uptoBulkAll {H : Type} : List (DataW H) → Nat
  | [] => 0
  | d :: r => uptoBulk d + uptoBulkAll r
def uptoBulkEntries {H : Type} : List (Lit × DataW H) → Nat
  | [] => 0
  | x :: r => uptoBulkEntry x + uptoBulkEntries r
def uptoBulkEntry {H : Type} : Lit × DataW H → Nat
  | (.string bytes, d) => bytes.length + uptoBulk d + 1
  | (_, d) => uptoBulk d + 1
 end
def uptoSmall : (H : Type) → List (DataW H) → Bool := fun _ ds => decide (uptoBulkAll ds ≤ 1048576)
def OpenSpec.upto (s : _root_.Go.ChangeSpec) : _root_.Go.OpenSpec := { _root_.Go.OpenSpec.ofChange s with cond := some uptoSmall }

/-- 'laws.FnExactIsCopying', WHERE WHAT IT READS IS OF BULK AT MOST 1048576: true; the input reads as it did. -/
def fnExactIsCopyingUptoRow : OpenClaim := { program := "ytjbblcdajdpfkaa", sum := "978c2cbdebc48d6e9cb8295c887989856d5ab58afeff4293baafe92a8b0377a5", func := "loop.example/g00843/laws.FnExactIsCopying", spec := "fnExactIsCopying", unfollowed := true, recurses := true, apart := false, narrowed := true }
def FnExactIsCopyingUptoSaid : Prop := fnExactIsCopyingUptoRow.holds Try.pinned (OpenSpec.upto fnExactIsCopyingSpec)

/-- 'laws.FnExactStartCopy', WHERE WHAT IT READS IS OF BULK AT MOST 1048576: true; the input reads as it did. -/
def fnExactStartCopyUptoRow : OpenClaim := { program := "ytjbblcdajdpfkaa", sum := "978c2cbdebc48d6e9cb8295c887989856d5ab58afeff4293baafe92a8b0377a5", func := "loop.example/g00843/laws.FnExactStartCopy", spec := "fnExactStartCopy", unfollowed := true, recurses := true, apart := false, narrowed := true }
def FnExactStartCopyUptoSaid : Prop := fnExactStartCopyUptoRow.holds Try.pinned (OpenSpec.upto fnExactStartCopySpec)

/-- 'laws.FnExactDirtyWords', WHERE WHAT IT READS IS OF BULK AT MOST 1048576: true; the input reads as it did. -/
def fnExactDirtyWordsUptoRow : OpenClaim := { program := "ytjbblcdajdpfkaa", sum := "978c2cbdebc48d6e9cb8295c887989856d5ab58afeff4293baafe92a8b0377a5", func := "loop.example/g00843/laws.FnExactDirtyWords", spec := "fnExactDirtyWords", unfollowed := true, recurses := true, apart := false, narrowed := true }
def FnExactDirtyWordsUptoSaid : Prop := fnExactDirtyWordsUptoRow.holds Try.pinned (OpenSpec.upto fnExactDirtyWordsSpec)

/-- 'laws.FnExactFinishCopy', WHERE WHAT IT READS IS OF BULK AT MOST 1048576: true; the input reads as it did. -/
def fnExactFinishCopyUptoRow : OpenClaim := { program := "ytjbblcdajdpfkaa", sum := "978c2cbdebc48d6e9cb8295c887989856d5ab58afeff4293baafe92a8b0377a5", func := "loop.example/g00843/laws.FnExactFinishCopy", spec := "fnExactFinishCopy", unfollowed := true, recurses := true, apart := false, narrowed := true }
def FnExactFinishCopyUptoSaid : Prop := fnExactFinishCopyUptoRow.holds Try.pinned (OpenSpec.upto fnExactFinishCopySpec)

/-- 'laws.FnExactStoreWord', WHERE WHAT IT READS IS OF BULK AT MOST 1048576: true; the input reads as it did. -/
def fnExactStoreWordUptoRow : OpenClaim := { program := "ytjbblcdajdpfkaa", sum := "978c2cbdebc48d6e9cb8295c887989856d5ab58afeff4293baafe92a8b0377a5", func := "loop.example/g00843/laws.FnExactStoreWord", spec := "fnExactStoreWord", unfollowed := true, recurses := true, apart := false, narrowed := true }
def FnExactStoreWordUptoSaid : Prop := fnExactStoreWordUptoRow.holds Try.pinned (OpenSpec.upto fnExactStoreWordSpec)

/-- 'laws.FnExactCopyRound', WHERE WHAT IT READS IS OF BULK AT MOST 1048576: true; the input reads as it did. -/
def fnExactCopyRoundUptoRow : OpenClaim := { program := "ytjbblcdajdpfkaa", sum := "978c2cbdebc48d6e9cb8295c887989856d5ab58afeff4293baafe92a8b0377a5", func := "loop.example/g00843/laws.FnExactCopyRound", spec := "fnExactCopyRound", unfollowed := true, recurses := true, apart := false, narrowed := true }
def FnExactCopyRoundUptoSaid : Prop := fnExactCopyRoundUptoRow.holds Try.pinned (OpenSpec.upto fnExactCopyRoundSpec)

/-- 'laws.FnExactRoundsUntil', WHERE WHAT IT READS IS OF BULK AT MOST 1048576: true; the input reads as it did. -/
def fnExactRoundsUntilUptoRow : OpenClaim := { program := "ytjbblcdajdpfkaa", sum := "978c2cbdebc48d6e9cb8295c887989856d5ab58afeff4293baafe92a8b0377a5", func := "loop.example/g00843/laws.FnExactRoundsUntil", spec := "fnExactRoundsUntil", unfollowed := true, recurses := true, apart := false, narrowed := true }
def FnExactRoundsUntilUptoSaid : Prop := fnExactRoundsUntilUptoRow.holds Try.pinned (OpenSpec.upto fnExactRoundsUntilSpec)

/-- 'laws.FnExactRunRounds', WHERE WHAT IT READS IS OF BULK AT MOST 1048576: true; the input reads as it did. -/
def fnExactRunRoundsUptoRow : OpenClaim := { program := "ytjbblcdajdpfkaa", sum := "978c2cbdebc48d6e9cb8295c887989856d5ab58afeff4293baafe92a8b0377a5", func := "loop.example/g00843/laws.FnExactRunRounds", spec := "fnExactRunRounds", unfollowed := true, recurses := true, apart := false, narrowed := true }
def FnExactRunRoundsUptoSaid : Prop := fnExactRunRoundsUptoRow.holds Try.pinned (OpenSpec.upto fnExactRunRoundsSpec)

/-- 'laws.FnCopies', WHERE WHAT IT READS IS OF BULK AT MOST 1048576: true; the input reads as it did. -/
def fnCopiesUptoRow : OpenClaim := { program := "ytjbblcdajdpfkaa", sum := "978c2cbdebc48d6e9cb8295c887989856d5ab58afeff4293baafe92a8b0377a5", func := "loop.example/g00843/laws.FnCopies", spec := "fnCopies", unfollowed := true, recurses := true, apart := false, narrowed := true }
def FnCopiesUptoSaid : Prop := fnCopiesUptoRow.holds Try.pinned (OpenSpec.upto fnCopiesSpec)

/-- 'laws.FnRounds', WHERE WHAT IT READS IS OF BULK AT MOST 1048576: true; the input reads as it did. -/
def fnRoundsUptoRow : OpenClaim := { program := "ytjbblcdajdpfkaa", sum := "978c2cbdebc48d6e9cb8295c887989856d5ab58afeff4293baafe92a8b0377a5", func := "loop.example/g00843/laws.FnRounds", spec := "fnRounds", unfollowed := true, recurses := true, apart := false, narrowed := true }
def FnRoundsUptoSaid : Prop := fnRoundsUptoRow.holds Try.pinned (OpenSpec.upto fnRoundsSpec)

end Rows
end Go.Proofs.Ytjbblcdajdpfkaa
