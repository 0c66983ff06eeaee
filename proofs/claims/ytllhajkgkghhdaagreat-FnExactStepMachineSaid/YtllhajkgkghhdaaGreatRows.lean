/-
  No cell of these rows narrows 'for every input' (looked for: loops, veiled, ifaces, maps, wideKeys, modest, calm, conditions, laid).
  DERIVED. THE GIVEN ROWS OF THIS SEAT. 9 by the template 'for every input the law returns true; each argument reads behind the call as it read before'; 0 by the template 'total and deterministic' (their statements: YtllhajkgkghhdaaGreatTotals.lean).
  GIVEN WITH THE SEED: the statements are not yours to turn. If you find one false, say at which input.
  Laid BY PROGRAM, IN A SANDBOX (cutbox-rows.mjs): the forced cells as the released guide's own fill.sh prints them over the translation d9debe1c9fc3441f… (all of the seat's roots in one cut). By AI agents, Wed Nov 11 2026. No macro, syntax, notation, axiom, sorry.
-/
import Derived.Test.YtllhajkgkghhdaaGreatChecked
import GoSem.Claim
import GoSem.ClaimJoined
import GoSem.ClaimMapViews
import Derived.JoinedTies
import Derived.KernelRfl
namespace Go.Proofs.YtllhajkgkghhdaaGreat
/- THE CELL 'sum', in the pinned program and in every row, IS THE sha256 OF THE DUMP (.gsa) THAT YtllhajkgkghhdaaGreatProg.lean LOADS. Nothing in Lean hashes anything: it is a label: what it is worth is what the hold of that sum in a sandbox is worth. -/
noncomputable def Tryz.pinned : Pinned := { name := "ytllhajkgkghhdaagreat", sum := "d9debe1c9fc3441f457cfa0ebe49d4abf47dd5f9caf1bbf97e357145cddfb7ba", checked := Tryz.checked }
namespace Rows
def none {H : Type} : Left H := { results := [], args := [] }

/-- 'laws.FnExactIsMachine': WHATEVER THE INPUT: true; the input reads as it did. -/
def fnExactIsMachineSpec : ChangeSpec := { name := "fnExactIsMachine", fn := fun _ => fun
  | [d] => { results := [.lit (.bool true)], args := [d] }
  | _ => none }
def fnExactIsMachineRow : OpenClaim := { program := "ytllhajkgkghhdaagreat", sum := "d9debe1c9fc3441f457cfa0ebe49d4abf47dd5f9caf1bbf97e357145cddfb7ba", func := "loop.example/g00843/laws.FnExactIsMachine", spec := "fnExactIsMachine", unfollowed := true, recurses := true, apart := false }
def FnExactIsMachineSaid : Prop := fnExactIsMachineRow.holds Tryz.pinned (OpenSpec.ofChange fnExactIsMachineSpec)

/-- ITS FALSE NEIGHBOUR: 'it returns false'. Refute it at one input. -/
def fnExactIsMachineWrong : ChangeSpec := { name := "fnExactIsMachine", fn := fun _ => fun
  | [d] => { results := [.lit (.bool false)], args := [d] }
  | _ => none }
def FnExactIsMachineWrongFalsely : Prop := fnExactIsMachineRow.holds Tryz.pinned (OpenSpec.ofChange fnExactIsMachineWrong)

/-- 'laws.FnExactRunningOn': WHATEVER THE INPUT: true; the input reads as it did. -/
def fnExactRunningOnSpec : ChangeSpec := { name := "fnExactRunningOn", fn := fun _ => fun
  | [d1, d2] => { results := [.lit (.bool true)], args := [d1, d2] }
  | _ => none }
def fnExactRunningOnRow : OpenClaim := { program := "ytllhajkgkghhdaagreat", sum := "d9debe1c9fc3441f457cfa0ebe49d4abf47dd5f9caf1bbf97e357145cddfb7ba", func := "loop.example/g00843/laws.FnExactRunningOn", spec := "fnExactRunningOn", unfollowed := true, recurses := true, apart := false }
def FnExactRunningOnSaid : Prop := fnExactRunningOnRow.holds Tryz.pinned (OpenSpec.ofChange fnExactRunningOnSpec)

/-- ITS FALSE NEIGHBOUR: 'it returns false'. Refute it at one input. -/
def fnExactRunningOnWrong : ChangeSpec := { name := "fnExactRunningOn", fn := fun _ => fun
  | [d1, d2] => { results := [.lit (.bool false)], args := [d1, d2] }
  | _ => none }
def FnExactRunningOnWrongFalsely : Prop := fnExactRunningOnRow.holds Tryz.pinned (OpenSpec.ofChange fnExactRunningOnWrong)

/-- 'laws.FnExactIsIdle': WHATEVER THE INPUT: true; the input reads as it did. -/
def fnExactIsIdleSpec : ChangeSpec := { name := "fnExactIsIdle", fn := fun _ => fun
  | [d] => { results := [.lit (.bool true)], args := [d] }
  | _ => none }
def fnExactIsIdleRow : OpenClaim := { program := "ytllhajkgkghhdaagreat", sum := "d9debe1c9fc3441f457cfa0ebe49d4abf47dd5f9caf1bbf97e357145cddfb7ba", func := "loop.example/g00843/laws.FnExactIsIdle", spec := "fnExactIsIdle", unfollowed := true, recurses := true, apart := false }
def FnExactIsIdleSaid : Prop := fnExactIsIdleRow.holds Tryz.pinned (OpenSpec.ofChange fnExactIsIdleSpec)

/-- ITS FALSE NEIGHBOUR: 'it returns false'. Refute it at one input. -/
def fnExactIsIdleWrong : ChangeSpec := { name := "fnExactIsIdle", fn := fun _ => fun
  | [d] => { results := [.lit (.bool false)], args := [d] }
  | _ => none }
def FnExactIsIdleWrongFalsely : Prop := fnExactIsIdleRow.holds Tryz.pinned (OpenSpec.ofChange fnExactIsIdleWrong)

/-- 'laws.FnExactPendingOn': WHATEVER THE INPUT: true; the input reads as it did. -/
def fnExactPendingOnSpec : ChangeSpec := { name := "fnExactPendingOn", fn := fun _ => fun
  | [d1, d2] => { results := [.lit (.bool true)], args := [d1, d2] }
  | _ => none }
def fnExactPendingOnRow : OpenClaim := { program := "ytllhajkgkghhdaagreat", sum := "d9debe1c9fc3441f457cfa0ebe49d4abf47dd5f9caf1bbf97e357145cddfb7ba", func := "loop.example/g00843/laws.FnExactPendingOn", spec := "fnExactPendingOn", unfollowed := true, recurses := true, apart := false }
def FnExactPendingOnSaid : Prop := fnExactPendingOnRow.holds Tryz.pinned (OpenSpec.ofChange fnExactPendingOnSpec)

/-- ITS FALSE NEIGHBOUR: 'it returns false'. Refute it at one input. -/
def fnExactPendingOnWrong : ChangeSpec := { name := "fnExactPendingOn", fn := fun _ => fun
  | [d1, d2] => { results := [.lit (.bool false)], args := [d1, d2] }
  | _ => none }
def FnExactPendingOnWrongFalsely : Prop := fnExactPendingOnRow.holds Tryz.pinned (OpenSpec.ofChange fnExactPendingOnWrong)

/-- 'laws.FnExactDrainCpu': WHATEVER THE INPUT: true; the input reads as it did. -/
def fnExactDrainCpuSpec : ChangeSpec := { name := "fnExactDrainCpu", fn := fun _ => fun
  | [d1, d2] => { results := [.lit (.bool true)], args := [d1, d2] }
  | _ => none }
def fnExactDrainCpuRow : OpenClaim := { program := "ytllhajkgkghhdaagreat", sum := "d9debe1c9fc3441f457cfa0ebe49d4abf47dd5f9caf1bbf97e357145cddfb7ba", func := "loop.example/g00843/laws.FnExactDrainCpu", spec := "fnExactDrainCpu", inPlace := ["slices.overlaps[loop.example/g00843/impl.Waiter]"], unfollowed := true, recurses := true, apart := false }
def FnExactDrainCpuSaid : Prop := fnExactDrainCpuRow.holds Tryz.pinned (OpenSpec.ofChange fnExactDrainCpuSpec)

/-- ITS FALSE NEIGHBOUR: 'it returns false'. Refute it at one input. -/
def fnExactDrainCpuWrong : ChangeSpec := { name := "fnExactDrainCpu", fn := fun _ => fun
  | [d1, d2] => { results := [.lit (.bool false)], args := [d1, d2] }
  | _ => none }
def FnExactDrainCpuWrongFalsely : Prop := fnExactDrainCpuRow.holds Tryz.pinned (OpenSpec.ofChange fnExactDrainCpuWrong)

/-- 'laws.FnExactStepMachine': WHATEVER THE INPUT: true; the input reads as it did. -/
def fnExactStepMachineSpec : ChangeSpec := { name := "fnExactStepMachine", fn := fun _ => fun
  | [d1, d2] => { results := [.lit (.bool true)], args := [d1, d2] }
  | _ => none }
def fnExactStepMachineRow : OpenClaim := { program := "ytllhajkgkghhdaagreat", sum := "d9debe1c9fc3441f457cfa0ebe49d4abf47dd5f9caf1bbf97e357145cddfb7ba", func := "loop.example/g00843/laws.FnExactStepMachine", spec := "fnExactStepMachine", inPlace := ["slices.overlaps[loop.example/g00843/impl.Waiter]"], unfollowed := true, recurses := true, apart := false }
def FnExactStepMachineSaid : Prop := fnExactStepMachineRow.holds Tryz.pinned (OpenSpec.ofChange fnExactStepMachineSpec)

/-- ITS FALSE NEIGHBOUR: 'it returns false'. Refute it at one input. -/
def fnExactStepMachineWrong : ChangeSpec := { name := "fnExactStepMachine", fn := fun _ => fun
  | [d1, d2] => { results := [.lit (.bool false)], args := [d1, d2] }
  | _ => none }
def FnExactStepMachineWrongFalsely : Prop := fnExactStepMachineRow.holds Tryz.pinned (OpenSpec.ofChange fnExactStepMachineWrong)

/-- 'laws.FnExactRunMachine': WHATEVER THE INPUT: true; the input reads as it did. -/
def fnExactRunMachineSpec : ChangeSpec := { name := "fnExactRunMachine", fn := fun _ => fun
  | [d1, d2] => { results := [.lit (.bool true)], args := [d1, d2] }
  | _ => none }
def fnExactRunMachineRow : OpenClaim := { program := "ytllhajkgkghhdaagreat", sum := "d9debe1c9fc3441f457cfa0ebe49d4abf47dd5f9caf1bbf97e357145cddfb7ba", func := "loop.example/g00843/laws.FnExactRunMachine", spec := "fnExactRunMachine", inPlace := ["slices.overlaps[loop.example/g00843/impl.Waiter]"], unfollowed := true, recurses := true, apart := false }
def FnExactRunMachineSaid : Prop := fnExactRunMachineRow.holds Tryz.pinned (OpenSpec.ofChange fnExactRunMachineSpec)

/-- ITS FALSE NEIGHBOUR: 'it returns false'. Refute it at one input. -/
def fnExactRunMachineWrong : ChangeSpec := { name := "fnExactRunMachine", fn := fun _ => fun
  | [d1, d2] => { results := [.lit (.bool false)], args := [d1, d2] }
  | _ => none }
def FnExactRunMachineWrongFalsely : Prop := fnExactRunMachineRow.holds Tryz.pinned (OpenSpec.ofChange fnExactRunMachineWrong)

/-- 'laws.FnMachines': WHATEVER THE INPUT: true; the input reads as it did. -/
def fnMachinesSpec : ChangeSpec := { name := "fnMachines", fn := fun _ => fun
  | [d] => { results := [.lit (.bool true)], args := [d] }
  | _ => none }
def fnMachinesRow : OpenClaim := { program := "ytllhajkgkghhdaagreat", sum := "d9debe1c9fc3441f457cfa0ebe49d4abf47dd5f9caf1bbf97e357145cddfb7ba", func := "loop.example/g00843/laws.FnMachines", spec := "fnMachines", inPlace := ["slices.overlaps[loop.example/g00843/impl.Waiter]"], unfollowed := true, recurses := true, apart := false }
def FnMachinesSaid : Prop := fnMachinesRow.holds Tryz.pinned (OpenSpec.ofChange fnMachinesSpec)

/-- ITS FALSE NEIGHBOUR: 'it returns false'. Refute it at one input. -/
def fnMachinesWrong : ChangeSpec := { name := "fnMachines", fn := fun _ => fun
  | [d] => { results := [.lit (.bool false)], args := [d] }
  | _ => none }
def FnMachinesWrongFalsely : Prop := fnMachinesRow.holds Tryz.pinned (OpenSpec.ofChange fnMachinesWrong)

/-- 'laws.FnMachineRuns': WHATEVER THE INPUT: true; the input reads as it did. -/
def fnMachineRunsSpec : ChangeSpec := { name := "fnMachineRuns", fn := fun _ => fun
  | [d] => { results := [.lit (.bool true)], args := [d] }
  | _ => none }
def fnMachineRunsRow : OpenClaim := { program := "ytllhajkgkghhdaagreat", sum := "d9debe1c9fc3441f457cfa0ebe49d4abf47dd5f9caf1bbf97e357145cddfb7ba", func := "loop.example/g00843/laws.FnMachineRuns", spec := "fnMachineRuns", inPlace := ["slices.overlaps[loop.example/g00843/impl.Waiter]"], unfollowed := true, recurses := true, apart := false }
def FnMachineRunsSaid : Prop := fnMachineRunsRow.holds Tryz.pinned (OpenSpec.ofChange fnMachineRunsSpec)

/-- ITS FALSE NEIGHBOUR: 'it returns false'. Refute it at one input. -/
def fnMachineRunsWrong : ChangeSpec := { name := "fnMachineRuns", fn := fun _ => fun
  | [d] => { results := [.lit (.bool false)], args := [d] }
  | _ => none }
def FnMachineRunsWrongFalsely : Prop := fnMachineRunsRow.holds Tryz.pinned (OpenSpec.ofChange fnMachineRunsWrong)

/- THE SECOND FORM. 'bulk': how many values and letters a reading holds, each counted each time it is reached (what is shared counts as often as it is met; a slice's spare places count too). A statement '..UptoSaid' is the law's where the arguments, and the package variables that the reading takes, are together of bulk at most 1048576: NARROWER than '..Said'. Prove '..Said' where nothing that the law and all that it calls make is longer than what came in: it says more and counts as full. Else prove '..UptoSaid'. A law counts once. -/
mutual
def uptoBulk {H : Type} : DataW H → Nat
  | .lit (.string bytes) => bytes.length + 1
  | .lit _ => 1
  | .nil => 1
  | .ptr d => uptoBulk d + 1
  | .slice elems spare => uptoBulkAll elems + uptoBulkAll spare + 1
  | .agg parts => uptoBulkAll parts + 1
  | .iface _ d => uptoBulk d + 1
  | .map entries => uptoBulkEntries entries + 1
  | .held _ => 1
def uptoBulkAll {H : Type} : List (DataW H) → Nat
  | [] => 0
  | d :: r => uptoBulk d + uptoBulkAll r
def uptoBulkEntries {H : Type} : List (Lit × DataW H) → Nat
  | [] => 0
  | x :: r => uptoBulkEntry x + uptoBulkEntries r
def uptoBulkEntry {H : Type} : Lit × DataW H → Nat
  | (.string bytes, d) => bytes.length + uptoBulk d + 1
  | (_, d) => uptoBulk d + 1
 end
def uptoSmall : (H : Type) → List (DataW H) → Bool := fun _ ds => decide (uptoBulkAll ds ≤ 1048576)
def OpenSpec.upto (s : _root_.Go.ChangeSpec) : _root_.Go.OpenSpec := { _root_.Go.OpenSpec.ofChange s with cond := some uptoSmall }

/-- 'laws.FnExactIsMachine', WHERE WHAT IT READS IS OF BULK AT MOST 1048576: true; the input reads as it did. -/
def fnExactIsMachineUptoRow : OpenClaim := { program := "ytllhajkgkghhdaagreat", sum := "d9debe1c9fc3441f457cfa0ebe49d4abf47dd5f9caf1bbf97e357145cddfb7ba", func := "loop.example/g00843/laws.FnExactIsMachine", spec := "fnExactIsMachine", unfollowed := true, recurses := true, apart := false, narrowed := true }
def FnExactIsMachineUptoSaid : Prop := fnExactIsMachineUptoRow.holds Tryz.pinned (OpenSpec.upto fnExactIsMachineSpec)

/-- 'laws.FnExactRunningOn', WHERE WHAT IT READS IS OF BULK AT MOST 1048576: true; the input reads as it did. -/
def fnExactRunningOnUptoRow : OpenClaim := { program := "ytllhajkgkghhdaagreat", sum := "d9debe1c9fc3441f457cfa0ebe49d4abf47dd5f9caf1bbf97e357145cddfb7ba", func := "loop.example/g00843/laws.FnExactRunningOn", spec := "fnExactRunningOn", unfollowed := true, recurses := true, apart := false, narrowed := true }
def FnExactRunningOnUptoSaid : Prop := fnExactRunningOnUptoRow.holds Tryz.pinned (OpenSpec.upto fnExactRunningOnSpec)

/-- 'laws.FnExactIsIdle', WHERE WHAT IT READS IS OF BULK AT MOST 1048576: true; the input reads as it did. -/
def fnExactIsIdleUptoRow : OpenClaim := { program := "ytllhajkgkghhdaagreat", sum := "d9debe1c9fc3441f457cfa0ebe49d4abf47dd5f9caf1bbf97e357145cddfb7ba", func := "loop.example/g00843/laws.FnExactIsIdle", spec := "fnExactIsIdle", unfollowed := true, recurses := true, apart := false, narrowed := true }
def FnExactIsIdleUptoSaid : Prop := fnExactIsIdleUptoRow.holds Tryz.pinned (OpenSpec.upto fnExactIsIdleSpec)

/-- 'laws.FnExactPendingOn', WHERE WHAT IT READS IS OF BULK AT MOST 1048576: true; the input reads as it did. -/
def fnExactPendingOnUptoRow : OpenClaim := { program := "ytllhajkgkghhdaagreat", sum := "d9debe1c9fc3441f457cfa0ebe49d4abf47dd5f9caf1bbf97e357145cddfb7ba", func := "loop.example/g00843/laws.FnExactPendingOn", spec := "fnExactPendingOn", unfollowed := true, recurses := true, apart := false, narrowed := true }
def FnExactPendingOnUptoSaid : Prop := fnExactPendingOnUptoRow.holds Tryz.pinned (OpenSpec.upto fnExactPendingOnSpec)

/-- 'laws.FnExactDrainCpu', WHERE WHAT IT READS IS OF BULK AT MOST 1048576: true; the input reads as it did. -/
def fnExactDrainCpuUptoRow : OpenClaim := { program := "ytllhajkgkghhdaagreat", sum := "d9debe1c9fc3441f457cfa0ebe49d4abf47dd5f9caf1bbf97e357145cddfb7ba", func := "loop.example/g00843/laws.FnExactDrainCpu", spec := "fnExactDrainCpu", inPlace := ["slices.overlaps[loop.example/g00843/impl.Waiter]"], unfollowed := true, recurses := true, apart := false, narrowed := true }
def FnExactDrainCpuUptoSaid : Prop := fnExactDrainCpuUptoRow.holds Tryz.pinned (OpenSpec.upto fnExactDrainCpuSpec)

/-- 'laws.FnExactStepMachine', WHERE WHAT IT READS IS OF BULK AT MOST 1048576: true; the input reads as it did. -/
def fnExactStepMachineUptoRow : OpenClaim := { program := "ytllhajkgkghhdaagreat", sum := "d9debe1c9fc3441f457cfa0ebe49d4abf47dd5f9caf1bbf97e357145cddfb7ba", func := "loop.example/g00843/laws.FnExactStepMachine", spec := "fnExactStepMachine", inPlace := ["slices.overlaps[loop.example/g00843/impl.Waiter]"], unfollowed := true, recurses := true, apart := false, narrowed := true }
def FnExactStepMachineUptoSaid : Prop := fnExactStepMachineUptoRow.holds Tryz.pinned (OpenSpec.upto fnExactStepMachineSpec)

/-- 'laws.FnExactRunMachine', WHERE WHAT IT READS IS OF BULK AT MOST 1048576: true; the input reads as it did. -/
def fnExactRunMachineUptoRow : OpenClaim := { program := "ytllhajkgkghhdaagreat", sum := "d9debe1c9fc3441f457cfa0ebe49d4abf47dd5f9caf1bbf97e357145cddfb7ba", func := "loop.example/g00843/laws.FnExactRunMachine", spec := "fnExactRunMachine", inPlace := ["slices.overlaps[loop.example/g00843/impl.Waiter]"], unfollowed := true, recurses := true, apart := false, narrowed := true }
def FnExactRunMachineUptoSaid : Prop := fnExactRunMachineUptoRow.holds Tryz.pinned (OpenSpec.upto fnExactRunMachineSpec)

/-- 'laws.FnMachines', WHERE WHAT IT READS IS OF BULK AT MOST 1048576: true; the input reads as it did. -/
def fnMachinesUptoRow : OpenClaim := { program := "ytllhajkgkghhdaagreat", sum := "d9debe1c9fc3441f457cfa0ebe49d4abf47dd5f9caf1bbf97e357145cddfb7ba", func := "loop.example/g00843/laws.FnMachines", spec := "fnMachines", inPlace := ["slices.overlaps[loop.example/g00843/impl.Waiter]"], unfollowed := true, recurses := true, apart := false, narrowed := true }
def FnMachinesUptoSaid : Prop := fnMachinesUptoRow.holds Tryz.pinned (OpenSpec.upto fnMachinesSpec)

/-- 'laws.FnMachineRuns', WHERE WHAT IT READS IS OF BULK AT MOST 1048576: true; the input reads as it did. -/
def fnMachineRunsUptoRow : OpenClaim := { program := "ytllhajkgkghhdaagreat", sum := "d9debe1c9fc3441f457cfa0ebe49d4abf47dd5f9caf1bbf97e357145cddfb7ba", func := "loop.example/g00843/laws.FnMachineRuns", spec := "fnMachineRuns", inPlace := ["slices.overlaps[loop.example/g00843/impl.Waiter]"], unfollowed := true, recurses := true, apart := false, narrowed := true }
def FnMachineRunsUptoSaid : Prop := fnMachineRunsUptoRow.holds Tryz.pinned (OpenSpec.upto fnMachineRunsSpec)

end Rows
end Go.Proofs.YtllhajkgkghhdaaGreat
