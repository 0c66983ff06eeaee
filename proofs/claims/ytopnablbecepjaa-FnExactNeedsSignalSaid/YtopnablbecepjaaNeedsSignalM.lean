/- The models of the functions, printed by program: what each computes, in plain Lean. -/
import Derived.Test.YtopnablbecepjaaGxG
set_option linter.unusedVariables false
set_option maxRecDepth 100000
set_option maxHeartbeats 4000000
namespace Go.Proofs.Ytopnablbecepjaa
open Go.Gx
structure Ring where
  Items : List Int
  Head : Int
  Tail : Int
structure l1Cur where
  code : List Int
  at_ : Int
  seed : Int
def M.s_l1In (x8 : Int) (x9 : Int) (x10 : Int) : Option (Bool) :=
  Option.bind (α := Bool) (bif decide (x8 ≥ x9) then some (decide (x8 ≤ x10))
  else some false) fun o12 =>
  some o12
def M.s_l2Word16 (x7 : Int) : Option (Bool) :=
  Option.bind (M.s_l1In x7 0 65535) fun r20 =>
  some r20
def M.s_NeedsSignal (x4 : Int) (x5 : Int) (x6 : Int) : Option (Bool × Bool) :=
  Option.bind (α := Bool) (Option.bind (M.s_l2Word16 x4) fun r41 =>
  bif !r41 then some true
  else (Option.bind (M.s_l2Word16 x5) fun r46 =>
  bif !r46 then some true
  else (Option.bind (M.s_l2Word16 x6) fun r51 =>
  some (!r51)))) fun o38 =>
  bif o38 then some (false, false)
  else some (decide (((w64 ((w64 (x6 - x4)) + 65536)).tmod 65536) < ((w64 ((w64 (x5 - x4)) + 65536)).tmod 65536)), true)
def M.i_inside (x68 : Int) (x69 : Int) (x70 : Int) : Option (Bool) :=
  Option.bind (α := Bool) (bif decide (x68 ≥ x69) then some (decide (x68 ≤ x70))
  else some false) fun o72 =>
  some o72
def M.i_isWord16 (x67 : Int) : Option (Bool) :=
  Option.bind (M.i_inside x67 0 65535) fun r80 =>
  some r80
def M.i_stepsTo (x120 : Int) (x121 : Int) : Option (Int) :=
  some (gxAnd .i64 (w64 (x121 - x120)) 65535)
def M.i_NeedsSignal (x64 : Int) (x65 : Int) (x66 : Int) : Option (Bool × Bool) :=
  Option.bind (α := Bool) (Option.bind (M.i_isWord16 x64) fun r101 =>
  bif !r101 then some true
  else (Option.bind (M.i_isWord16 x65) fun r106 =>
  bif !r106 then some true
  else (Option.bind (M.i_isWord16 x66) fun r111 =>
  some (!r111)))) fun o98 =>
  bif o98 then some (false, false)
  else (Option.bind (M.i_stepsTo x64 x66) fun r122 =>
  Option.bind (M.i_stepsTo x64 x65) fun r126 =>
  some (decide (r122 < r126), true))
def M.l_FnExactNeedsSignal (x1 : Int) (x2 : Int) (x3 : Int) : Option (Bool) :=
  Option.bind (M.s_NeedsSignal x1 x2 x3) fun r60 =>
  Option.bind (M.i_NeedsSignal x1 x2 x3) fun r130 =>
  Option.bind (α := Bool) (bif !(r130.1 == r60.1) then some true
  else some (!(r130.2 == r60.2))) fun o135 =>
  bif o135 then some false
  else some true
end Go.Proofs.Ytopnablbecepjaa
