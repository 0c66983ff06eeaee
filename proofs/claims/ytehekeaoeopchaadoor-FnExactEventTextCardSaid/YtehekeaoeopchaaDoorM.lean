/- The models of the functions, printed by program: what each computes, in plain Lean. -/
import Derived.Test.YtehekeaoeopchaaDoorGxN
set_option linter.unusedVariables false
set_option maxRecDepth 100000
set_option maxHeartbeats 4000000
namespace Go.Proofs.YtehekeaoeopchaaDoor
open Go.Gx
structure Event where
  Tick : Int
  Guest : Int
  Kind : ByteArray
  Value : Int
def encEvent : Enc Event := ⟨fun x => [.int .i64 x.Tick, .int .i64 x.Guest, .string x.Kind, .int .i64 x.Value], 4, fun _ => rfl, by simp [Value.oneCell']⟩
def M.l_szEvent (x6 : Event) (x7 : Int) : Option (Int) :=
  bif decide ((w64 (x7 - (x6.Kind.size : Int))) < 0) then some (-1)
  else some (w64 (x7 - (x6.Kind.size : Int)))
def M.l_toEvent (x18 : Event) : Option (Event) :=
  some x18
def M.s_l1In (x56 : Int) (x57 : Int) (x58 : Int) : Option (Bool) :=
  Option.bind (α := Bool) (bif decide (x56 ≥ x57) then some (decide (x56 ≤ x58))
  else some false) fun o60 =>
  some o60
def M.s_l11Tick (x55 : Int) : Option (Bool) :=
  Option.bind (M.s_l1In x55 0 100000) fun r68 =>
  some r68
def M.s_l22Guest (x77 : Int) : Option (Bool) :=
  Option.bind (M.s_l1In x77 0 4) fun r78 =>
  some r78
def M.s_l22Kind (x87 : ByteArray) : Option (Bool) :=
  Option.bind (whileM (σ := Int) (ρ := (Unit) ⊕ (Bool)) (fun s118 =>
    bif decide (s118 < (x87.size : Int)) then (Option.bind (α := Bool) (Option.bind (gxSIdx x87 s118) fun q136 =>
    bif decide (q136 < 97) then some true
    else (Option.bind (gxSIdx x87 s118) fun q138 =>
    some (decide (q138 > 122)))) fun o133 =>
    bif o133 then some (.inr (.inr false))
    else some (.inl (w64 (s118 + 1))))
    else some (.inr (.inl ()))) gxFuel 0) fun out125 => Sum.elim (fun (o128 : Unit) =>
  Option.bind (M.s_l1In (x87.size : Int) 1 8) fun r148 =>
  some r148) (fun r => some r) out125
def M.s_l22One (x50 : Event) : Option (Bool) :=
  Option.bind (α := Bool) (Option.bind (M.s_l11Tick x50.Tick) fun r164 =>
  bif r164 then (Option.bind (M.s_l22Guest x50.Guest) fun r169 =>
  bif r169 then (Option.bind (M.s_l22Kind x50.Kind) fun r174 =>
  bif r174 then (Option.bind (M.s_l1In x50.Value 0 65535) fun r179 =>
  some r179)
  else some false)
  else some false)
  else some false) fun o161 =>
  some o161
def M.s_l1Num : Nat → Int → Option (ByteArray)
  | 0, _ => none
  | n_ + 1, x197 =>
    bif decide (x197 < 0) then (Option.bind (M.s_l1Num n_ (w64 (0 - x197))) fun r199 =>
    Option.bind (gxSCat (ByteArray.mk #[45]) r199) fun q203 =>
    some q203)
    else (bif decide (x197 < 10) then (Option.bind (gxSSub (ByteArray.mk #[48, 49, 50, 51, 52, 53, 54, 55, 56, 57]) x197 (w64 (x197 + 1))) fun q205 =>
    some q205)
    else (Option.bind (M.s_l1Num n_ (w64 (x197.tdiv 10))) fun r206 =>
    Option.bind (gxSSub (ByteArray.mk #[48, 49, 50, 51, 52, 53, 54, 55, 56, 57]) (x197.tmod 10) (w64 ((x197.tmod 10) + 1))) fun q210 =>
    Option.bind (gxSCat r206 q210) fun q211 =>
    some q211))
def M.s_l22Text (x192 : Event) : Option (ByteArray) :=
  Option.bind (M.s_l1Num gxFuel x192.Tick) fun r214 =>
  Option.bind (gxSCat r214 (ByteArray.mk #[32, 109, 97, 99, 104, 105, 110, 101, 32])) fun q218 =>
  Option.bind (α := ByteArray) (bif decide (x192.Guest > 0) then (Option.bind (M.s_l1Num gxFuel x192.Tick) fun r237 =>
  Option.bind (gxSCat r237 (ByteArray.mk #[32, 103, 117, 101, 115, 116, 32])) fun q241 =>
  Option.bind (M.s_l1Num gxFuel x192.Guest) fun r242 =>
  Option.bind (gxSCat q241 r242) fun q246 =>
  Option.bind (gxSCat q246 (ByteArray.mk #[32])) fun q247 =>
  some q247)
  else some q218) fun o233 =>
  Option.bind (gxSCat o233 x192.Kind) fun q254 =>
  Option.bind (α := ByteArray) (bif decide (x192.Value > 0) then (Option.bind (gxSCat q254 (ByteArray.mk #[32])) fun q266 =>
  Option.bind (M.s_l1Num gxFuel x192.Value) fun r267 =>
  Option.bind (gxSCat q266 r267) fun q271 =>
  some q271)
  else some q254) fun o262 =>
  some o262
def M.s_EventText (x45 : Event) : Option (ByteArray × Bool) :=
  Option.bind (M.s_l22One x45) fun r187 =>
  bif !r187 then some ((ByteArray.mk #[]), false)
  else (Option.bind (M.s_l22Text x45) fun r276 =>
  some (r276, true))
def M.i_inside (x299 : Int) (x300 : Int) (x301 : Int) : Option (Bool) :=
  Option.bind (α := Bool) (bif decide (x299 ≥ x300) then some (decide (x299 ≤ x301))
  else some false) fun o303 =>
  some o303
def M.i_isTick (x298 : Int) : Option (Bool) :=
  Option.bind (M.i_inside x298 0 100000) fun r311 =>
  some r311
def M.i_isParty (x320 : Int) : Option (Bool) :=
  Option.bind (M.i_inside x320 0 4) fun r321 =>
  some r321
def M.i_isWord (x331 : ByteArray) : Option (Bool) :=
  Option.bind (whileM (σ := Int) (ρ := (Unit) ⊕ (Bool)) (fun s362 =>
    bif decide (s362 < (x331.size : Int)) then (Option.bind (α := Bool) (Option.bind (gxSIdx x331 s362) fun q380 =>
    bif decide (q380 < 97) then some true
    else (Option.bind (gxSIdx x331 s362) fun q382 =>
    some (decide (q382 > 122)))) fun o377 =>
    bif o377 then some (.inr (.inr false))
    else some (.inl (w64 (s362 + 1))))
    else some (.inr (.inl ()))) gxFuel 0) fun out369 => Sum.elim (fun (o372 : Unit) =>
  Option.bind (M.i_inside (x331.size : Int) 1 10) fun r392 =>
  some r392) (fun r => some r) out369
def M.i_isEventKind (x330 : ByteArray) : Option (Bool) :=
  Option.bind (α := Bool) (Option.bind (M.i_isWord x330) fun r404 =>
  bif r404 then some (decide ((x330.size : Int) ≤ 8))
  else some false) fun o401 =>
  some o401
def M.i_isWord16 (x418 : Int) : Option (Bool) :=
  Option.bind (M.i_inside x418 0 65535) fun r419 =>
  some r419
def M.i_IsEvent (x293 : Event) : Option (Bool) :=
  Option.bind (α := Bool) (Option.bind (M.i_isTick x293.Tick) fun r430 =>
  bif r430 then (Option.bind (M.i_isParty x293.Guest) fun r435 =>
  bif r435 then (Option.bind (M.i_isEventKind x293.Kind) fun r440 =>
  bif r440 then (Option.bind (M.i_isWord16 x293.Value) fun r445 =>
  some r445)
  else some false)
  else some false)
  else some false) fun o427 =>
  some o427
def M.strconv_Itoa (x464 : Int) : Option (ByteArray) :=
  bif decide (-9223372036854775808 ≤ x464) && decide (x464 ≤ 9223372036854775807) then some (gxItoa x464)
  else none
def M.i_eventText (x458 : Event) : Option (ByteArray) :=
  Option.bind (α := ByteArray) (bif decide (x458.Guest > 0) then (Option.bind (M.strconv_Itoa x458.Guest) fun r474 =>
  Option.bind (gxSCat (ByteArray.mk #[103, 117, 101, 115, 116, 32]) r474) fun q478 =>
  some q478)
  else some (ByteArray.mk #[109, 97, 99, 104, 105, 110, 101])) fun o470 =>
  Option.bind (M.strconv_Itoa x458.Tick) fun r483 =>
  Option.bind (gxSCat r483 (ByteArray.mk #[32])) fun q487 =>
  Option.bind (gxSCat q487 o470) fun q488 =>
  Option.bind (gxSCat q488 (ByteArray.mk #[32])) fun q489 =>
  Option.bind (gxSCat q489 x458.Kind) fun q490 =>
  Option.bind (α := ByteArray) (bif decide (x458.Value > 0) then (Option.bind (M.strconv_Itoa x458.Value) fun r504 =>
  Option.bind (gxSCat (ByteArray.mk #[32]) r504) fun q508 =>
  Option.bind (gxSCat q490 q508) fun q509 =>
  some q509)
  else some q490) fun o500 =>
  some o500
def M.i_EventText (x288 : Event) : Option (ByteArray × Bool) :=
  Option.bind (M.i_IsEvent x288) fun r453 =>
  bif !r453 then some ((ByteArray.mk #[]), false)
  else (Option.bind (M.i_eventText x288) fun r514 =>
  some (r514, true))
def M.l_FnExactEventText (x1 : Event) : Option (Bool) :=
  Option.bind (M.l_szEvent x1 1048576) fun r13 =>
  bif decide (r13 < 0) then some true
  else (Option.bind (M.l_toEvent x1) fun r41 =>
  Option.bind (M.s_EventText r41) fun r280 =>
  Option.bind (M.l_toEvent x1) fun r284 =>
  Option.bind (M.i_EventText r284) fun r518 =>
  Option.bind (α := Bool) (bif !(r518.1.toList == r280.1.toList) then some true
  else some (!(r518.2 == r280.2))) fun o523 =>
  bif o523 then some false
  else some true)
end Go.Proofs.YtehekeaoeopchaaDoor
