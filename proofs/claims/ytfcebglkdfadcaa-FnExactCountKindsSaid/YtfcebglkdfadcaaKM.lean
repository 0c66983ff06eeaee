/- The models of the functions, printed by program: what each computes, in plain Lean. -/
import Derived.Test.YtfcebglkdfadcaaGxT
set_option linter.unusedVariables false
set_option maxRecDepth 100000
set_option maxHeartbeats 4000000
namespace Go.Proofs.Ytfcebglkdfadcaa
open Go.Gx
structure Event where
  Tick : Int
  Guest : Int
  Kind : ByteArray
  Value : Int
def encEvent : Enc Event := ⟨fun x => [.int .i64 x.Tick, .int .i64 x.Guest, .string x.Kind, .int .i64 x.Value], 4, fun _ => rfl, by simp [Value.oneCell']⟩
structure l1Cur where
  code : List Int
  at_ : Int
  seed : Int
def M.l_szEvent (x15 : Event) (x16 : Int) : Option (Int) :=
  bif decide ((w64 (x16 - (x15.Kind.size : Int))) < 0) then some (-1)
  else some (w64 (x16 - (x15.Kind.size : Int)))
def M.l_szEventS (x6 : List Event) (x11 : Int) : Option (Int) :=
  bif decide ((w64 (x11 - (x6.length : Int))) < 0) then some (-1)
  else (Option.bind (whileM (σ := Int × Int) (ρ := (Int) ⊕ (Int)) (fun s34 =>
    bif decide (s34.2 < (x6.length : Int)) then (Option.bind (gxIdx x6 s34.2) fun y46 =>
    Option.bind (M.l_szEvent y46 s34.1) fun r47 =>
    bif decide (r47 < 0) then some (.inr (.inr (-1)))
    else some (.inl (r47, w64 (s34.2 + 1))))
    else some (.inr (.inl s34.1))) gxFuel (w64 (x11 - (x6.length : Int)), 0)) fun out41 => Sum.elim (fun (o44 : Int) =>
  some o44) (fun r => some r) out41)
def M.l_toEvent (x81 : Event) : Option (Event) :=
  some x81
def M.l_toEventS (x61 : List Event) : Option ((List Event)) :=
  Option.bind (gxMake 40 (x61.length : Int) ((⟨0, 0, ByteArray.empty, 0⟩ : Event) : Event)) fun mk71 =>
  Option.bind (whileM (σ := Int × List Event) (ρ := List Event) (fun s126 =>
    bif decide (s126.1 < (x61.length : Int)) then (Option.bind (gxIdx x61 s126.1) fun y142 =>
    Option.bind (M.l_toEvent y142) fun r143 =>
    Option.bind (gxIdx s126.2 s126.1) fun y147 =>
    some (.inl (w64 (s126.1 + 1), (s126.2.set s126.1.toNat r143))))
    else some (.inr s126.2)) gxFuel (0, mk71)) fun out133 =>
  some out133
def M.s_l1In (x207 : Int) (x208 : Int) (x209 : Int) : Option (Bool) :=
  Option.bind (α := Bool) (bif decide (x207 ≥ x208) then some (decide (x207 ≤ x209))
  else some false) fun o211 =>
  some o211
def M.s_l11Tick (x206 : Int) : Option (Bool) :=
  Option.bind (M.s_l1In x206 0 100000) fun r219 =>
  some r219
def M.s_l22Guest (x228 : Int) : Option (Bool) :=
  Option.bind (M.s_l1In x228 0 4) fun r229 =>
  some r229
def M.s_l22Kind (x238 : ByteArray) : Option (Bool) :=
  Option.bind (whileM (σ := Int) (ρ := (Unit) ⊕ (Bool)) (fun s269 =>
    bif decide (s269 < (x238.size : Int)) then (Option.bind (α := Bool) (Option.bind (gxSIdx x238 s269) fun q287 =>
    bif decide (q287 < 97) then some true
    else (Option.bind (gxSIdx x238 s269) fun q289 =>
    some (decide (q289 > 122)))) fun o284 =>
    bif o284 then some (.inr (.inr false))
    else some (.inl (w64 (s269 + 1))))
    else some (.inr (.inl ()))) gxFuel 0) fun out276 => Sum.elim (fun (o279 : Unit) =>
  Option.bind (M.s_l1In (x238.size : Int) 1 8) fun r299 =>
  some r299) (fun r => some r) out276
def M.s_l22One (x201 : Event) : Option (Bool) :=
  Option.bind (α := Bool) (Option.bind (M.s_l11Tick x201.Tick) fun r315 =>
  bif r315 then (Option.bind (M.s_l22Guest x201.Guest) fun r320 =>
  bif r320 then (Option.bind (M.s_l22Kind x201.Kind) fun r325 =>
  bif r325 then (Option.bind (M.s_l1In x201.Value 0 65535) fun r330 =>
  some r330)
  else some false)
  else some false)
  else some false) fun o312 =>
  some o312
def M.s_l22Good (x194 : List Event) : Option (Bool) :=
  Option.bind (whileM (σ := Int) (ρ := (Unit) ⊕ (Bool)) (fun s414 =>
    bif decide (s414 < (x194.length : Int)) then (Option.bind (α := Bool) (Option.bind (gxIdx x194 s414) fun y444 =>
    Option.bind (M.s_l22One y444) fun r445 =>
    bif !r445 then some true
    else (bif decide (s414 > 0) then (Option.bind (gxIdx x194 (w64 (s414 - 1))) fun y453 =>
    Option.bind (gxIdx x194 s414) fun y454 =>
    some (decide (y453.Tick > y454.Tick)))
    else some false)) fun o441 =>
    bif o441 then some (.inr (.inr false))
    else some (.inl (w64 (s414 + 1))))
    else some (.inr (.inl ()))) gxFuel 0) fun out421 => Sum.elim (fun (o424 : Unit) =>
  some (decide ((x194.length : Int) ≤ 30))) (fun r => some r) out421
def M.s_CountKinds (x165 : List Event) : Option ((List ByteArray) × (List Int) × Bool) :=
  Option.bind (M.s_l22Good x165) fun r468 =>
  bif !r468 then some (([] : List ByteArray), ([] : List Int), false)
  else (Option.bind (whileM (σ := List ByteArray × List Int × Int × List Int) (ρ := List ByteArray × List Int × List Int) (fun s1677 =>
    bif decide (s1677.2.2.1 < (x165.length : Int)) then (Option.bind (α := List ByteArray × List Int × List Int) (Option.bind (whileM (σ := Int) (ρ := Int) (fun s2060 =>
      Option.bind (α := Bool) (bif decide (s2060 < (s1677.1.length : Int)) then (Option.bind (gxIdx s1677.1 s2060) fun y2082 =>
      Option.bind (gxIdx x165 s1677.2.2.1) fun y2083 =>
      some (Op.bytesLess y2082.toList y2083.Kind.toList))
      else some false) fun o2078 =>
      bif o2078 then some (.inl (w64 (s2060 + 1)))
      else some (.inr s2060)) gxFuel 0) fun out2067 =>
    Option.bind (α := Bool) (bif decide (out2067 < (s1677.1.length : Int)) then (Option.bind (gxIdx s1677.1 out2067) fun y2108 =>
    Option.bind (gxIdx x165 s1677.2.2.1) fun y2109 =>
    some (y2108.toList == y2109.Kind.toList))
    else some false) fun o2104 =>
    bif o2104 then (Option.bind (gxIdx s1677.2.1 out2067) fun y2119 =>
    Option.bind (gxIdx s1677.2.1 out2067) fun y2120 =>
    some (s1677.1, (s1677.2.1.set out2067.toNat (w64 (y2119 + 1))), (s1677.2.1.set out2067.toNat (w64 (y2119 + 1)))))
    else (Option.bind (gxSlice s1677.1 0 out2067) fun ys2132 =>
    Option.bind (gxApp 16 ([] : List ByteArray) ys2132) fun ap2134 =>
    Option.bind (gxIdx x165 s1677.2.2.1) fun y2140 =>
    Option.bind (gxApp 16 ap2134 [y2140.Kind]) fun ap2146 =>
    Option.bind (gxSlice s1677.1 out2067 (s1677.1.length : Int)) fun ys2152 =>
    Option.bind (gxApp 16 ap2146 ys2152) fun ap2217 =>
    Option.bind (gxSlice s1677.2.1 0 out2067) fun ys2232 =>
    Option.bind (gxApp 8 ([] : List Int) ys2232) fun ap2234 =>
    Option.bind (gxApp 8 ap2234 [1]) fun ap2245 =>
    Option.bind (gxSlice s1677.2.1 out2067 (s1677.2.1.length : Int)) fun ys2251 =>
    Option.bind (gxApp 8 ap2245 ys2251) fun ap2296 =>
    some (ap2217, ap2296, s1677.2.1))) fun o2001 =>
    some (.inl (o2001.1, o2001.2.1, w64 (s1677.2.2.1 + 1), s1677.2.2.2)))
    else some (.inr (s1677.1, s1677.2.1, s1677.2.2.2))) gxFuel (([] : List ByteArray), ([] : List Int), 0, ([] : List Int))) fun out1684 =>
  some (out1684.1, out1684.2.1, true))
def M.i_inside (x2369 : Int) (x2370 : Int) (x2371 : Int) : Option (Bool) :=
  Option.bind (α := Bool) (bif decide (x2369 ≥ x2370) then some (decide (x2369 ≤ x2371))
  else some false) fun o2373 =>
  some o2373
def M.i_isTick (x2368 : Int) : Option (Bool) :=
  Option.bind (M.i_inside x2368 0 100000) fun r2381 =>
  some r2381
def M.i_isParty (x2390 : Int) : Option (Bool) :=
  Option.bind (M.i_inside x2390 0 4) fun r2391 =>
  some r2391
def M.i_isWord (x2401 : ByteArray) : Option (Bool) :=
  Option.bind (whileM (σ := Int) (ρ := (Unit) ⊕ (Bool)) (fun s2432 =>
    bif decide (s2432 < (x2401.size : Int)) then (Option.bind (α := Bool) (Option.bind (gxSIdx x2401 s2432) fun q2450 =>
    bif decide (q2450 < 97) then some true
    else (Option.bind (gxSIdx x2401 s2432) fun q2452 =>
    some (decide (q2452 > 122)))) fun o2447 =>
    bif o2447 then some (.inr (.inr false))
    else some (.inl (w64 (s2432 + 1))))
    else some (.inr (.inl ()))) gxFuel 0) fun out2439 => Sum.elim (fun (o2442 : Unit) =>
  Option.bind (M.i_inside (x2401.size : Int) 1 10) fun r2462 =>
  some r2462) (fun r => some r) out2439
def M.i_isEventKind (x2400 : ByteArray) : Option (Bool) :=
  Option.bind (α := Bool) (Option.bind (M.i_isWord x2400) fun r2474 =>
  bif r2474 then some (decide ((x2400.size : Int) ≤ 8))
  else some false) fun o2471 =>
  some o2471
def M.i_isWord16 (x2488 : Int) : Option (Bool) :=
  Option.bind (M.i_inside x2488 0 65535) fun r2489 =>
  some r2489
def M.i_IsEvent (x2363 : Event) : Option (Bool) :=
  Option.bind (α := Bool) (Option.bind (M.i_isTick x2363.Tick) fun r2500 =>
  bif r2500 then (Option.bind (M.i_isParty x2363.Guest) fun r2505 =>
  bif r2505 then (Option.bind (M.i_isEventKind x2363.Kind) fun r2510 =>
  bif r2510 then (Option.bind (M.i_isWord16 x2363.Value) fun r2515 =>
  some r2515)
  else some false)
  else some false)
  else some false) fun o2497 =>
  some o2497
def M.i_IsRecord (x2350 : List Event) : Option (Bool) :=
  Option.bind (whileM (σ := Int) (ρ := (Unit) ⊕ (Bool)) (fun s2599 =>
    bif decide (s2599 < (x2350.length : Int)) then (Option.bind (gxIdx x2350 s2599) fun y2611 =>
    Option.bind (α := Bool) (Option.bind (M.i_IsEvent y2611) fun r2634 =>
    bif !r2634 then some true
    else (bif decide (s2599 > 0) then (Option.bind (gxIdx x2350 (w64 (s2599 - 1))) fun y2642 =>
    some (decide (y2642.Tick > y2611.Tick)))
    else some false)) fun o2631 =>
    bif o2631 then some (.inr (.inr false))
    else some (.inl (w64 (s2599 + 1))))
    else some (.inr (.inl ()))) gxFuel 0) fun out2606 => Sum.elim (fun (o2609 : Unit) =>
  some (decide ((x2350.length : Int) ≤ 30))) (fun r => some r) out2606
def M.slices_Sort_70 (x2781 : List ByteArray) : Option ((List ByteArray)) :=
  bif decide (x2781.length < 4611686018427387904) then some (gxSortS x2781)
  else none
def M.slices_Compact_71 (x2815 : List ByteArray) : Option ((List ByteArray) × (List ByteArray)) :=
  bif decide (x2815.length < 4611686018427387904) then some (gxCompS x2815, gxCompW x2815)
  else none
def M.i_CountKinds_1 (x2923 : Event) (x2924 : ByteArray) : Option (Bool) :=
  some (x2923.Kind.toList == x2924.toList)
def M.i_eventsWhere_1__i_CountKinds_1 (x2911 : Event) (x2912 : ByteArray) : Option (Bool) :=
  Option.bind (M.i_CountKinds_1 x2911 x2912) fun r2932 =>
  some (!r2932)
def M.slices_IndexFunc_59__i_eventsWhere_1__i_CountKinds_1 (x2897 : List Event) (x2902 : ByteArray) : Option (Int) :=
  Option.bind (whileM (σ := Int) (ρ := (Unit) ⊕ (Int)) (fun s2948 =>
    bif decide (s2948 < (x2897.length : Int)) then (Option.bind (gxIdx x2897 s2948) fun y2960 =>
    Option.bind (M.i_eventsWhere_1__i_CountKinds_1 y2960 x2902) fun r2961 =>
    bif r2961 then some (.inr (.inr s2948))
    else some (.inl (w64 (s2948 + 1))))
    else some (.inr (.inl ()))) gxFuel 0) fun out2955 => Sum.elim (fun (o2958 : Unit) =>
  some (-1)) (fun r => some r) out2955
def M.slices_DeleteFunc_81__i_eventsWhere_1__i_CountKinds_1 (x3001 : List Event) (x3007 : ByteArray) : Option ((List Event) × (List Event)) :=
  Option.bind (M.slices_IndexFunc_59__i_eventsWhere_1__i_CountKinds_1 x3001 x3007) fun r3021 =>
  bif r3021 == (-1) then some (x3001, x3001)
  else (Option.bind (whileM (σ := Int × Int × List Event) (ρ := Int × List Event) (fun s3097 =>
    bif decide (s3097.2.1 < (s3097.2.2.length : Int)) then (Option.bind (gxIdx s3097.2.2 s3097.2.1) fun y3115 =>
    Option.bind (M.i_eventsWhere_1__i_CountKinds_1 y3115 x3007) fun r3122 =>
    Option.bind (α := Int × List Event) (bif !r3122 then (Option.bind (gxIdx s3097.2.2 s3097.1) fun y3139 =>
    some (w64 (s3097.1 + 1), (s3097.2.2.set s3097.1.toNat y3115)))
    else some (s3097.1, s3097.2.2)) fun o3132 =>
    some (.inl (o3132.1, w64 (s3097.2.1 + 1), o3132.2)))
    else some (.inr (s3097.1, s3097.2.2))) gxFuel (r3021, w64 (r3021 + 1), x3001)) fun out3104 =>
  Option.bind (gxSlice out3104.2 out3104.1 (out3104.2.length : Int)) fun ys3152 =>
  Option.bind (gxSlice (gxClear out3104.2 out3104.1 (out3104.2.length : Int) ((⟨0, 0, ByteArray.empty, 0⟩ : Event) : Event)) 0 out3104.1) fun ys3158 =>
  some (ys3158, (gxClear out3104.2 out3104.1 (out3104.2.length : Int) ((⟨0, 0, ByteArray.empty, 0⟩ : Event) : Event))))
def M.i_eventsWhere__i_CountKinds_1 (x2847 : List Event) (x2852 : ByteArray) : Option ((List Event)) :=
  Option.bind (gxApp 40 ([] : List Event) x2847) fun ap2872 =>
  Option.bind (M.slices_DeleteFunc_81__i_eventsWhere_1__i_CountKinds_1 ap2872 x2852) fun r3160 =>
  some r3160.1
def M.i_CountKinds (x2335 : List Event) : Option ((List ByteArray) × (List Int) × Bool) :=
  Option.bind (M.i_IsRecord x2335) fun r2656 =>
  bif !r2656 then some (([] : List ByteArray), ([] : List Int), false)
  else (Option.bind (whileM (σ := List ByteArray × Int) (ρ := List ByteArray) (fun s2728 =>
    bif decide (s2728.2 < (x2335.length : Int)) then (Option.bind (gxIdx x2335 s2728.2) fun y2750 =>
    Option.bind (gxApp 16 s2728.1 [y2750.Kind]) fun ap2764 =>
    some (.inl (ap2764, w64 (s2728.2 + 1))))
    else some (.inr s2728.1)) gxFuel (([] : List ByteArray), 0)) fun out2735 =>
  Option.bind (M.slices_Sort_70 out2735) fun r2788 =>
  Option.bind (M.slices_Compact_71 r2788) fun r2825 =>
  Option.bind (whileM (σ := List Int × Int) (ρ := List Int) (fun s3235 =>
    bif decide (s3235.2 < (r2825.1.length : Int)) then (Option.bind (gxIdx r2825.1 s3235.2) fun y3257 =>
    Option.bind (M.i_eventsWhere__i_CountKinds_1 x2335 y3257) fun r3264 =>
    Option.bind (gxApp 8 s3235.1 [(r3264.length : Int)]) fun ap3280 =>
    some (.inl (ap3280, w64 (s3235.2 + 1))))
    else some (.inr s3235.1)) gxFuel (([] : List Int), 0)) fun out3242 =>
  some (r2825.1, out3242, true))
def M.l_eqStringS (x3306 : List ByteArray) (x3311 : List ByteArray) : Option (Bool) :=
  bif (x3306.length : Int) != (x3311.length : Int) then some false
  else (Option.bind (whileM (σ := Int) (ρ := (Unit) ⊕ (Bool)) (fun s3329 =>
    bif decide (s3329 < (x3306.length : Int)) then (Option.bind (gxIdx x3306 s3329) fun y3341 =>
    Option.bind (gxIdx x3311 s3329) fun y3342 =>
    bif !(y3341.toList == y3342.toList) then some (.inr (.inr false))
    else some (.inl (w64 (s3329 + 1))))
    else some (.inr (.inl ()))) gxFuel 0) fun out3336 => Sum.elim (fun (o3339 : Unit) =>
  some true) (fun r => some r) out3336)
def M.l_eqIntS (x3355 : List Int) (x3360 : List Int) : Option (Bool) :=
  bif (x3355.length : Int) != (x3360.length : Int) then some false
  else (Option.bind (whileM (σ := Int) (ρ := (Unit) ⊕ (Bool)) (fun s3378 =>
    bif decide (s3378 < (x3355.length : Int)) then (Option.bind (gxIdx x3355 s3378) fun y3390 =>
    Option.bind (gxIdx x3360 s3378) fun y3391 =>
    bif y3390 != y3391 then some (.inr (.inr false))
    else some (.inl (w64 (s3378 + 1))))
    else some (.inr (.inl ()))) gxFuel 0) fun out3385 => Sum.elim (fun (o3388 : Unit) =>
  some true) (fun r => some r) out3385)
def M.l_eqEvent (x3445 : Event) (x3446 : Event) : Option (Bool) :=
  bif x3445.Tick != x3446.Tick then some false
  else (bif x3445.Guest != x3446.Guest then some false
  else (bif !(x3445.Kind.toList == x3446.Kind.toList) then some false
  else (bif x3445.Value != x3446.Value then some false
  else some true)))
def M.l_eqEventS (x3431 : List Event) (x3436 : List Event) : Option (Bool) :=
  bif (x3431.length : Int) != (x3436.length : Int) then some false
  else (Option.bind (whileM (σ := Int) (ρ := (Unit) ⊕ (Bool)) (fun s3476 =>
    bif decide (s3476 < (x3431.length : Int)) then (Option.bind (gxIdx x3431 s3476) fun y3488 =>
    Option.bind (gxIdx x3436 s3476) fun y3489 =>
    Option.bind (M.l_eqEvent y3488 y3489) fun r3490 =>
    bif !r3490 then some (.inr (.inr false))
    else some (.inl (w64 (s3476 + 1))))
    else some (.inr (.inl ()))) gxFuel 0) fun out3483 => Sum.elim (fun (o3486 : Unit) =>
  some true) (fun r => some r) out3483)
def M.l_markText (x3525 : Int) : Option (ByteArray) :=
  bif decide (x3525 ≤ 0) then some (ByteArray.mk #[109, 48])
  else (Option.bind (whileM (σ := Int × ByteArray) (ρ := ByteArray) (fun s3545 =>
    bif decide (s3545.1 > 0) then (Option.bind (gxSCat (gxStr [IntKind.u8.wrap (w64 (48 + (s3545.1.tmod 10)))]) s3545.2) fun q3564 =>
    some (.inl (w64 (s3545.1.tdiv 10), q3564)))
    else some (.inr s3545.2)) gxFuel (x3525, (ByteArray.mk #[]))) fun out3552 =>
  Option.bind (gxSCat (ByteArray.mk #[109]) out3552) fun q3569 =>
  some q3569)
def M.l_markEventS (x3506 : List Event) (x3512 : Int) : Option (Int × (List Event)) :=
  Option.bind (whileM (σ := Int × Int × List Event) (ρ := Int × List Event) (fun s3612 =>
    bif decide (s3612.2.1 < (s3612.2.2.length : Int)) then (Option.bind (gxIdx s3612.2.2 s3612.2.1) fun y3630 =>
    Option.bind (gxIdx (s3612.2.2.set s3612.2.1.toNat (⟨s3612.1, y3630.Guest, y3630.Kind, y3630.Value⟩ : Event)) s3612.2.1) fun y3635 =>
    Option.bind (M.l_markText (w64 ((w64 (s3612.1 + 1)) + 1))) fun r3640 =>
    Option.bind (gxIdx ((s3612.2.2.set s3612.2.1.toNat (⟨s3612.1, y3630.Guest, y3630.Kind, y3630.Value⟩ : Event)).set s3612.2.1.toNat (⟨y3635.Tick, w64 (s3612.1 + 1), y3635.Kind, y3635.Value⟩ : Event)) s3612.2.1) fun y3644 =>
    Option.bind (gxIdx (((s3612.2.2.set s3612.2.1.toNat (⟨s3612.1, y3630.Guest, y3630.Kind, y3630.Value⟩ : Event)).set s3612.2.1.toNat (⟨y3635.Tick, w64 (s3612.1 + 1), y3635.Kind, y3635.Value⟩ : Event)).set s3612.2.1.toNat (⟨y3644.Tick, y3644.Guest, r3640, y3644.Value⟩ : Event)) s3612.2.1) fun y3649 =>
    some (.inl (w64 ((w64 ((w64 ((w64 (s3612.1 + 1)) + 1)) + 1)) + 1), w64 (s3612.2.1 + 1), ((((s3612.2.2.set s3612.2.1.toNat (⟨s3612.1, y3630.Guest, y3630.Kind, y3630.Value⟩ : Event)).set s3612.2.1.toNat (⟨y3635.Tick, w64 (s3612.1 + 1), y3635.Kind, y3635.Value⟩ : Event)).set s3612.2.1.toNat (⟨y3644.Tick, y3644.Guest, r3640, y3644.Value⟩ : Event)).set s3612.2.1.toNat (⟨y3649.Tick, y3649.Guest, y3649.Kind, w64 ((w64 ((w64 (s3612.1 + 1)) + 1)) + 1)⟩ : Event)))))
    else some (.inr (s3612.1, s3612.2.2))) gxFuel (x3512, 0, x3506)) fun out3619 =>
  some (out3619.1, out3619.2)
def M.l_markStringS (x3695 : List ByteArray) (x3701 : Int) : Option (Int × (List ByteArray)) :=
  Option.bind (whileM (σ := Int × Int × List ByteArray) (ρ := Int × List ByteArray) (fun s3726 =>
    bif decide (s3726.2.1 < (s3726.2.2.length : Int)) then (Option.bind (M.l_markText s3726.1) fun r3744 =>
    Option.bind (gxIdx s3726.2.2 s3726.2.1) fun y3748 =>
    some (.inl (w64 (s3726.1 + 1), w64 (s3726.2.1 + 1), (s3726.2.2.set s3726.2.1.toNat r3744))))
    else some (.inr (s3726.1, s3726.2.2))) gxFuel (x3701, 0, x3695)) fun out3733 =>
  some (out3733.1, out3733.2)
def M.l_markIntS (x3764 : List Int) (x3770 : Int) : Option (Int × (List Int)) :=
  Option.bind (whileM (σ := Int × Int × List Int) (ρ := Int × List Int) (fun s3787 =>
    bif decide (s3787.2.1 < (s3787.2.2.length : Int)) then (Option.bind (gxIdx s3787.2.2 s3787.2.1) fun y3805 =>
    some (.inl (w64 (s3787.1 + 1), w64 (s3787.2.1 + 1), (s3787.2.2.set s3787.2.1.toNat s3787.1))))
    else some (.inr (s3787.1, s3787.2.2))) gxFuel (x3770, 0, x3764)) fun out3794 =>
  some (out3794.1, out3794.2)
def M.l_heldStringS (x3821 : List ByteArray) (x3826 : Int) : Option (Int) :=
  Option.bind (whileM (σ := Int × Int) (ρ := (Int) ⊕ (Int)) (fun s3845 =>
    bif decide (s3845.2 < (x3821.length : Int)) then (Option.bind (gxIdx x3821 s3845.2) fun y3857 =>
    Option.bind (M.l_markText s3845.1) fun r3858 =>
    bif !(y3857.toList == r3858.toList) then some (.inr (.inr (-1)))
    else some (.inl (w64 (s3845.1 + 1), w64 (s3845.2 + 1))))
    else some (.inr (.inl s3845.1))) gxFuel (x3826, 0)) fun out3852 => Sum.elim (fun (o3855 : Int) =>
  some o3855) (fun r => some r) out3852
def M.l_heldIntS (x3874 : List Int) (x3879 : Int) : Option (Int) :=
  Option.bind (whileM (σ := Int × Int) (ρ := (Int) ⊕ (Int)) (fun s3886 =>
    bif decide (s3886.2 < (x3874.length : Int)) then (Option.bind (gxIdx x3874 s3886.2) fun y3898 =>
    bif y3898 != s3886.1 then some (.inr (.inr (-1)))
    else some (.inl (w64 (s3886.1 + 1), w64 (s3886.2 + 1))))
    else some (.inr (.inl s3886.1))) gxFuel (x3879, 0)) fun out3893 => Sum.elim (fun (o3896 : Int) =>
  some o3896) (fun r => some r) out3893
def M.l_FnExactCountKinds (x1 : List Event) : Option (Bool) :=
  Option.bind (M.l_szEventS x1 1048576) fun r56 =>
  bif decide (r56 < 0) then some true
  else (Option.bind (M.l_toEventS x1) fun r156 =>
  Option.bind (M.s_CountKinds r156) fun r2312 =>
  Option.bind (M.l_toEventS x1) fun r2326 =>
  Option.bind (M.i_CountKinds r2326) fun r3292 =>
  Option.bind (α := Bool) (Option.bind (M.l_eqStringS r3292.1 r2312.1) fun r3407 =>
  bif !r3407 then some true
  else (Option.bind (M.l_eqIntS r3292.2.1 r2312.2.1) fun r3412 =>
  bif !r3412 then some true
  else some (!(r3292.2.2 == r2312.2.2)))) fun o3404 =>
  bif o3404 then some false
  else (Option.bind (M.l_toEventS x1) fun r3422 =>
  Option.bind (M.l_eqEventS r2326 r3422) fun r3501 =>
  bif !r3501 then some false
  else (Option.bind (M.l_markEventS r2326 1) fun r3658 =>
  Option.bind (α := Bool) (bif decide (r3658.1 < 0) then some true
  else (Option.bind (M.l_eqStringS r3292.1 r2312.1) fun r3680 =>
  bif !r3680 then some true
  else (Option.bind (M.l_eqIntS r3292.2.1 r2312.2.1) fun r3685 =>
  bif !r3685 then some true
  else some (!(r3292.2.2 == r2312.2.2))))) fun o3676 =>
  bif o3676 then some false
  else (Option.bind (M.l_markStringS r3292.1 1) fun r3757 =>
  Option.bind (M.l_markIntS r3292.2.1 r3757.1) fun r3814 =>
  Option.bind (M.l_heldStringS r3757.2 1) fun r3869 =>
  bif decide (r3869 < 0) then some false
  else (Option.bind (M.l_heldIntS r3814.2 r3869) fun r3904 =>
  bif decide (r3904 < 0) then some false
  else (bif r3904 != r3814.1 then some false
  else (Option.bind (M.l_toEventS x1) fun r3910 =>
  Option.bind (M.i_CountKinds r3910) fun r3919 =>
  Option.bind (α := Bool) (Option.bind (M.l_eqStringS r3919.1 r2312.1) fun r3946 =>
  bif !r3946 then some true
  else (Option.bind (M.l_eqIntS r3919.2.1 r2312.2.1) fun r3951 =>
  bif !r3951 then some true
  else some (!(r3919.2.2 == r2312.2.2)))) fun o3943 =>
  bif o3943 then some false
  else (Option.bind (M.l_heldStringS r3757.2 1) fun r3961 =>
  bif decide (r3961 < 0) then some false
  else (Option.bind (M.l_heldIntS r3814.2 r3961) fun r3966 =>
  bif decide (r3966 < 0) then some false
  else (bif r3966 != r3814.1 then some false
  else some true))))))))))
end Go.Proofs.Ytfcebglkdfadcaa
