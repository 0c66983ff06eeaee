/- The models of the functions, printed by program: what each computes, in plain Lean. -/
import Derived.Test.YtopnablbecepjaaGxG
set_option linter.unusedVariables false
set_option maxRecDepth 100000
set_option maxHeartbeats 4000000
namespace Go.Proofs.Ytopnablbecepjaa
open Go.Gx
structure Ring where
  Items : List Int
  Head : Int
  Tail : Int
structure l1Cur where
  code : List Int
  at_ : Int
  seed : Int
def M.l_vBig (x6 : List Int) : Option (Bool) :=
  some (decide ((x6.length : Int) > 65536))
def M.s_l1Cur_next (x53 : l1Cur) : Option (Int × Int × Int) :=
  Option.bind (α := Int) (bif decide (x53.at_ < (x53.code.length : Int)) then (Option.bind (gxIdx x53.code x53.at_) fun y71 =>
  some (w64 y71))
  else some 0) fun o67 =>
  bif decide ((w64 (x53.at_ + 1)) ≤ (x53.code.length : Int)) then some (o67, w64 (x53.at_ + 1), IntKind.u64.wrap ((IntKind.u64.wrap ((IntKind.u64.wrap (x53.seed * 6364136223846793005)) + (IntKind.u64.wrap o67))) + 843843))
  else some (w64 (gxAnd .u64 ((IntKind.u64.wrap ((IntKind.u64.wrap ((IntKind.u64.wrap (x53.seed * 6364136223846793005)) + (IntKind.u64.wrap o67))) + 843843)).fdiv (2 ^ 40)) 255), w64 (x53.at_ + 1), IntKind.u64.wrap ((IntKind.u64.wrap ((IntKind.u64.wrap (x53.seed * 6364136223846793005)) + (IntKind.u64.wrap o67))) + 843843))
def M.s_l1Cur_pick (x43 : l1Cur) (x51 : Int) : Option (Int × Int × Int) :=
  bif decide (x51 ≤ 1) then some (0, x43.at_, x43.seed)
  else (Option.bind (M.s_l1Cur_next x43) fun r85 =>
  Option.bind (α := Int × Int × Int) (bif decide (x51 > 200) then (Option.bind (M.s_l1Cur_next (⟨x43.code, r85.2.1, r85.2.2⟩ : l1Cur)) fun r98 =>
  some (w64 ((w64 (r85.1 * 256)) + r98.1), r98.2.1, r98.2.2))
  else some (r85.1, r85.2.1, r85.2.2)) fun o94 =>
  Option.bind (gxRem o94.1 x51) fun q106 =>
  some (q106, o94.2.1, o94.2.2))
def M.s_l1Cur_one (x34 : l1Cur) (x42 : Int) : Option (Bool × Int × Int) :=
  Option.bind (M.s_l1Cur_pick x34 x42) fun r107 =>
  some (r107.1 == 0, r107.2.1, r107.2.2)
def M.s_l1Cur_among (x123 : l1Cur) (x131 : List Int) : Option (Int × Int × Int) :=
  Option.bind (M.s_l1Cur_pick x123 (x131.length : Int)) fun r137 =>
  Option.bind (gxIdx x131 r137.1) fun y141 =>
  some (y141, r137.2.1, r137.2.2)
def M.s_l1Cur_word16 (x26 : l1Cur) : Option (Int × Int × Int) :=
  Option.bind (M.s_l1Cur_one x26 32) fun r111 =>
  bif r111.1 then (Option.bind (M.s_l1Cur_among (⟨x26.code, r111.2.1, r111.2.2⟩ : l1Cur) [(-1), 65536]) fun r142 =>
  some (r142.1, r142.2.1, r142.2.2))
  else (Option.bind (M.s_l1Cur_among (⟨x26.code, r111.2.1, r111.2.2⟩ : l1Cur) [0, 1, 2, 7, 100, 32768, 65534, 65535]) fun r153 =>
  some (r153.1, r153.2.1, r153.2.2))
def M.s_l1Most (x174 : Int) (x175 : Int) : Option (Int) :=
  bif decide (x174 > x175) then some x174
  else some x175
def M.s_DrawNeedsSignal (x16 : List Int) : Option (Int × Int × Int) :=
  Option.bind (M.s_l1Cur_word16 (⟨x16, 0, 0⟩ : l1Cur)) fun r157 =>
  Option.bind (M.s_l1Cur_one (⟨x16, r157.2.1, r157.2.2⟩ : l1Cur) 3) fun r161 =>
  bif r161.1 then (Option.bind (M.s_l1Cur_word16 (⟨x16, r161.2.1, r161.2.2⟩ : l1Cur)) fun r166 =>
  Option.bind (M.s_l1Cur_word16 (⟨x16, r166.2.1, r166.2.2⟩ : l1Cur)) fun r170 =>
  some (r157.1, r166.1, r170.1))
  else (Option.bind (M.s_l1Most 0 r157.1) fun r177 =>
  Option.bind (M.s_l1Cur_pick (⟨x16, r161.2.1, r161.2.2⟩ : l1Cur) 6) fun r181 =>
  Option.bind (M.s_l1Cur_pick (⟨x16, r181.2.1, r181.2.2⟩ : l1Cur) 7) fun r185 =>
  some (r157.1, (w64 (r177 + r181.1)).tmod 65536, (w64 (r177 + r185.1)).tmod 65536))
def M.i_inside (x197 : Int) (x198 : Int) (x199 : Int) : Option (Bool) :=
  Option.bind (α := Bool) (bif decide (x197 ≥ x198) then some (decide (x197 ≤ x199))
  else some false) fun o201 =>
  some o201
def M.i_isWord16 (x196 : Int) : Option (Bool) :=
  Option.bind (M.i_inside x196 0 65535) fun r209 =>
  some r209
def M.i_stepsTo (x249 : Int) (x250 : Int) : Option (Int) :=
  some (gxAnd .i64 (w64 (x250 - x249)) 65535)
def M.i_NeedsSignal (x193 : Int) (x194 : Int) (x195 : Int) : Option (Bool × Bool) :=
  Option.bind (α := Bool) (Option.bind (M.i_isWord16 x193) fun r230 =>
  bif !r230 then some true
  else (Option.bind (M.i_isWord16 x194) fun r235 =>
  bif !r235 then some true
  else (Option.bind (M.i_isWord16 x195) fun r240 =>
  some (!r240)))) fun o227 =>
  bif o227 then some (false, false)
  else (Option.bind (M.i_stepsTo x193 x195) fun r251 =>
  Option.bind (M.i_stepsTo x193 x194) fun r255 =>
  some (decide (r251 < r255), true))
def M.s_l1In (x267 : Int) (x268 : Int) (x269 : Int) : Option (Bool) :=
  Option.bind (α := Bool) (bif decide (x267 ≥ x268) then some (decide (x267 ≤ x269))
  else some false) fun o271 =>
  some o271
def M.s_l2Word16 (x266 : Int) : Option (Bool) :=
  Option.bind (M.s_l1In x266 0 65535) fun r279 =>
  some r279
def M.s_NeedsSignal (x263 : Int) (x264 : Int) (x265 : Int) : Option (Bool × Bool) :=
  Option.bind (α := Bool) (Option.bind (M.s_l2Word16 x263) fun r300 =>
  bif !r300 then some true
  else (Option.bind (M.s_l2Word16 x264) fun r305 =>
  bif !r305 then some true
  else (Option.bind (M.s_l2Word16 x265) fun r310 =>
  some (!r310)))) fun o297 =>
  bif o297 then some (false, false)
  else some (decide (((w64 ((w64 (x265 - x263)) + 65536)).tmod 65536) < ((w64 ((w64 (x264 - x263)) + 65536)).tmod 65536)), true)
def M.s_l20Places (x584 : Int) : Option (Bool) :=
  Option.bind (α := Bool) (bif x584 == 1 then some true
  else (bif x584 == 2 then some true
  else (bif x584 == 4 then some true
  else some (x584 == 8)))) fun o588 =>
  some o588
def M.s_MakeRing (x573 : Int) (x574 : Int) : Option (Ring × Bool) :=
  Option.bind (α := Bool) (Option.bind (M.s_l20Places x573) fun r610 =>
  bif !r610 then some true
  else (Option.bind (M.s_l2Word16 x574) fun r615 =>
  some (!r615))) fun o607 =>
  bif o607 then some ((⟨([] : List Int), 0, 0⟩ : Ring), false)
  else (Option.bind (gxMake 8 x573 (0 : Int)) fun mk627 =>
  some ((⟨mk627, x574, x574⟩ : Ring), true))
def M.s_l1Own (x684 : List Int) : Option ((List Int)) :=
  Option.bind (gxApp 8 ([] : List Int) x684) fun ap701 =>
  some ap701
def M.s_l20Count (x761 : Ring) : Option (Int) :=
  some ((w64 ((w64 (x761.Tail - x761.Head)) + 65536)).tmod 65536)
def M.s_l20Take (x664 : Ring) : Option (Ring × Int) :=
  Option.bind (M.s_l1Own x664.Items) fun r709 =>
  Option.bind (M.s_l20Count x664) fun r770 =>
  bif r770 == 0 then some ((⟨r709, x664.Head, x664.Tail⟩ : Ring), (-1))
  else (Option.bind (gxRem x664.Head (x664.Items.length : Int)) fun q777 =>
  Option.bind (gxIdx r709 q777) fun y778 =>
  Option.bind (gxIdx x664.Items q777) fun y788 =>
  some ((⟨(r709.set q777.toNat 0), (w64 (x664.Head + 1)).tmod 65536, x664.Tail⟩ : Ring), y788))
def M.s_l20Put (x840 : Ring) (x845 : Int) : Option (Ring × Bool) :=
  Option.bind (M.s_l1Own x840.Items) fun r861 =>
  Option.bind (M.s_l20Count x840) fun r913 =>
  bif r913 == (x840.Items.length : Int) then some ((⟨r861, x840.Head, x840.Tail⟩ : Ring), false)
  else (Option.bind (gxRem x840.Tail (x840.Items.length : Int)) fun q924 =>
  Option.bind (gxIdx r861 q924) fun y964 =>
  some ((⟨(r861.set q924.toNat x845), x840.Head, (w64 (x840.Tail + 1)).tmod 65536⟩ : Ring), true))
def M.s_l1Cur_ring (x534 : l1Cur) : Option (Ring × Int × Int) :=
  Option.bind (M.s_l1Cur_among x534 [1, 2, 4, 4, 8]) fun r558 =>
  Option.bind (M.s_l1Cur_among (⟨x534.code, r558.2.1, r558.2.2⟩ : l1Cur) [0, 1, 5, 65533, 65534, 65535, 1000]) fun r569 =>
  Option.bind (M.s_MakeRing r558.1 r569.1) fun r638 =>
  Option.bind (M.s_l1Cur_pick (⟨x534.code, r569.2.1, r569.2.2⟩ : l1Cur) 14) fun r654 =>
  Option.bind (whileM (σ := Int × Int × Int × List Int × Int × Int) (ρ := Int × Int × List Int × Int × Int) (fun s1260 =>
    bif decide (s1260.1 > 0) then (Option.bind (M.s_l1Cur_one (⟨x534.code, s1260.2.1, s1260.2.2.1⟩ : l1Cur) 3) fun r1282 =>
    Option.bind (α := Int × Int × List Int × Int × Int) (bif r1282.1 then (Option.bind (M.s_l20Take (⟨s1260.2.2.2.1, s1260.2.2.2.2.1, s1260.2.2.2.2.2⟩ : Ring)) fun r1363 =>
    some (r1282.2.1, r1282.2.2, r1363.1.Items, r1363.1.Head, r1363.1.Tail))
    else (Option.bind (M.s_l1Cur_among (⟨x534.code, r1282.2.1, r1282.2.2⟩ : l1Cur) [1, 2, 3, 0, 500, 65535]) fun r1381 =>
    Option.bind (M.s_l20Put (⟨s1260.2.2.2.1, s1260.2.2.2.2.1, s1260.2.2.2.2.2⟩ : Ring) r1381.1) fun r1382 =>
    some (r1381.2.1, r1381.2.2, r1382.1.Items, r1382.1.Head, r1382.1.Tail))) fun o1354 =>
    some (.inl (w64 (s1260.1 - 1), o1354.1, o1354.2.1, o1354.2.2.1, o1354.2.2.2.1, o1354.2.2.2.2)))
    else some (.inr (s1260.2.1, s1260.2.2.1, s1260.2.2.2.1, s1260.2.2.2.2.1, s1260.2.2.2.2.2))) gxFuel (r654.1, r654.2.1, r654.2.2, r638.1.Items, r638.1.Head, r638.1.Tail)) fun out1267 =>
  Option.bind (M.s_l1Cur_pick (⟨x534.code, out1267.1, out1267.2.1⟩ : l1Cur) 24) fun r1438 =>
  Option.bind (α := Int × Int × List Int × Int) (bif r1438.1 == 0 then (Option.bind (M.s_l1Cur_word16 (⟨x534.code, r1438.2.1, r1438.2.2⟩ : l1Cur)) fun r1780 =>
  some (r1780.2.1, r1780.2.2, out1267.2.2.1, r1780.1))
  else (Option.bind (α := Int × Int × List Int) (bif r1438.1 == 1 then (Option.bind (gxApp 8 out1267.2.2.1 [0]) fun ap1957 =>
  some (r1438.2.1, r1438.2.2, ap1957))
  else (Option.bind (α := Int × Int × List Int) (bif r1438.1 == 2 then (Option.bind (M.s_l1Cur_pick (⟨x534.code, r1438.2.1, r1438.2.2⟩ : l1Cur) (out1267.2.2.1.length : Int)) fun r2039 =>
  Option.bind (M.s_l1Cur_among (⟨x534.code, r2039.2.1, r2039.2.2⟩ : l1Cur) [(-1), 3, 65536]) fun r2045 =>
  Option.bind (gxIdx out1267.2.2.1 r2039.1) fun y2094 =>
  some (r2045.2.1, r2045.2.2, (out1267.2.2.1.set r2039.1.toNat r2045.1)))
  else some (r1438.2.1, r1438.2.2, out1267.2.2.1)) fun o2031 =>
  some (o2031.1, o2031.2.1, o2031.2.2))) fun o1941 =>
  some (o1941.1, o1941.2.1, o1941.2.2, out1267.2.2.2.2))) fun o1771 =>
  some ((⟨o1771.2.2.1, out1267.2.2.2.1, o1771.2.2.2⟩ : Ring), o1771.1, o1771.2.1)
def M.s_DrawResizeRing (x515 : List Int) : Option (Ring × Int) :=
  Option.bind (M.s_l1Cur_ring (⟨x515, 0, 0⟩ : l1Cur)) fun r2114 =>
  Option.bind (M.s_l1Cur_among (⟨x515, r2114.2.1, r2114.2.2⟩ : l1Cur) [1, 2, 4, 8, 8, 0, 3]) fun r2130 =>
  some (r2114.1, r2130.1)
def M.i_arePlaces (x2180 : Int) : Option (Bool) :=
  Option.bind (α := Bool) (Option.bind (M.i_inside x2180 1 8) fun r2189 =>
  bif r2189 then some ((gxAnd .i64 x2180 (w64 (x2180 - 1))) == 0)
  else some false) fun o2186 =>
  some o2186
def M.i_Ring_count (x2219 : Ring) : Option (Int) :=
  Option.bind (M.i_stepsTo x2219.Head x2219.Tail) fun r2228 =>
  some r2228
def M.i_IsRing (x2171 : Ring) : Option (Bool) :=
  Option.bind (α := Bool) (Option.bind (M.i_arePlaces (x2171.Items.length : Int)) fun r2241 =>
  bif !r2241 then some true
  else (Option.bind (M.i_isWord16 x2171.Head) fun r2248 =>
  bif !r2248 then some true
  else (Option.bind (M.i_isWord16 x2171.Tail) fun r2255 =>
  bif !r2255 then some true
  else (Option.bind (M.i_Ring_count x2171) fun r2262 =>
  some (decide (r2262 > (x2171.Items.length : Int))))))) fun o2238 =>
  bif o2238 then some false
  else (Option.bind (whileM (σ := Int) (ρ := (Unit) ⊕ (Bool)) (fun s2377 =>
    bif decide (s2377 < (x2171.Items.length : Int)) then (Option.bind (gxIdx x2171.Items s2377) fun y2389 =>
    Option.bind (α := Bool) (Option.bind (M.i_isWord16 y2389) fun r2414 =>
    bif !r2414 then some true
    else (bif y2389 != 0 then (Option.bind (M.i_stepsTo x2171.Head s2377) fun r2422 =>
    Option.bind (gxRem r2422 (x2171.Items.length : Int)) fun q2426 =>
    Option.bind (M.i_Ring_count x2171) fun r2427 =>
    some (decide (q2426 ≥ r2427)))
    else some false)) fun o2411 =>
    bif o2411 then some (.inr (.inr false))
    else some (.inl (w64 (s2377 + 1))))
    else some (.inr (.inl ()))) gxFuel 0) fun out2384 => Sum.elim (fun (o2387 : Unit) =>
  some true) (fun r => some r) out2384)
def M.i_ringWords (x2485 : Ring) : Option ((List Int)) :=
  Option.bind (M.i_Ring_count x2485) fun r2506 =>
  Option.bind (whileM (σ := List Int × Int) (ρ := List Int) (fun s2669 =>
    bif decide (s2669.2 < r2506) then (Option.bind (gxRem (w64 (x2485.Head + s2669.2)) (x2485.Items.length : Int)) fun q2693 =>
    Option.bind (gxIdx x2485.Items q2693) fun y2694 =>
    Option.bind (gxApp 8 s2669.1 [y2694]) fun ap2759 =>
    some (.inl (ap2759, w64 (s2669.2 + 1))))
    else some (.inr s2669.1)) gxFuel (([] : List Int), 0)) fun out2676 =>
  some out2676
def M.i_ringOf (x2801 : Int) (x2802 : Int) (x2803 : List Int) : Option (Ring) :=
  Option.bind (gxMake 8 x2801 (0 : Int)) fun mk2817 =>
  Option.bind (whileM (σ := Int × List Int) (ρ := List Int) (fun s2927 =>
    bif decide (s2927.1 < (x2803.length : Int)) then (Option.bind (gxIdx x2803 s2927.1) fun y2943 =>
    Option.bind (gxRem (w64 (x2802 + s2927.1)) x2801) fun q2946 =>
    Option.bind (gxIdx s2927.2 q2946) fun y2982 =>
    some (.inl (w64 (s2927.1 + 1), (s2927.2.set q2946.toNat y2943))))
    else some (.inr s2927.2)) gxFuel (0, mk2817)) fun out2934 =>
  some (⟨out2934, x2802, gxAnd .i64 (w64 (x2802 + (x2803.length : Int))) 65535⟩ : Ring)
def M.i_ResizeRing (x2152 : Ring) (x2157 : Int) : Option (Ring × Bool) :=
  Option.bind (α := Bool) (Option.bind (M.i_IsRing x2152) fun r2461 =>
  bif !r2461 then some true
  else (Option.bind (M.i_arePlaces x2157) fun r2466 =>
  bif !r2466 then some true
  else (Option.bind (M.i_Ring_count x2152) fun r2471 =>
  some (decide (r2471 > x2157))))) fun o2458 =>
  bif o2458 then some ((⟨([] : List Int), 0, 0⟩ : Ring), false)
  else (Option.bind (M.i_ringWords x2152) fun r2771 =>
  Option.bind (M.i_ringOf x2157 x2152.Head r2771) fun r2994 =>
  some (r2994, true))
def M.s_l20Good (x3040 : Ring) : Option (Bool) :=
  Option.bind (α := Bool) (Option.bind (M.s_l20Places (x3040.Items.length : Int)) fun r3071 =>
  bif !r3071 then some true
  else (Option.bind (M.s_l2Word16 x3040.Head) fun r3076 =>
  bif !r3076 then some true
  else (Option.bind (M.s_l2Word16 x3040.Tail) fun r3081 =>
  bif !r3081 then some true
  else (Option.bind (M.s_l20Count x3040) fun r3086 =>
  some (decide (r3086 > (x3040.Items.length : Int))))))) fun o3068 =>
  bif o3068 then some false
  else (Option.bind (whileM (σ := Int) (ρ := (Unit) ⊕ (Bool)) (fun s3161 =>
    bif decide (s3161 < (x3040.Items.length : Int)) then (Option.bind (gxRem (w64 (x3040.Head + s3161)) (x3040.Items.length : Int)) fun q3173 =>
    Option.bind (gxIdx x3040.Items q3173) fun y3174 =>
    Option.bind (α := Bool) (Option.bind (M.s_l2Word16 y3174) fun r3190 =>
    bif !r3190 then some true
    else (Option.bind (M.s_l20Count x3040) fun r3195 =>
    bif decide (s3161 ≥ r3195) then some (y3174 != 0)
    else some false)) fun o3187 =>
    bif o3187 then some (.inr (.inr false))
    else some (.inl (w64 (s3161 + 1))))
    else some (.inr (.inl ()))) gxFuel 0) fun out3168 => Sum.elim (fun (o3171 : Unit) =>
  some true) (fun r => some r) out3168)
def M.s_l20Words (x3297 : Ring) : Option ((List Int)) :=
  Option.bind (whileM (σ := List Int × Int) (ρ := List Int) (fun s3485 =>
    Option.bind (M.s_l20Count x3297) fun r3506 =>
    bif decide (s3485.2 < r3506) then (Option.bind (gxRem (w64 (x3297.Head + s3485.2)) (x3297.Items.length : Int)) fun q3513 =>
    Option.bind (gxIdx x3297.Items q3513) fun y3514 =>
    Option.bind (gxApp 8 s3485.1 [y3514]) fun ap3579 =>
    some (.inl (ap3579, w64 (s3485.2 + 1))))
    else some (.inr s3485.1)) gxFuel (([] : List Int), 0)) fun out3492 =>
  some out3492
def M.s_ResizeRing (x3021 : Ring) (x3026 : Int) : Option (Ring × Bool) :=
  Option.bind (α := Bool) (Option.bind (M.s_l20Good x3021) fun r3226 =>
  bif !r3226 then some true
  else (Option.bind (M.s_l20Places x3026) fun r3231 =>
  bif !r3231 then some true
  else (Option.bind (M.s_l20Count x3021) fun r3236 =>
  some (decide (r3236 > x3026))))) fun o3223 =>
  bif o3223 then some ((⟨([] : List Int), 0, 0⟩ : Ring), false)
  else (Option.bind (gxMake 8 x3026 (0 : Int)) fun mk3250 =>
  Option.bind (M.s_l20Words x3021) fun r3591 =>
  Option.bind (whileM (σ := Int × List Int × Int × Int) (ρ := List Int × Int × Int) (fun s3715 =>
    bif decide (s3715.1 < (r3591.length : Int)) then (Option.bind (gxIdx r3591 s3715.1) fun y3739 =>
    Option.bind (M.s_l20Put (⟨s3715.2.1, s3715.2.2.1, s3715.2.2.2⟩ : Ring) y3739) fun r3740 =>
    some (.inl (w64 (s3715.1 + 1), r3740.1.Items, r3740.1.Head, r3740.1.Tail)))
    else some (.inr (s3715.2.1, s3715.2.2.1, s3715.2.2.2))) gxFuel (0, mk3250, x3021.Head, x3021.Head)) fun out3722 =>
  some ((⟨out3722.1, out3722.2.1, out3722.2.2⟩ : Ring), true))
def M.l_vInts (x3832 : List Int) (x3837 : List Int) : Option (Bool) :=
  bif (x3832.length : Int) != (x3837.length : Int) then some false
  else (Option.bind (whileM (σ := Int) (ρ := (Unit) ⊕ (Bool)) (fun s3855 =>
    bif decide (s3855 < (x3832.length : Int)) then (Option.bind (gxIdx x3832 s3855) fun y3867 =>
    Option.bind (gxIdx x3837 s3855) fun y3868 =>
    bif y3867 != y3868 then some (.inr (.inr false))
    else some (.inl (w64 (s3855 + 1))))
    else some (.inr (.inl ()))) gxFuel 0) fun out3862 => Sum.elim (fun (o3865 : Unit) =>
  some true) (fun r => some r) out3862)
def M.l_vRing (x3814 : Ring) (x3819 : Ring) : Option (Bool) :=
  Option.bind (α := Bool) (Option.bind (M.l_vInts x3814.Items x3819.Items) fun r3885 =>
  bif r3885 then (bif x3814.Head == x3819.Head then some (x3814.Tail == x3819.Tail)
  else some false)
  else some false) fun o3882 =>
  some o3882
def M.i_RingWords (x3913 : Ring) : Option ((List Int) × Bool) :=
  Option.bind (M.i_IsRing x3913) fun r3927 =>
  bif !r3927 then some (([] : List Int), false)
  else (Option.bind (M.i_ringWords x3913) fun r3933 =>
  some (r3933, true))
def M.s_DrawMakeRing (x4083 : List Int) : Option (Int × Int) :=
  Option.bind (M.s_l1Cur_among (⟨x4083, 0, 0⟩ : l1Cur) [1, 2, 4, 8, 0, 3, 16, 4]) fun r4100 =>
  Option.bind (M.s_l1Cur_word16 (⟨x4083, r4100.2.1, r4100.2.2⟩ : l1Cur)) fun r4104 =>
  some (r4100.1, r4104.1)
def M.i_MakeRing (x4112 : Int) (x4113 : Int) : Option (Ring × Bool) :=
  Option.bind (α := Bool) (Option.bind (M.i_arePlaces x4112) fun r4135 =>
  bif !r4135 then some true
  else (Option.bind (M.i_isWord16 x4113) fun r4140 =>
  some (!r4140))) fun o4132 =>
  bif o4132 then some ((⟨([] : List Int), 0, 0⟩ : Ring), false)
  else (Option.bind (gxMake 8 x4112 (0 : Int)) fun mk4152 =>
  some ((⟨mk4152, x4113, x4113⟩ : Ring), true))
def M.s_DrawIsRing (x4227 : List Int) : Option (Ring) :=
  Option.bind (M.s_l1Cur_ring (⟨x4227, 0, 0⟩ : l1Cur)) fun r4246 =>
  some r4246.1
def M.s_DrawRingWords (x4213 : List Int) : Option (Ring) :=
  Option.bind (M.s_DrawIsRing x4213) fun r4257 =>
  some r4257
def M.s_RingWords (x4293 : Ring) : Option ((List Int) × Bool) :=
  Option.bind (M.s_l20Good x4293) fun r4307 =>
  bif !r4307 then some (([] : List Int), false)
  else (Option.bind (M.s_l20Words x4293) fun r4319 =>
  some (r4319, true))
def M.l_FnSignals (x1 : List Int) : Option (Bool) :=
  Option.bind (M.l_vBig x1) fun r11 =>
  bif r11 then some true
  else (Option.bind (M.s_DrawNeedsSignal x1) fun r189 =>
  Option.bind (M.i_NeedsSignal r189.1 r189.2.1 r189.2.2) fun r259 =>
  Option.bind (M.s_NeedsSignal r189.1 r189.2.1 r189.2.2) fun r319 =>
  Option.bind (α := Bool) (bif !(r259.1 == r319.1) then some true
  else some (!(r259.2 == r319.2))) fun o324 =>
  bif o324 then some false
  else (Option.bind (α := (Unit) ⊕ (Bool)) (bif r259.2 then (Option.bind (whileM (σ := Bool × Int) (ρ := Bool) (fun s461 =>
    Option.bind (α := Bool) (bif decide (s461.2 < ((w64 ((w64 (r189.2.1 - r189.1)) + 65536)).tmod 65536)) then some (decide (s461.2 < 64))
    else some false) fun o473 =>
    bif o473 then (Option.bind (α := Bool) (bif s461.1 then some true
    else some (((w64 (r189.1 + s461.2)).tmod 65536) == r189.2.2)) fun o483 =>
    some (.inl (o483, w64 (s461.2 + 1))))
    else some (.inr s461.1)) gxFuel (false, 0)) fun out468 =>
  Option.bind (α := Bool) (bif decide (((w64 ((w64 (r189.2.1 - r189.1)) + 65536)).tmod 65536) ≤ 64) then (bif !(out468 == r259.1) then some true
  else (bif out468 then some (!r259.1)
  else some false))
  else (bif out468 then some (!r259.1)
  else some false)) fun o499 =>
  bif o499 then some (.inr false)
  else some (.inl ()))
  else some (.inl ())) fun out423 => Sum.elim (fun (o420 : Unit) =>
  Option.bind (M.s_DrawResizeRing x1) fun r2136 =>
  Option.bind (M.i_ResizeRing r2136.1 r2136.2) fun r3005 =>
  Option.bind (M.s_ResizeRing r2136.1 r2136.2) fun r3797 =>
  Option.bind (α := Bool) (bif !(r3005.2 == r3797.2) then some true
  else (Option.bind (M.l_vRing r3005.1 r3797.1) fun r3903 =>
  some (!r3903))) fun o3899 =>
  bif o3899 then some false
  else (Option.bind (α := (Unit) ⊕ (Bool)) (bif r3005.2 then (Option.bind (M.i_RingWords r2136.1) fun r4013 =>
  Option.bind (M.i_RingWords r3005.1) fun r4022 =>
  Option.bind (M.i_ResizeRing r3005.1 (r2136.1.Items.length : Int)) fun r4031 =>
  Option.bind (α := Bool) (bif !r4013.2 then some true
  else (bif !r4022.2 then some true
  else (Option.bind (M.l_vInts r4013.1 r4022.1) fun r4064 =>
  bif !r4064 then some true
  else (bif !r4031.2 then some true
  else (Option.bind (M.l_vRing r4031.1 r2136.1) fun r4070 =>
  some (!r4070)))))) fun o4059 =>
  bif o4059 then some (.inr false)
  else some (.inl ()))
  else some (.inl ())) fun out4011 => Sum.elim (fun (o4008 : Unit) =>
  Option.bind (M.s_DrawMakeRing x1) fun r4108 =>
  Option.bind (M.i_MakeRing r4108.1 r4108.2) fun r4163 =>
  Option.bind (M.s_MakeRing r4108.1 r4108.2) fun r4179 =>
  Option.bind (α := Bool) (bif !(r4163.2 == r4179.2) then some true
  else (Option.bind (M.l_vRing r4163.1 r4179.1) fun r4204 =>
  some (!r4204))) fun o4200 =>
  bif o4200 then some false
  else (Option.bind (M.s_DrawRingWords x1) fun r4268 =>
  Option.bind (M.i_RingWords r4268) fun r4284 =>
  Option.bind (M.s_RingWords r4268) fun r4328 =>
  Option.bind (α := Bool) (bif r4284.2 == r4328.2 then (Option.bind (M.l_vInts r4284.1 r4328.1) fun r4346 =>
  some r4346)
  else some false) fun o4342 =>
  some o4342)) (fun r => some r) out4011)) (fun r => some r) out423))
def M.s_DrawPutWord (x4364 : List Int) : Option (Ring × Int) :=
  Option.bind (M.s_l1Cur_ring (⟨x4364, 0, 0⟩ : l1Cur)) fun r4383 =>
  Option.bind (M.s_l1Cur_word16 (⟨x4364, r4383.2.1, r4383.2.2⟩ : l1Cur)) fun r4392 =>
  some (r4383.1, r4392.1)
def M.i_PutWords_1 (x4480 : Int) : Option (Bool) :=
  Option.bind (M.i_isWord16 x4480) fun r4481 =>
  some (!r4481)
def M.slices_IndexFunc_79__i_PutWords_1 (x4473 : List Int) : Option (Int) :=
  Option.bind (whileM (σ := Int) (ρ := (Unit) ⊕ (Int)) (fun s4497 =>
    bif decide (s4497 < (x4473.length : Int)) then (Option.bind (gxIdx x4473 s4497) fun y4509 =>
    Option.bind (M.i_PutWords_1 y4509) fun r4510 =>
    bif r4510 then some (.inr (.inr s4497))
    else some (.inl (w64 (s4497 + 1))))
    else some (.inr (.inl ()))) gxFuel 0) fun out4504 => Sum.elim (fun (o4507 : Unit) =>
  some (-1)) (fun r => some r) out4504
def M.slices_ContainsFunc_68__i_PutWords_1 (x4468 : List Int) : Option (Bool) :=
  Option.bind (M.slices_IndexFunc_79__i_PutWords_1 x4468) fun r4519 =>
  some (decide (r4519 ≥ 0))
def M.i_PutWords (x4440 : Ring) (x4445 : List Int) : Option (Ring × Int × Bool) :=
  Option.bind (α := Bool) (Option.bind (M.i_IsRing x4440) fun r4530 =>
  bif !r4530 then some true
  else (Option.bind (M.slices_ContainsFunc_68__i_PutWords_1 x4445) fun r4535 =>
  some r4535)) fun o4527 =>
  bif o4527 then some ((⟨([] : List Int), 0, 0⟩ : Ring), 0, false)
  else (Option.bind (M.i_Ring_count x4440) fun r4547 =>
  Option.bind (M.i_ringWords x4440) fun r4555 =>
  Option.bind (gxSlice x4445 0 (gxMin (x4445.length : Int) (w64 ((x4440.Items.length : Int) - r4547)))) fun ys4561 =>
  Option.bind (gxApp 8 r4555 ys4561) fun ap4563 =>
  Option.bind (M.i_ringOf (x4440.Items.length : Int) x4440.Head ap4563) fun r4569 =>
  some (r4569, gxMin (x4445.length : Int) (w64 ((x4440.Items.length : Int) - r4547)), true))
def M.i_PutWord (x4414 : Ring) (x4419 : Int) : Option (Ring × Bool) :=
  Option.bind (M.i_PutWords x4414 [x4419]) fun r4637 =>
  Option.bind (α := Bool) (bif !r4637.2.2 then some true
  else some (r4637.2.1 == 0)) fun o4654 =>
  bif o4654 then some ((⟨([] : List Int), 0, 0⟩ : Ring), false)
  else some (r4637.1, true)
def M.s_PutWord (x4684 : Ring) (x4689 : Int) : Option (Ring × Bool) :=
  Option.bind (α := Bool) (Option.bind (M.s_l20Good x4684) fun r4715 =>
  bif !r4715 then some true
  else (Option.bind (M.s_l2Word16 x4689) fun r4720 =>
  some (!r4720))) fun o4712 =>
  bif o4712 then some ((⟨([] : List Int), 0, 0⟩ : Ring), false)
  else (Option.bind (M.s_l20Put x4684 x4689) fun r4732 =>
  bif !r4732.2 then some ((⟨([] : List Int), 0, 0⟩ : Ring), false)
  else some (r4732.1, true))
def M.s_IsRing (x4784 : Ring) : Option (Bool) :=
  Option.bind (M.s_l20Good x4784) fun r4793 =>
  some r4793
def M.s_DrawTakeWord (x5057 : List Int) : Option (Ring) :=
  Option.bind (M.s_DrawIsRing x5057) fun r5071 =>
  some r5071
def M.i_copyInts (x5280 : List Int) : Option ((List Int)) :=
  Option.bind (gxApp 8 ([] : List Int) x5280) fun ap5297 =>
  some ap5297
def M.i_TakeWords (x5116 : Ring) (x5121 : Int) : Option (Ring × (List Int) × Bool) :=
  Option.bind (α := Bool) (Option.bind (M.i_IsRing x5116) fun r5148 =>
  bif !r5148 then some true
  else some (decide (x5121 < 0))) fun o5145 =>
  bif o5145 then some ((⟨([] : List Int), 0, 0⟩ : Ring), ([] : List Int), false)
  else (Option.bind (M.i_ringWords x5116) fun r5164 =>
  Option.bind (M.i_Ring_count x5116) fun r5170 =>
  Option.bind (gxSlice r5164 (gxMin x5121 r5170) (r5164.length : Int)) fun ys5206 =>
  Option.bind (M.i_ringOf (x5116.Items.length : Int) (gxAnd .i64 (w64 (x5116.Head + (gxMin x5121 r5170))) 65535) ys5206) fun r5208 =>
  Option.bind (gxSlice r5164 0 (gxMin x5121 r5170)) fun ys5214 =>
  Option.bind (M.i_copyInts ys5214) fun r5305 =>
  some (r5208, r5305, true))
def M.i_TakeWord (x5098 : Ring) : Option (Ring × Int × Bool) :=
  Option.bind (M.i_TakeWords x5098 1) fun r5316 =>
  Option.bind (α := Bool) (bif !r5316.2.2 then some true
  else some ((r5316.2.1.length : Int) == 0)) fun o5338 =>
  bif o5338 then some ((⟨([] : List Int), 0, 0⟩ : Ring), 0, false)
  else (Option.bind (gxIdx r5316.2.1 0) fun y5352 =>
  some (r5316.1, y5352, true))
def M.s_TakeWord (x5393 : Ring) : Option (Ring × Int × Bool) :=
  Option.bind (α := Bool) (Option.bind (M.s_l20Good x5393) fun r5423 =>
  bif !r5423 then some true
  else (Option.bind (M.s_l20Count x5393) fun r5428 =>
  some (r5428 == 0))) fun o5420 =>
  bif o5420 then some ((⟨([] : List Int), 0, 0⟩ : Ring), 0, false)
  else (Option.bind (M.s_l20Take x5393) fun r5440 =>
  some (r5440.1, r5440.2, true))
def M.s_DrawPutWords (x5620 : List Int) : Option (Ring × (List Int)) :=
  Option.bind (M.s_l1Cur_ring (⟨x5620, 0, 0⟩ : l1Cur)) fun r5644 =>
  Option.bind (M.s_l1Cur_pick (⟨x5620, r5644.2.1, r5644.2.2⟩ : l1Cur) 8) fun r5667 =>
  Option.bind (whileM (σ := List Int × Int × Int × Int) (ρ := List Int) (fun s5716 =>
    bif decide (s5716.2.1 > 0) then (Option.bind (M.s_l1Cur_word16 (⟨x5620, s5716.2.2.1, s5716.2.2.2⟩ : l1Cur)) fun r5738 =>
    Option.bind (gxApp 8 s5716.1 [r5738.1]) fun ap5749 =>
    some (.inl (ap5749, w64 (s5716.2.1 - 1), r5738.2.1, r5738.2.2)))
    else some (.inr s5716.1)) gxFuel (([] : List Int), r5667.1, r5667.2.1, r5667.2.2)) fun out5723 =>
  some (r5644.1, out5723)
def M.s_PutWords (x5800 : Ring) (x5805 : List Int) : Option (Ring × Int × Bool) :=
  Option.bind (M.s_l20Good x5800) fun r5823 =>
  bif !r5823 then some ((⟨([] : List Int), 0, 0⟩ : Ring), 0, false)
  else (Option.bind (whileM (σ := Int) (ρ := (Unit) ⊕ (Ring × Int × Bool)) (fun s5851 =>
    bif decide (s5851 < (x5805.length : Int)) then (Option.bind (gxIdx x5805 s5851) fun y5863 =>
    Option.bind (M.s_l2Word16 y5863) fun r5864 =>
    bif !r5864 then some (.inr (.inr ((⟨([] : List Int), 0, 0⟩ : Ring), 0, false)))
    else some (.inl (w64 (s5851 + 1))))
    else some (.inr (.inl ()))) gxFuel 0) fun out5858 => Sum.elim (fun (o5861 : Unit) =>
  Option.bind (M.s_l1Own x5800.Items) fun r5878 =>
  Option.bind (whileM (σ := Int × List Int × Int × Int) (ρ := (List Int × Int × Int) ⊕ (Ring × Int × Bool)) (fun s6069 =>
    bif decide (s6069.1 < (x5805.length : Int)) then (Option.bind (gxIdx x5805 s6069.1) fun y6093 =>
    Option.bind (M.s_l20Put (⟨s6069.2.1, s6069.2.2.1, s6069.2.2.2⟩ : Ring) y6093) fun r6094 =>
    bif !r6094.2 then some (.inr (.inr ((⟨s6069.2.1, s6069.2.2.1, s6069.2.2.2⟩ : Ring), s6069.1, true)))
    else some (.inl (w64 (s6069.1 + 1), r6094.1.Items, r6094.1.Head, r6094.1.Tail)))
    else some (.inr (.inl (s6069.2.1, s6069.2.2.1, s6069.2.2.2)))) gxFuel (0, r5878, x5800.Head, x5800.Tail)) fun out6076 => Sum.elim (fun (o6084 : List Int × Int × Int) =>
  some ((⟨o6084.1, o6084.2.1, o6084.2.2⟩ : Ring), (x5805.length : Int), true)) (fun r => some r) out6076) (fun r => some r) out5858)
def M.s_DrawTakeWords (x8821 : List Int) : Option (Ring × Int) :=
  Option.bind (M.s_l1Cur_ring (⟨x8821, 0, 0⟩ : l1Cur)) fun r8840 =>
  Option.bind (M.s_l1Cur_pick (⟨x8821, r8840.2.1, r8840.2.2⟩ : l1Cur) 9) fun r8849 =>
  Option.bind (M.s_l1Cur_pick (⟨x8821, r8849.2.1, r8849.2.2⟩ : l1Cur) 9) fun r8853 =>
  some (r8840.1, w64 (r8849.1 - (w64 (r8853.1.tdiv 8))))
def M.s_TakeWords (x8896 : Ring) (x8901 : Int) : Option (Ring × (List Int) × Bool) :=
  Option.bind (α := Bool) (Option.bind (M.s_l20Good x8896) fun r8935 =>
  bif !r8935 then some true
  else some (decide (x8901 < 0))) fun o8932 =>
  bif o8932 then some ((⟨([] : List Int), 0, 0⟩ : Ring), ([] : List Int), false)
  else (Option.bind (M.s_l1Own x8896.Items) fun r8950 =>
  Option.bind (whileM (σ := List Int × List Int × Int × Int) (ρ := List Int × List Int × Int × Int) (fun s9114 =>
    Option.bind (α := Bool) (bif decide ((s9114.1.length : Int) < x8901) then (Option.bind (M.s_l20Count (⟨s9114.2.1, s9114.2.2.1, s9114.2.2.2⟩ : Ring)) fun r9154 =>
    some (decide (r9154 > 0)))
    else some false) fun o9150 =>
    bif o9150 then (Option.bind (M.s_l20Take (⟨s9114.2.1, s9114.2.2.1, s9114.2.2.2⟩ : Ring)) fun r9163 =>
    Option.bind (gxApp 8 s9114.1 [r9163.2]) fun ap9188 =>
    some (.inl (ap9188, r9163.1.Items, r9163.1.Head, r9163.1.Tail)))
    else some (.inr (s9114.1, s9114.2.1, s9114.2.2.1, s9114.2.2.2))) gxFuel (([] : List Int), r8950, x8896.Head, x8896.Tail)) fun out9121 =>
  some ((⟨out9121.2.1, out9121.2.2.1, out9121.2.2.2⟩ : Ring), out9121.1, true))
def M.l_FnRings (x4354 : List Int) : Option (Bool) :=
  Option.bind (M.l_vBig x4354) fun r4359 =>
  bif r4359 then some true
  else (Option.bind (M.s_DrawPutWord x4354) fun r4398 =>
  Option.bind (M.i_PutWord r4398.1 r4398.2) fun r4668 =>
  Option.bind (M.s_PutWord r4398.1 r4398.2) fun r4754 =>
  Option.bind (α := Bool) (bif !(r4668.2 == r4754.2) then some true
  else (Option.bind (M.l_vRing r4668.1 r4754.1) fun r4819 =>
  bif !r4819 then some true
  else (Option.bind (M.i_IsRing r4398.1) fun r4826 =>
  Option.bind (M.s_IsRing r4398.1) fun r4830 =>
  bif !(r4826 == r4830) then some true
  else (bif r4668.2 then (Option.bind (M.i_IsRing r4668.1) fun r4838 =>
  some (!r4838))
  else some false)))) fun o4813 =>
  bif o4813 then some false
  else (Option.bind (α := (Unit) ⊕ (Bool)) (bif r4668.2 then (Option.bind (M.i_RingWords r4398.1) fun r4955 =>
  Option.bind (M.i_RingWords r4668.1) fun r4964 =>
  Option.bind (α := Bool) (bif !r4955.2 then some true
  else (bif !r4964.2 then some true
  else (Option.bind (gxApp 8 ([] : List Int) r4955.1) fun ap5021 =>
  Option.bind (gxApp 8 ap5021 [r4398.2]) fun ap5036 =>
  Option.bind (M.l_vInts r4964.1 ap5036) fun r5044 =>
  some (!r5044)))) fun o5009 =>
  bif o5009 then some (.inr false)
  else some (.inl ()))
  else some (.inl ())) fun out4953 => Sum.elim (fun (o4950 : Unit) =>
  Option.bind (M.s_DrawTakeWord x4354) fun r5082 =>
  Option.bind (M.i_TakeWord r5082) fun r5377 =>
  Option.bind (M.s_TakeWord r5082) fun r5458 =>
  Option.bind (α := Bool) (bif !(r5377.2.2 == r5458.2.2) then some true
  else (bif r5377.2.1 != r5458.2.1 then some true
  else (Option.bind (M.l_vRing r5377.1 r5458.1) fun r5485 =>
  some (!r5485)))) fun o5480 =>
  bif o5480 then some false
  else (Option.bind (α := (Unit) ⊕ (Bool)) (bif r5377.2.2 then (Option.bind (M.i_RingWords r5082) fun r5558 =>
  Option.bind (M.i_RingWords r5377.1) fun r5567 =>
  Option.bind (α := Bool) (bif !r5558.2 then some true
  else (bif !r5567.2 then some true
  else (bif (r5558.1.length : Int) == 0 then some true
  else (Option.bind (gxIdx r5558.1 0) fun y5598 =>
  bif y5598 != r5377.2.1 then some true
  else (Option.bind (gxSlice r5558.1 1 (r5558.1.length : Int)) fun ys5600 =>
  Option.bind (M.l_vInts r5567.1 ys5600) fun r5602 =>
  bif !r5602 then some true
  else (Option.bind (M.i_IsRing r5377.1) fun r5607 =>
  some (!r5607))))))) fun o5592 =>
  bif o5592 then some (.inr false)
  else some (.inl ()))
  else some (.inl ())) fun out5556 => Sum.elim (fun (o5553 : Unit) =>
  Option.bind (M.s_DrawPutWords x4354) fun r5763 =>
  Option.bind (M.i_PutWords r5763.1 r5763.2) fun r5784 =>
  Option.bind (M.s_PutWords r5763.1 r5763.2) fun r6163 =>
  Option.bind (α := Bool) (bif !(r5784.2.2 == r6163.2.2) then some true
  else (bif r5784.2.1 != r6163.2.1 then some true
  else (Option.bind (M.l_vRing r5784.1 r6163.1) fun r6190 =>
  some (!r6190)))) fun o6185 =>
  bif o6185 then some false
  else (Option.bind (α := (Unit) ⊕ (Bool)) (bif r5784.2.2 then (Option.bind (M.i_RingWords r5763.1) fun r7511 =>
  Option.bind (M.i_RingWords r5784.1) fun r7520 =>
  Option.bind (α := Bool) (bif !r7511.2 then some true
  else (bif !r7520.2 then some true
  else (Option.bind (gxApp 8 ([] : List Int) r7511.1) fun ap8427 =>
  Option.bind (gxSlice r5763.2 0 r5784.2.1) fun ys8433 =>
  Option.bind (gxApp 8 ap8427 ys8433) fun ap8435 =>
  Option.bind (M.l_vInts r7520.1 ap8435) fun r8441 =>
  bif !r8441 then some true
  else (bif decide (r5784.2.1 < (r5763.2.length : Int)) then some ((r7520.1.length : Int) != (r5763.1.Items.length : Int))
  else some false)))) fun o8169 =>
  bif o8169 then some (.inr false)
  else some (.inl ()))
  else some (.inl ())) fun out7509 => Sum.elim (fun (o7506 : Unit) =>
  Option.bind (M.s_DrawTakeWords x4354) fun r8859 =>
  Option.bind (M.i_TakeWords r8859.1 r8859.2) fun r8875 =>
  Option.bind (M.s_TakeWords r8859.1 r8859.2) fun r9202 =>
  Option.bind (α := Bool) (bif !(r8875.2.2 == r9202.2.2) then some true
  else (Option.bind (M.l_vInts r8875.2.1 r9202.2.1) fun r9237 =>
  bif !r9237 then some true
  else (Option.bind (M.l_vRing r8875.1 r9202.1) fun r9242 =>
  some (!r9242)))) fun o9233 =>
  bif o9233 then some false
  else (bif r8875.2.2 then (Option.bind (M.i_RingWords r8859.1) fun r9252 =>
  Option.bind (M.i_RingWords r8875.1) fun r9261 =>
  Option.bind (α := Bool) (bif r9252.2 then (bif r9261.2 then (Option.bind (gxApp 8 ([] : List Int) r8875.2.1) fun ap9311 =>
  Option.bind (gxApp 8 ap9311 r9261.1) fun ap9319 =>
  Option.bind (M.l_vInts ap9319 r9252.1) fun r9327 =>
  some r9327)
  else some false)
  else some false) fun o9299 =>
  some o9299)
  else some true)) (fun r => some r) out7509)) (fun r => some r) out5556)) (fun r => some r) out4953))
end Go.Proofs.Ytopnablbecepjaa
