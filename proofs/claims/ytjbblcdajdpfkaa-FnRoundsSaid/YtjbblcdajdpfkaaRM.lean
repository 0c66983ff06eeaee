/- The models of the functions, printed by program: what each computes, in plain Lean. -/
import Derived.Test.YtjbblcdajdpfkaaGxG
set_option linter.unusedVariables false
set_option maxRecDepth 100000
set_option maxHeartbeats 4000000
namespace Go.Proofs.Ytjbblcdajdpfkaa
open Go.Gx
structure Copying where
  Memory : List Int
  Copy : List Int
  Dirty : List Bool
structure Store where
  Word : Int
  Value : Int
def encStore : Enc Store := ⟨fun x => [.int .i64 x.Word, .int .i64 x.Value], 2, fun _ => rfl, by simp [Value.oneCell']⟩
structure l1Cur where
  code : List Int
  at_ : Int
  seed : Int
def M.l_vBig (x6 : List Int) : Option (Bool) :=
  some (decide ((x6.length : Int) > 65536))
def M.s_l1Cur_next (x102 : l1Cur) : Option (Int × Int × Int) :=
  Option.bind (α := Int) (bif decide (x102.at_ < (x102.code.length : Int)) then (Option.bind (gxIdx x102.code x102.at_) fun y120 =>
  some (w64 y120))
  else some 0) fun o116 =>
  bif decide ((w64 (x102.at_ + 1)) ≤ (x102.code.length : Int)) then some (o116, w64 (x102.at_ + 1), IntKind.u64.wrap ((IntKind.u64.wrap ((IntKind.u64.wrap (x102.seed * 6364136223846793005)) + (IntKind.u64.wrap o116))) + 843843))
  else some (w64 (gxAnd .u64 ((IntKind.u64.wrap ((IntKind.u64.wrap ((IntKind.u64.wrap (x102.seed * 6364136223846793005)) + (IntKind.u64.wrap o116))) + 843843)).fdiv (2 ^ 40)) 255), w64 (x102.at_ + 1), IntKind.u64.wrap ((IntKind.u64.wrap ((IntKind.u64.wrap (x102.seed * 6364136223846793005)) + (IntKind.u64.wrap o116))) + 843843))
def M.s_l1Cur_pick (x92 : l1Cur) (x100 : Int) : Option (Int × Int × Int) :=
  bif decide (x100 ≤ 1) then some (0, x92.at_, x92.seed)
  else (Option.bind (M.s_l1Cur_next x92) fun r134 =>
  Option.bind (α := Int × Int × Int) (bif decide (x100 > 200) then (Option.bind (M.s_l1Cur_next (⟨x92.code, r134.2.1, r134.2.2⟩ : l1Cur)) fun r147 =>
  some (w64 ((w64 (r134.1 * 256)) + r147.1), r147.2.1, r147.2.2))
  else some (r134.1, r134.2.1, r134.2.2)) fun o143 =>
  Option.bind (gxRem o143.1 x100) fun q155 =>
  some (q155, o143.2.1, o143.2.2))
def M.s_l1Cur_among (x168 : l1Cur) (x176 : List Int) : Option (Int × Int × Int) :=
  Option.bind (M.s_l1Cur_pick x168 (x176.length : Int)) fun r182 =>
  Option.bind (gxIdx x176 r182.1) fun y186 =>
  some (y186, r182.2.1, r182.2.2)
def M.s_l1Cur_memory (x72 : l1Cur) : Option ((List Int) × Int × Int) :=
  Option.bind (M.s_l1Cur_pick x72 8) fun r156 =>
  Option.bind (whileM (σ := List Int × Int × Int × Int) (ρ := List Int × Int × Int) (fun s238 =>
    bif decide (s238.2.1 > 0) then (Option.bind (M.s_l1Cur_among (⟨x72.code, s238.2.2.1, s238.2.2.2⟩ : l1Cur) [0, 0, 1, 2, 255, 4096, 65535]) fun r267 =>
    Option.bind (gxApp 8 s238.1 [r267.1]) fun ap278 =>
    some (.inl (ap278, w64 (s238.2.1 - 1), r267.2.1, r267.2.2)))
    else some (.inr (s238.1, s238.2.2.1, s238.2.2.2))) gxFuel (([] : List Int), w64 (1 + r156.1), r156.2.1, r156.2.2)) fun out245 =>
  Option.bind (M.s_l1Cur_pick (⟨x72.code, out245.2.1, out245.2.2⟩ : l1Cur) 32) fun r290 =>
  Option.bind (α := List Int × Int × Int × List Int) (bif r290.1 == 0 then (Option.bind (M.s_l1Cur_among (⟨x72.code, r290.2.1, r290.2.2⟩ : l1Cur) [(-1), 65536]) fun r745 =>
  Option.bind (gxIdx out245.1 0) fun y749 =>
  some ((out245.1.set (0 : Int).toNat r745.1), r745.2.1, r745.2.2, (out245.1.set (0 : Int).toNat r745.1)))
  else (Option.bind (α := List Int × Int × Int) (bif r290.1 == 1 then some (([] : List Int), r290.2.1, r290.2.2)
  else (Option.bind (α := List Int × Int × Int) (bif r290.1 == 2 then (Option.bind (whileM (σ := List Int × Int × Int) (ρ := List Int × Int × Int) (fun s1117 =>
    Option.bind (M.s_l1Cur_pick (⟨x72.code, s1117.2.1, s1117.2.2⟩ : l1Cur) 2) fun r1138 =>
    bif decide ((s1117.1.length : Int) < (w64 (12 + r1138.1))) then (Option.bind (gxApp 8 s1117.1 [7]) fun ap1150 =>
    some (.inl (ap1150, r1138.2.1, r1138.2.2)))
    else some (.inr (s1117.1, r1138.2.1, r1138.2.2))) gxFuel (out245.1, r290.2.1, r290.2.2)) fun out1124 =>
  some (out1124.1, out1124.2.1, out1124.2.2))
  else some (out245.1, r290.2.1, r290.2.2)) fun o1063 =>
  some (o1063.1, o1063.2.1, o1063.2.2))) fun o956 =>
  some (o956.1, o956.2.1, o956.2.2, out245.1))) fun o727 =>
  some (o727.1, o727.2.1, o727.2.2.1)
def M.s_l1In (x1215 : Int) (x1216 : Int) (x1217 : Int) : Option (Bool) :=
  Option.bind (α := Bool) (bif decide (x1215 ≥ x1216) then some (decide (x1215 ≤ x1217))
  else some false) fun o1219 =>
  some o1219
def M.s_l2Word16 (x1214 : Int) : Option (Bool) :=
  Option.bind (M.s_l1In x1214 0 65535) fun r1227 =>
  some r1227
def M.s_l19Memory (x1207 : List Int) : Option (Bool) :=
  Option.bind (whileM (σ := Int) (ρ := (Unit) ⊕ (Bool)) (fun s1243 =>
    bif decide (s1243 < (x1207.length : Int)) then (Option.bind (gxIdx x1207 s1243) fun y1255 =>
    Option.bind (M.s_l2Word16 y1255) fun r1256 =>
    bif !r1256 then some (.inr (.inr false))
    else some (.inl (w64 (s1243 + 1))))
    else some (.inr (.inl ()))) gxFuel 0) fun out1250 => Sum.elim (fun (o1253 : Unit) =>
  Option.bind (M.s_l1In (x1207.length : Int) 1 12) fun r1265 =>
  some r1265) (fun r => some r) out1250
def M.s_l1Own (x1281 : List Int) : Option ((List Int)) :=
  Option.bind (gxApp 8 ([] : List Int) x1281) fun ap1298 =>
  some ap1298
def M.s_StartCopy (x1183 : List Int) : Option (Copying × Bool) :=
  Option.bind (M.s_l19Memory x1183) fun r1269 =>
  bif !r1269 then some ((⟨([] : List Int), ([] : List Int), ([] : List Bool)⟩ : Copying), false)
  else (Option.bind (M.s_l1Own x1183) fun r1306 =>
  Option.bind (gxMake 8 (x1183.length : Int) (0 : Int)) fun mk1312 =>
  Option.bind (whileM (σ := Int × List Bool) (ρ := List Bool) (fun s1410 =>
    bif decide (s1410.1 < (x1183.length : Int)) then (Option.bind (gxApp 1 s1410.2 [true]) fun ap1439 =>
    some (.inl (w64 (s1410.1 + 1), ap1439)))
    else some (.inr s1410.2)) gxFuel (0, ([] : List Bool))) fun out1417 =>
  some ((⟨r1306, mk1312, out1417⟩ : Copying), true))
def M.s_l1Cur_one (x1497 : l1Cur) (x1505 : Int) : Option (Bool × Int × Int) :=
  Option.bind (M.s_l1Cur_pick x1497 x1505) fun r1506 =>
  some (r1506.1 == 0, r1506.2.1, r1506.2.2)
def M.s_l19Own (x1555 : Copying) : Option (Copying) :=
  Option.bind (M.s_l1Own x1555.Memory) fun r1593 =>
  Option.bind (M.s_l1Own x1555.Copy) fun r1599 =>
  Option.bind (gxApp 1 ([] : List Bool) x1555.Dirty) fun ap1651 =>
  some (⟨r1593, r1599, ap1651⟩ : Copying)
def M.s_l19Round (x1518 : Copying) (x1531 : Int) : Option (Copying × Int) :=
  Option.bind (M.s_l19Own x1518) fun r1664 =>
  Option.bind (whileM (σ := Int × Int × List Int × List Bool) (ρ := Int × List Int × List Bool) (fun s1944 =>
    Option.bind (α := Bool) (bif decide (s1944.2.1 < (x1518.Dirty.length : Int)) then some (decide (s1944.1 < x1531))
    else some false) fun o1964 =>
    bif o1964 then (Option.bind (gxIdx x1518.Dirty s1944.2.1) fun y1973 =>
    Option.bind (α := Int × List Int × List Bool) (bif y1973 then (Option.bind (gxIdx x1518.Memory s1944.2.1) fun y2035 =>
    Option.bind (gxIdx s1944.2.2.1 s1944.2.1) fun y2071 =>
    Option.bind (gxIdx s1944.2.2.2 s1944.2.1) fun y2077 =>
    some (w64 (s1944.1 + 1), (s1944.2.2.1.set s1944.2.1.toNat y2035), (s1944.2.2.2.set s1944.2.1.toNat false)))
    else some (s1944.1, s1944.2.2.1, s1944.2.2.2)) fun o2025 =>
    some (.inl (o2025.1, w64 (s1944.2.1 + 1), o2025.2.1, o2025.2.2)))
    else some (.inr (s1944.1, s1944.2.2.1, s1944.2.2.2))) gxFuel (0, 0, r1664.Copy, r1664.Dirty)) fun out1951 =>
  some ((⟨r1664.Memory, out1951.2.1, out1951.2.2⟩ : Copying), out1951.1)
def M.s_l1Most (x2189 : Int) (x2190 : Int) : Option (Int) :=
  bif decide (x2189 > x2190) then some x2189
  else some x2190
def M.s_l1Cur_storeIn (x2147 : l1Cur) (x2155 : Int) : Option (Store × Int × Int) :=
  Option.bind (M.s_l1Cur_one x2147 32) fun r2160 =>
  bif r2160.1 then (Option.bind (M.s_l1Cur_among (⟨x2147.code, r2160.2.1, r2160.2.2⟩ : l1Cur) [(-1), x2155, 0]) fun r2172 =>
  Option.bind (M.s_l1Cur_among (⟨x2147.code, r2172.2.1, r2172.2.2⟩ : l1Cur) [(-1), 65536]) fun r2183 =>
  some ((⟨r2172.1, r2183.1⟩ : Store), r2183.2.1, r2183.2.2))
  else (Option.bind (M.s_l1Most 1 x2155) fun r2192 =>
  Option.bind (M.s_l1Cur_pick (⟨x2147.code, r2160.2.1, r2160.2.2⟩ : l1Cur) r2192) fun r2196 =>
  Option.bind (M.s_l1Cur_among (⟨x2147.code, r2196.2.1, r2196.2.2⟩ : l1Cur) [0, 1, 5, 300, 65535]) fun r2207 =>
  some ((⟨r2196.1, r2207.1⟩ : Store), r2207.2.1, r2207.2.2))
def M.s_l19Store (x2223 : Copying) (x2236 : Store) : Option (Bool) :=
  Option.bind (α := Bool) (Option.bind (M.s_l1In x2236.Word 0 (w64 ((x2223.Memory.length : Int) - 1))) fun r2257 =>
  bif r2257 then (Option.bind (M.s_l2Word16 x2236.Value) fun r2262 =>
  some r2262)
  else some false) fun o2254 =>
  some o2254
def M.s_l19Write (x2275 : Copying) (x2288 : Store) : Option (Copying) :=
  Option.bind (M.s_l19Own x2275) fun r2316 =>
  Option.bind (gxIdx r2316.Memory x2288.Word) fun y2344 =>
  Option.bind (gxIdx r2316.Dirty x2288.Word) fun y2350 =>
  some (⟨(r2316.Memory.set x2288.Word.toNat x2288.Value), r2316.Copy, (r2316.Dirty.set x2288.Word.toNat true)⟩ : Copying)
def M.s_l1Cur_copying (x45 : l1Cur) : Option (Copying × Int × Int) :=
  Option.bind (M.s_l1Cur_memory x45) fun r1174 =>
  Option.bind (M.s_StartCopy r1174.1) fun r1455 =>
  Option.bind (M.s_l1Cur_pick (⟨x45.code, r1174.2.1, r1174.2.2⟩ : l1Cur) 6) fun r1483 =>
  Option.bind (whileM (σ := Int × Int × Int × List Int × List Int × List Bool) (ρ := Int × Int × List Int × List Int × List Bool) (fun s2910 =>
    Option.bind (α := Bool) (bif decide (s2910.1 > 0) then some (decide ((s2910.2.2.2.1.length : Int) > 0))
    else some false) fun o2952 =>
    bif o2952 then (Option.bind (M.s_l1Cur_one (⟨x45.code, s2910.2.1, s2910.2.2.1⟩ : l1Cur) 2) fun r2961 =>
    Option.bind (α := Int × Int × List Int × List Int × List Bool) (bif r2961.1 then (Option.bind (M.s_l1Cur_pick (⟨x45.code, r2961.2.1, r2961.2.2⟩ : l1Cur) 6) fun r3124 =>
    Option.bind (M.s_l19Round (⟨s2910.2.2.2.1, s2910.2.2.2.2.1, s2910.2.2.2.2.2⟩ : Copying) r3124.1) fun r3125 =>
    some (r3124.2.1, r3124.2.2, r3125.1.Memory, r3125.1.Copy, r3125.1.Dirty))
    else (Option.bind (M.s_l1Cur_storeIn (⟨x45.code, r2961.2.1, r2961.2.2⟩ : l1Cur) (s2910.2.2.2.1.length : Int)) fun r3179 =>
    Option.bind (M.s_l19Store (⟨s2910.2.2.2.1, s2910.2.2.2.2.1, s2910.2.2.2.2.2⟩ : Copying) r3179.1) fun r3189 =>
    Option.bind (α := List Int × List Int × List Bool) (bif r3189 then (Option.bind (M.s_l19Write (⟨s2910.2.2.2.1, s2910.2.2.2.2.1, s2910.2.2.2.2.2⟩ : Copying) r3179.1) fun r3234 =>
    some (r3234.Memory, r3234.Copy, r3234.Dirty))
    else some (s2910.2.2.2.1, s2910.2.2.2.2.1, s2910.2.2.2.2.2)) fun o3215 =>
    some (r3179.2.1, r3179.2.2, o3215.1, o3215.2.1, o3215.2.2))) fun o3103 =>
    some (.inl (w64 (s2910.1 - 1), o3103.1, o3103.2.1, o3103.2.2.1, o3103.2.2.2.1, o3103.2.2.2.2)))
    else some (.inr (s2910.2.1, s2910.2.2.1, s2910.2.2.2.1, s2910.2.2.2.2.1, s2910.2.2.2.2.2))) gxFuel (r1483.1, r1483.2.1, r1483.2.2, r1455.1.Memory, r1455.1.Copy, r1455.1.Dirty)) fun out2917 =>
  Option.bind (M.s_l1Cur_pick (⟨x45.code, out2917.1, out2917.2.1⟩ : l1Cur) 24) fun r3267 =>
  Option.bind (α := Int × Int × List Bool × List Int) (bif r3267.1 == 0 then (Option.bind (gxApp 1 out2917.2.2.2.2 [true]) fun ap3622 =>
  some (r3267.2.1, r3267.2.2, ap3622, out2917.2.2.2.1))
  else (Option.bind (α := Int × Int × List Int × List Bool) (bif r3267.1 == 1 then (Option.bind (α := Int × Int × List Int × List Bool) (bif decide ((out2917.2.2.2.1.length : Int) > 0) then (Option.bind (M.s_l1Cur_among (⟨x45.code, r3267.2.1, r3267.2.2⟩ : l1Cur) [(-1), 9]) fun r3877 =>
  Option.bind (gxIdx out2917.2.2.2.1 0) fun y3903 =>
  Option.bind (M.s_l1Cur_one (⟨x45.code, r3877.2.1, r3877.2.2⟩ : l1Cur) 2) fun r3911 =>
  Option.bind (gxIdx out2917.2.2.2.2 0) fun y3933 =>
  some (r3911.2.1, r3911.2.2, (out2917.2.2.2.1.set (0 : Int).toNat r3877.1), (out2917.2.2.2.2.set (0 : Int).toNat r3911.1)))
  else some (r3267.2.1, r3267.2.2, out2917.2.2.2.1, out2917.2.2.2.2)) fun o3862 =>
  some (o3862.1, o3862.2.1, o3862.2.2.1, o3862.2.2.2))
  else some (r3267.2.1, r3267.2.2, out2917.2.2.2.1, out2917.2.2.2.2)) fun o3784 =>
  some (o3784.1, o3784.2.1, o3784.2.2.2, o3784.2.2.1))) fun o3604 =>
  some ((⟨out2917.2.2.1, o3604.2.2.2, o3604.2.2.1⟩ : Copying), o3604.1, o3604.2.1)
def M.s_DrawCopyRound (x16 : List Int) : Option (Copying × Int) :=
  Option.bind (M.s_l1Cur_copying (⟨x16, 0, 0⟩ : l1Cur)) fun r3953 =>
  Option.bind (M.s_l1Cur_among (⟨x16, r3953.2.1, r3953.2.2⟩ : l1Cur) [0, 1, 2, 3, 12, 13, (-1), 4]) fun r3979 =>
  some (r3953.1, r3979.1)
def M.i_inside (x4072 : Int) (x4073 : Int) (x4074 : Int) : Option (Bool) :=
  Option.bind (α := Bool) (bif decide (x4072 ≥ x4073) then some (decide (x4072 ≤ x4074))
  else some false) fun o4076 =>
  some o4076
def M.i_isWord16 (x4102 : Int) : Option (Bool) :=
  Option.bind (M.i_inside x4102 0 65535) fun r4103 =>
  some r4103
def M.i_isMemory_1 (x4101 : Int) : Option (Bool) :=
  Option.bind (M.i_isWord16 x4101) fun r4107 =>
  some (!r4107)
def M.slices_IndexFunc_105__i_isMemory_1 (x4094 : List Int) : Option (Int) :=
  Option.bind (whileM (σ := Int) (ρ := (Unit) ⊕ (Int)) (fun s4123 =>
    bif decide (s4123 < (x4094.length : Int)) then (Option.bind (gxIdx x4094 s4123) fun y4135 =>
    Option.bind (M.i_isMemory_1 y4135) fun r4136 =>
    bif r4136 then some (.inr (.inr s4123))
    else some (.inl (w64 (s4123 + 1))))
    else some (.inr (.inl ()))) gxFuel 0) fun out4130 => Sum.elim (fun (o4133 : Unit) =>
  some (-1)) (fun r => some r) out4130
def M.slices_ContainsFunc_92__i_isMemory_1 (x4089 : List Int) : Option (Bool) :=
  Option.bind (M.slices_IndexFunc_105__i_isMemory_1 x4089) fun r4145 =>
  some (decide (r4145 ≥ 0))
def M.i_isMemory (x4067 : List Int) : Option (Bool) :=
  Option.bind (α := Bool) (Option.bind (M.i_inside (x4067.length : Int) 1 12) fun r4156 =>
  bif r4156 then (Option.bind (M.slices_ContainsFunc_92__i_isMemory_1 x4067) fun r4161 =>
  some (!r4161))
  else some false) fun o4153 =>
  some o4153
def M.i_IsCopying (x4050 : Copying) : Option (Bool) :=
  Option.bind (α := Bool) (Option.bind (M.i_isMemory x4050.Memory) fun r4183 =>
  bif !r4183 then some true
  else (Option.bind (M.i_isMemory x4050.Copy) fun r4188 =>
  bif !r4188 then some true
  else (bif (x4050.Copy.length : Int) != (x4050.Memory.length : Int) then some true
  else some ((x4050.Dirty.length : Int) != (x4050.Memory.length : Int))))) fun o4180 =>
  bif o4180 then some false
  else (Option.bind (whileM (σ := Int) (ρ := (Unit) ⊕ (Bool)) (fun s4231 =>
    bif decide (s4231 < (x4050.Memory.length : Int)) then (Option.bind (gxIdx x4050.Memory s4231) fun y4243 =>
    Option.bind (α := Bool) (Option.bind (gxIdx x4050.Copy s4231) fun y4250 =>
    bif y4250 != y4243 then (Option.bind (gxIdx x4050.Dirty s4231) fun y4252 =>
    some (!y4252))
    else some false) fun o4247 =>
    bif o4247 then some (.inr (.inr false))
    else some (.inl (w64 (s4231 + 1))))
    else some (.inr (.inl ()))) gxFuel 0) fun out4238 => Sum.elim (fun (o4241 : Unit) =>
  some true) (fun r => some r) out4238)
def M.i_copyInts (x4331 : List Int) : Option ((List Int)) :=
  Option.bind (gxApp 8 ([] : List Int) x4331) fun ap4348 =>
  some ap4348
def M.i_newCopying (x4293 : Copying) : Option (Copying) :=
  Option.bind (M.i_copyInts x4293.Memory) fun r4356 =>
  Option.bind (M.i_copyInts x4293.Copy) fun r4362 =>
  Option.bind (gxApp 1 ([] : List Bool) x4293.Dirty) fun ap4414 =>
  some (⟨r4356, r4362, ap4414⟩ : Copying)
def M.i_Copying_round (x4455 : Copying) (x4473 : Int) : Option (Int × (List Int) × (List Int) × (List Bool)) :=
  Option.bind (whileM (σ := Int × Int × List Int × List Bool) (ρ := Int × List Int × List Bool) (fun s4911 =>
    bif decide (s4911.2.1 < (x4455.Dirty.length : Int)) then (Option.bind (gxIdx s4911.2.2.2 s4911.2.1) fun y4931 =>
    Option.bind (α := Bool) (bif y4931 then some (decide (s4911.1 < x4473))
    else some false) fun o4933 =>
    Option.bind (α := Int × List Int × List Bool) (bif o4933 then (Option.bind (gxIdx x4455.Memory s4911.2.1) fun y5046 =>
    Option.bind (gxIdx s4911.2.2.1 s4911.2.1) fun y5047 =>
    Option.bind (gxIdx s4911.2.2.2 s4911.2.1) fun y5132 =>
    some (w64 (s4911.1 + 1), (s4911.2.2.1.set s4911.2.1.toNat y5046), (s4911.2.2.2.set s4911.2.1.toNat false)))
    else some (s4911.1, s4911.2.2.1, s4911.2.2.2)) fun o5036 =>
    some (.inl (o5036.1, w64 (s4911.2.1 + 1), o5036.2.1, o5036.2.2)))
    else some (.inr (s4911.1, s4911.2.2.1, s4911.2.2.2))) gxFuel (0, 0, x4455.Copy, x4455.Dirty)) fun out4918 =>
  some (out4918.1, x4455.Memory, out4918.2.1, out4918.2.2)
def M.i_CopyRound (x4013 : Copying) (x4026 : Int) : Option (Copying × Int × Bool) :=
  Option.bind (α := Bool) (Option.bind (M.i_IsCopying x4013) fun r4274 =>
  bif !r4274 then some true
  else (Option.bind (M.i_inside x4026 0 12) fun r4279 =>
  some (!r4279))) fun o4271 =>
  bif o4271 then some ((⟨([] : List Int), ([] : List Int), ([] : List Bool)⟩ : Copying), 0, false)
  else (Option.bind (M.i_newCopying x4013) fun r4427 =>
  Option.bind (M.i_Copying_round r4427 x4026) fun r5146 =>
  some ((⟨r5146.2.1, r5146.2.2.1, r5146.2.2.2⟩ : Copying), r5146.1, true))
def M.s_l19Good (x5232 : Copying) : Option (Bool) :=
  Option.bind (α := Bool) (Option.bind (M.s_l19Memory x5232.Memory) fun r5263 =>
  bif !r5263 then some true
  else (Option.bind (M.s_l19Memory x5232.Copy) fun r5268 =>
  bif !r5268 then some true
  else (bif (x5232.Copy.length : Int) != (x5232.Memory.length : Int) then some true
  else some ((x5232.Dirty.length : Int) != (x5232.Memory.length : Int))))) fun o5260 =>
  bif o5260 then some false
  else (Option.bind (whileM (σ := Int) (ρ := (Unit) ⊕ (Bool)) (fun s5329 =>
    bif decide (s5329 < (x5232.Memory.length : Int)) then (Option.bind (α := Bool) (Option.bind (gxIdx x5232.Memory s5329) fun y5352 =>
    Option.bind (gxIdx x5232.Copy s5329) fun y5353 =>
    bif y5352 != y5353 then (Option.bind (gxIdx x5232.Dirty s5329) fun y5355 =>
    some (!y5355))
    else some false) fun o5349 =>
    bif o5349 then some (.inr (.inr false))
    else some (.inl (w64 (s5329 + 1))))
    else some (.inr (.inl ()))) gxFuel 0) fun out5336 => Sum.elim (fun (o5339 : Unit) =>
  some true) (fun r => some r) out5336)
def M.s_CopyRound (x5195 : Copying) (x5208 : Int) : Option (Copying × Int × Bool) :=
  Option.bind (α := Bool) (Option.bind (M.s_l19Good x5195) fun r5381 =>
  bif !r5381 then some true
  else (Option.bind (M.s_l1In x5208 0 12) fun r5386 =>
  some (!r5386))) fun o5378 =>
  bif o5378 then some ((⟨([] : List Int), ([] : List Int), ([] : List Bool)⟩ : Copying), 0, false)
  else (Option.bind (M.s_l19Round x5195 x5208) fun r5400 =>
  some (r5400.1, r5400.2, true))
def M.l_vInts (x5494 : List Int) (x5499 : List Int) : Option (Bool) :=
  bif (x5494.length : Int) != (x5499.length : Int) then some false
  else (Option.bind (whileM (σ := Int) (ρ := (Unit) ⊕ (Bool)) (fun s5517 =>
    bif decide (s5517 < (x5494.length : Int)) then (Option.bind (gxIdx x5494 s5517) fun y5529 =>
    Option.bind (gxIdx x5499 s5517) fun y5530 =>
    bif y5529 != y5530 then some (.inr (.inr false))
    else some (.inl (w64 (s5517 + 1))))
    else some (.inr (.inl ()))) gxFuel 0) fun out5524 => Sum.elim (fun (o5527 : Unit) =>
  some true) (fun r => some r) out5524)
def M.l_vBools (x5548 : List Bool) (x5553 : List Bool) : Option (Bool) :=
  bif (x5548.length : Int) != (x5553.length : Int) then some false
  else (Option.bind (whileM (σ := Int) (ρ := (Unit) ⊕ (Bool)) (fun s5571 =>
    bif decide (s5571 < (x5548.length : Int)) then (Option.bind (gxIdx x5548 s5571) fun y5583 =>
    Option.bind (gxIdx x5553 s5571) fun y5584 =>
    bif !(y5583 == y5584) then some (.inr (.inr false))
    else some (.inl (w64 (s5571 + 1))))
    else some (.inr (.inl ()))) gxFuel 0) fun out5578 => Sum.elim (fun (o5581 : Unit) =>
  some true) (fun r => some r) out5578)
def M.l_vCopying (x5460 : Copying) (x5473 : Copying) : Option (Bool) :=
  Option.bind (α := Bool) (Option.bind (M.l_vInts x5460.Memory x5473.Memory) fun r5599 =>
  bif r5599 then (Option.bind (M.l_vInts x5460.Copy x5473.Copy) fun r5604 =>
  bif r5604 then (Option.bind (M.l_vBools x5460.Dirty x5473.Dirty) fun r5609 =>
  some r5609)
  else some false)
  else some false) fun o5596 =>
  some o5596
def M.i_dirtyWords (x5664 : Copying) : Option ((List Int)) :=
  Option.bind (whileM (σ := List Int × Int) (ρ := List Int) (fun s5790 =>
    bif decide (s5790.2 < (x5664.Dirty.length : Int)) then (Option.bind (gxIdx x5664.Dirty s5790.2) fun y5812 =>
    Option.bind (α := List Int) (bif y5812 then (Option.bind (gxApp 8 s5790.1 [s5790.2]) fun ap5845 =>
    some ap5845)
    else some s5790.1) fun o5829 =>
    some (.inl (o5829, w64 (s5790.2 + 1))))
    else some (.inr s5790.1)) gxFuel (([] : List Int), 0)) fun out5797 =>
  some out5797
def M.i_DirtyWords (x5636 : Copying) : Option ((List Int) × Bool) :=
  Option.bind (M.i_IsCopying x5636) fun r5658 =>
  bif !r5658 then some (([] : List Int), false)
  else (Option.bind (M.i_dirtyWords x5636) fun r5861 =>
  some (r5861, true))
def M.s_DrawStoreWord (x5987 : List Int) : Option (Copying × Store) :=
  Option.bind (M.s_l1Cur_copying (⟨x5987, 0, 0⟩ : l1Cur)) fun r6020 =>
  Option.bind (M.s_l1Cur_storeIn (⟨x5987, r6020.2.1, r6020.2.2⟩ : l1Cur) (r6020.1.Memory.length : Int)) fun r6050 =>
  some (r6020.1, r6050.1)
def M.i_isStore (x6164 : Copying) (x6177 : Store) : Option (Bool) :=
  Option.bind (α := Bool) (Option.bind (M.i_inside x6177.Word 0 (w64 ((x6164.Memory.length : Int) - 1))) fun r6198 =>
  bif r6198 then (Option.bind (M.i_isWord16 x6177.Value) fun r6203 =>
  some r6203)
  else some false) fun o6195 =>
  some o6195
def M.i_Copying_store (x6265 : Copying) (x6283 : Store) : Option ((List Int) × (List Int) × (List Bool)) :=
  Option.bind (gxIdx x6265.Memory x6283.Word) fun y6299 =>
  Option.bind (gxIdx x6265.Dirty x6283.Word) fun y6372 =>
  some ((x6265.Memory.set x6283.Word.toNat x6283.Value), x6265.Copy, (x6265.Dirty.set x6283.Word.toNat true))
def M.i_StoreWord (x6118 : Copying) (x6131 : Store) : Option (Copying × Bool) :=
  Option.bind (α := Bool) (Option.bind (M.i_IsCopying x6118) fun r6218 =>
  bif !r6218 then some true
  else (Option.bind (M.i_isStore x6118 x6131) fun r6223 =>
  some (!r6223))) fun o6215 =>
  bif o6215 then some ((⟨([] : List Int), ([] : List Int), ([] : List Bool)⟩ : Copying), false)
  else (Option.bind (M.i_newCopying x6118) fun r6237 =>
  Option.bind (M.i_Copying_store r6237 x6131) fun r6378 =>
  some ((⟨r6378.1, r6378.2.1, r6378.2.2⟩ : Copying), true))
def M.s_StoreWord (x6427 : Copying) (x6440 : Store) : Option (Copying × Bool) :=
  Option.bind (α := Bool) (Option.bind (M.s_l19Good x6427) fun r6480 =>
  bif !r6480 then some true
  else (Option.bind (M.s_l19Store x6427 x6440) fun r6485 =>
  some (!r6485))) fun o6477 =>
  bif o6477 then some ((⟨([] : List Int), ([] : List Int), ([] : List Bool)⟩ : Copying), false)
  else (Option.bind (M.s_l19Write x6427 x6440) fun r6499 =>
  some (r6499, true))
def M.l_vHas (x6579 : List Int) (x6584 : Int) : Option (Bool) :=
  Option.bind (whileM (σ := Int) (ρ := (Unit) ⊕ (Bool)) (fun s6591 =>
    bif decide (s6591 < (x6579.length : Int)) then (Option.bind (gxIdx x6579 s6591) fun y6603 =>
    bif y6603 == x6584 then some (.inr (.inr true))
    else some (.inl (w64 (s6591 + 1))))
    else some (.inr (.inl ()))) gxFuel 0) fun out6598 => Sum.elim (fun (o6601 : Unit) =>
  some false) (fun r => some r) out6598
def M.s_DrawStartCopy (x6720 : List Int) : Option ((List Int)) :=
  Option.bind (M.s_l1Cur_memory (⟨x6720, 0, 0⟩ : l1Cur)) fun r6735 =>
  some r6735.1
def M.i_StartCopy (x6753 : List Int) : Option (Copying × Bool) :=
  Option.bind (M.i_isMemory x6753) fun r6777 =>
  bif !r6777 then some ((⟨([] : List Int), ([] : List Int), ([] : List Bool)⟩ : Copying), false)
  else (Option.bind (M.i_copyInts x6753) fun r6789 =>
  Option.bind (gxMake 8 (x6753.length : Int) (0 : Int)) fun mk6795 =>
  Option.bind (whileM (σ := Int × List Bool) (ρ := List Bool) (fun s6893 =>
    bif decide (s6893.1 < (x6753.length : Int)) then (Option.bind (gxApp 1 s6893.2 [true]) fun ap6922 =>
    some (.inl (w64 (s6893.1 + 1), ap6922)))
    else some (.inr s6893.2)) gxFuel (0, ([] : List Bool))) fun out6900 =>
  some ((⟨r6789, mk6795, out6900⟩ : Copying), true))
def M.s_DrawIsCopying (x7036 : List Int) : Option (Copying) :=
  Option.bind (M.s_l1Cur_copying (⟨x7036, 0, 0⟩ : l1Cur)) fun r7065 =>
  some r7065.1
def M.s_DrawDirtyWords (x7012 : List Int) : Option (Copying) :=
  Option.bind (M.s_DrawIsCopying x7012) fun r7086 =>
  some r7086
def M.s_l19Dirty (x7178 : Copying) : Option ((List Int)) :=
  Option.bind (whileM (σ := List Int × Int) (ρ := List Int) (fun s7304 =>
    bif decide (s7304.2 < (x7178.Dirty.length : Int)) then (Option.bind (gxIdx x7178.Dirty s7304.2) fun y7326 =>
    Option.bind (α := List Int) (bif y7326 then (Option.bind (gxApp 8 s7304.1 [s7304.2]) fun ap7359 =>
    some ap7359)
    else some s7304.1) fun o7343 =>
    some (.inl (o7343, w64 (s7304.2 + 1))))
    else some (.inr s7304.1)) gxFuel (([] : List Int), 0)) fun out7311 =>
  some out7311
def M.s_DirtyWords (x7144 : Copying) : Option ((List Int) × Bool) :=
  Option.bind (M.s_l19Good x7144) fun r7166 =>
  bif !r7166 then some (([] : List Int), false)
  else (Option.bind (M.s_l19Dirty x7144) fun r7375 =>
  some (r7375, true))
def M.l_FnRounds (x1 : List Int) : Option (Bool) :=
  Option.bind (M.l_vBig x1) fun r11 =>
  bif r11 then some true
  else (Option.bind (M.s_DrawCopyRound x1) fun r3985 =>
  Option.bind (M.i_CopyRound r3985.1 r3985.2) fun r5167 =>
  Option.bind (M.s_CopyRound r3985.1 r3985.2) fun r5430 =>
  Option.bind (α := Bool) (bif !(r5167.2.2 == r5430.2.2) then some true
  else (bif r5167.2.1 != r5430.2.1 then some true
  else (Option.bind (M.l_vCopying r5167.1 r5430.1) fun r5626 =>
  some (!r5626)))) fun o5621 =>
  bif o5621 then some false
  else (Option.bind (α := (Unit) ⊕ (Bool)) (bif r5167.2.2 then (Option.bind (M.i_DirtyWords r3985.1) fun r5929 =>
  Option.bind (M.i_DirtyWords r5167.1) fun r5938 =>
  Option.bind (α := Bool) (bif !r5929.2 then some true
  else (bif !r5938.2 then some true
  else (bif (r5938.1.length : Int) != (w64 ((r5929.1.length : Int) - r5167.2.1)) then some true
  else (bif decide (r5167.2.1 > r3985.2) then some true
  else (bif decide (r5167.2.1 < r3985.2) then (bif (r5938.1.length : Int) != 0 then some true
  else (Option.bind (M.l_vInts r5167.1.Memory r3985.1.Memory) fun r5970 =>
  some (!r5970)))
  else (Option.bind (M.l_vInts r5167.1.Memory r3985.1.Memory) fun r5974 =>
  some (!r5974))))))) fun o5961 =>
  bif o5961 then some (.inr false)
  else some (.inl ()))
  else some (.inl ())) fun out5927 => Sum.elim (fun (o5924 : Unit) =>
  Option.bind (M.s_DrawStoreWord x1) fun r6084 =>
  Option.bind (M.i_StoreWord r6084.1 r6084.2) fun r6399 =>
  Option.bind (M.s_StoreWord r6084.1 r6084.2) fun r6520 =>
  Option.bind (α := Bool) (bif !(r6399.2 == r6520.2) then some true
  else (Option.bind (M.l_vCopying r6399.1 r6520.1) fun r6557 =>
  some (!r6557))) fun o6553 =>
  bif o6553 then some false
  else (Option.bind (α := (Unit) ⊕ (Bool)) (bif r6399.2 then (Option.bind (M.i_DirtyWords r6399.1) fun r6659 =>
  Option.bind (α := Bool) (bif !r6659.2 then some true
  else (Option.bind (M.l_vHas r6659.1 r6084.2.Word) fun r6694 =>
  bif !r6694 then some true
  else (Option.bind (gxIdx r6399.1.Memory r6084.2.Word) fun y6701 =>
  bif y6701 != r6084.2.Value then some true
  else (Option.bind (M.l_vInts r6399.1.Copy r6084.1.Copy) fun r6705 =>
  some (!r6705))))) fun o6688 =>
  bif o6688 then some (.inr false)
  else some (.inl ()))
  else some (.inl ())) fun out6657 => Sum.elim (fun (o6654 : Unit) =>
  Option.bind (M.s_DrawStartCopy x1) fun r6744 =>
  Option.bind (M.i_StartCopy r6744) fun r6938 =>
  Option.bind (M.s_StartCopy r6744) fun r6966 =>
  Option.bind (α := Bool) (bif !(r6938.2 == r6966.2) then some true
  else (Option.bind (M.l_vCopying r6938.1 r6966.1) fun r7003 =>
  some (!r7003))) fun o6999 =>
  bif o6999 then some false
  else (Option.bind (M.s_DrawDirtyWords x1) fun r7107 =>
  Option.bind (M.i_DirtyWords r7107) fun r7135 =>
  Option.bind (M.s_DirtyWords r7107) fun r7384 =>
  Option.bind (α := Bool) (bif r7135.2 == r7384.2 then (Option.bind (M.l_vInts r7135.1 r7384.1) fun r7402 =>
  some r7402)
  else some false) fun o7398 =>
  some o7398)) (fun r => some r) out6657)) (fun r => some r) out5927))
end Go.Proofs.Ytjbblcdajdpfkaa
