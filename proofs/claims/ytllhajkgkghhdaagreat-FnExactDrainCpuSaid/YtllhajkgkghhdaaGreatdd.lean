/- Part of a proof: what its last text rests on. -/
import Derived.Test.YtllhajkgkghhdaaGreatProg
import Derived.Test.YtllhajkgkghhdaaGreatSh
import Derived.Test.YtllhajkgkghhdaaGreatdc
set_option linter.unusedVariables false
set_option maxRecDepth 100000
set_option maxHeartbeats 4000000
namespace Go.Proofs.YtllhajkgkghhdaaGreat
open Go.Gx
theorem c_s_l10Leave__k (w : World) (a : Interface) (d : Option Addr) (l : Nat) (O : rdS Gx.encI w a.Stack d l) (z : Option Addr) (x : Nat) (br : rdS encSlot w a.Queue.Slots z x) (A : Option Addr) (y : Nat) (bs : rdS encWaiter w a.Queue.Waiting A y) {r : Interface × Int} (hm : M.s_l10Leave__k a = some r) :
  Calls Tryz.prog 134 #[.agg #[iv a.Mask, .slice d a.Stack.length l, .slice z a.Queue.Slots.length x, .slice A a.Queue.Waiting.length y]] w fun e w' => e = .returned (.tuple #[.agg #[iv r.1.Mask, .slice d a.Stack.length l, .slice z a.Queue.Slots.length x, .slice A a.Queue.Waiting.length y], iv r.2]) ∧ Mem [] w w' [] := by
 unfold M.s_l10Leave__k at hm
 refine cE Tryz.func134 ?_
 have M0 := Mem.refl [] w
 refine QA (wN (.cells ⟨[iv a.Mask, .slice d a.Stack.length l, .slice z a.Queue.Slots.length x, .slice A a.Queue.Waiting.length y]⟩ 87 (0, 0)) M0 fun u cq az => wN (.cells ⟨[iv 0, .slice none 0 0, .slice none 0 0, .slice none 0 0]⟩ 87 (0, 0)) az fun B P V => MW 1 (NA (MW 1 (wV (.slice d a.Stack.length l) P (eL false 1 1 (V.blk 0 rfl)) (MW 2 (NB (wR 2 [(1, pB u 0), (2, pB B 0), (4, iv (a.Stack.length : Int)), (11, .bool ((a.Stack.length : Int) == 0))] P (NO ?_))))))))
 rcases gx_bif hm with ⟨Z, hm⟩ | ⟨Z, hm⟩
 ·refine gT Z (QA (wV (.agg #[iv a.Mask, .slice d a.Stack.length l, .slice z a.Queue.Slots.length x, .slice A a.Queue.Waiting.length y]) P (eL true 4 0 (V.blk 0 rfl)) (wS true 4 0 (.agg #[iv a.Mask, .slice d a.Stack.length l, .slice z a.Queue.Slots.length x, .slice A a.Queue.Waiting.length y]) 1 [iv a.Mask, .slice d a.Stack.length l, .slice z a.Queue.Slots.length x, .slice A a.Queue.Waiting.length y] V rfl fun bw aa => wR 1 [(2, pB B 0), (3, iv (-1))] bw (ND ?_))))
  obtain rfl := HS hm
  exact N_ret [.agg #[iv a.Mask, .slice d a.Stack.length l, .slice z a.Queue.Slots.length x, .slice A a.Queue.Waiting.length y], iv (-1)] (RX true 4 0 (aa.blk 1 rfl) (rC RVs_nil)) (⟨rfl, aa.pk []⟩)
 refine gF Z (GK (TN (GS ?_)))
 obtain ⟨Q, aq, hm⟩ := gx_bind hm
 obtain ⟨c, bt, hm⟩ := gx_bind hm
 refine G_sub [(1, pB u 0), (2, pB B 0), (4, iv (a.Stack.length : Int)), (11, .bool ((a.Stack.length : Int) == 0))] (by kernel_rfl) (G_dagL 14 [[], [0], [], [2], [], [4], [3, 5], [6], [1, 7], [], [9], [9], [], [10, 12]] [[], [], [], [], [], [], [], [], [], [], [], [], [], [12]] [[], [], [], [], [], [], [], [], [], [], [], [], [], []] [[], [], [], [], [], [], [], [], [], [8], [8], [8], [], [8]] [[], [], [], [], [], [], [], [], [], [8], [8], [], [], [8, 12]] [[], [], [], [], [], [], [], [], [], [], [], [], [], []] (fun _ => []) (fun i => ([fun f v s => v = (pB u 2 : Value) ∧ s = [], fun f v s => v = (.agg #[.slice z a.Queue.Slots.length x, .slice A a.Queue.Waiting.length y] : Value) ∧ s = [], fun f v s => v = (pB u 1 : Value) ∧ s = [], fun f v s => v = (.slice d a.Stack.length l : Value) ∧ s = [], fun f v s => v = (iv (a.Stack.length : Int) : Value) ∧ s = [], fun f v s => v = (iv (w64 ((a.Stack.length : Int) - 1)) : Value) ∧ s = [], fun f v s => v = (elemP d ((w64 ((a.Stack.length : Int) - 1)).toNat * 1) : Value) ∧ s = [], fun f v s => v = (iv Q : Value) ∧ s = [], fun f v s => ∃ (q : Option Addr) (m : Nat) (L : Seg), ∃ (t : Option Addr) (n : Nat) (N : Seg), v = (.tuple #[.agg #[.slice q c.1.Slots.length m, .slice t c.1.Waiting.length n], .bool c.2] : Value) ∧ s = (L ++ N) ∧ ownS encSlot c.1.Slots q m L ∧ ownS encWaiter c.1.Waiting t n N, fun f v s => v = (.tuple #[.agg #[(atPath (f 8) [0, 0]), (atPath (f 8) [0, 1])], .bool c.2] : Value) ∧ s = [], fun f v s => v = (.agg #[(atPath (f 8) [0, 0]), (atPath (f 8) [0, 1])] : Value) ∧ s = [], fun f v s => v = (.bool c.2 : Value) ∧ s = [], fun f v s => ∃ (C : Nat), v = (pB C 0 : Value) ∧ s = [(C, .cells ⟨[.slice none 0 0, .slice none 0 0]⟩ 85 (0, 0))], fun f v s => v = undef ∧ s = [((blkOf (f 12)), .cells ⟨[(atPath (f 8) [0, 0]), (atPath (f 8) [0, 1])]⟩ 85 (0, 0))]] : List ((Nat → Value) → Value → Seg → Prop)).getD i (fun _ _ _ => False)) (fun j f v => ∃ s, (fun i => ([fun f v s => v = (pB u 2 : Value) ∧ s = [], fun f v s => v = (.agg #[.slice z a.Queue.Slots.length x, .slice A a.Queue.Waiting.length y] : Value) ∧ s = [], fun f v s => v = (pB u 1 : Value) ∧ s = [], fun f v s => v = (.slice d a.Stack.length l : Value) ∧ s = [], fun f v s => v = (iv (a.Stack.length : Int) : Value) ∧ s = [], fun f v s => v = (iv (w64 ((a.Stack.length : Int) - 1)) : Value) ∧ s = [], fun f v s => v = (elemP d ((w64 ((a.Stack.length : Int) - 1)).toNat * 1) : Value) ∧ s = [], fun f v s => v = (iv Q : Value) ∧ s = [], fun f v s => ∃ (q : Option Addr) (m : Nat) (L : Seg), ∃ (t : Option Addr) (n : Nat) (N : Seg), v = (.tuple #[.agg #[.slice q c.1.Slots.length m, .slice t c.1.Waiting.length n], .bool c.2] : Value) ∧ s = (L ++ N) ∧ ownS encSlot c.1.Slots q m L ∧ ownS encWaiter c.1.Waiting t n N, fun f v s => v = (.tuple #[.agg #[(atPath (f 8) [0, 0]), (atPath (f 8) [0, 1])], .bool c.2] : Value) ∧ s = [], fun f v s => v = (.agg #[(atPath (f 8) [0, 0]), (atPath (f 8) [0, 1])] : Value) ∧ s = [], fun f v s => v = (.bool c.2 : Value) ∧ s = [], fun f v s => ∃ (C : Nat), v = (pB C 0 : Value) ∧ s = [(C, .cells ⟨[.slice none 0 0, .slice none 0 0]⟩ 85 (0, 0))], fun f v s => v = undef ∧ s = [((blkOf (f 12)), .cells ⟨[(atPath (f 8) [0, 0]), (atPath (f 8) [0, 1])]⟩ 85 (0, 0))]] : List ((Nat → Value) → Value → Seg → Prop)).getD i (fun _ _ _ => False)) j f v s) [12] [8, 11, 13] [8, 13] (fun _ _ _ s h => ⟨s, h⟩) (by kernel_rfl) (by kernel_rfl) (V.preNil 14) (by kernel_rfl) (by kernel_rfl) (by kernel_rfl) (by kernel_rfl) (allOb_cons ?_ (allOb_cons ?_ (allOb_cons ?_ (allOb_cons ?_ (allOb_cons ?_ (allOb_cons ?_ (allOb_cons ?_ (allOb_cons ?_ (allOb_cons ?_ (allOb_cons ?_ (allOb_cons ?_ (allOb_cons ?_ (allOb_cons ?_ (allOb_cons ?_ allOb_nil)))))))))))))) ?_)
 ·intro I J
  intro R bx a0
  exact MW 1 (WN (oE (pB u 2) [] ⟨by kernel_rfl, rfl⟩ a0))
 ·intro I J
  intro v0_ hb0_
  obtain ⟨rfl, _⟩ := hb0_
  intro R bz ab
  exact wV (.agg #[.slice z a.Queue.Slots.length x, .slice A a.Queue.Waiting.length y]) bz (eL true 2 2 (ab.blk 0 rfl)) (WN (oE (.agg #[.slice z a.Queue.Slots.length x, .slice A a.Queue.Waiting.length y]) [] ⟨by kernel_rfl, rfl⟩ ab))
 ·intro I J
  intro R b0 a3
  exact MW 1 (WN (oE (pB u 1) [] ⟨by kernel_rfl, rfl⟩ a3))
 ·intro I J
  intro v2_ hb2_
  obtain ⟨rfl, _⟩ := hb2_
  intro R b1 ac
  exact wV (.slice d a.Stack.length l) b1 (eL false 1 1 (ac.blk 0 rfl)) (WN (oE (.slice d a.Stack.length l) [] ⟨by kernel_rfl, rfl⟩ ac))
 ·intro I J
  intro R b2 a4
  exact MW 1 (WN (oE (iv (a.Stack.length : Int)) [] ⟨by kernel_rfl, rfl⟩ a4))
 ·intro I J
  intro v4_ hb4_
  obtain ⟨rfl, _⟩ := hb4_
  intro R b3 a5
  exact MW 1 (WN (oE (iv (w64 ((a.Stack.length : Int) - 1))) [] ⟨by kernel_rfl, rfl⟩ a5))
 ·intro I J
  intro v3_ hb3_
  obtain ⟨rfl, _⟩ := hb3_
  intro v5_ hb5_
  obtain ⟨rfl, _⟩ := hb5_
  intro R b4 ad
  exact wV (elemP d ((w64 ((a.Stack.length : Int) - 1)).toNat * 1)) b4 (eI (O.mem0 ad) rfl aq) (WN (oE (elemP d ((w64 ((a.Stack.length : Int) - 1)).toNat * 1)) [] ⟨by kernel_rfl, rfl⟩ ad))
 ·intro I J
  intro v6_ hb6_
  obtain ⟨rfl, _⟩ := hb6_
  intro R b5 ae
  exact wV (iv Q) b5 (eE false 1 0 ((w64 ((a.Stack.length : Int) - 1)).toNat * 1) (O.mem0 ae) aq) (WN (oE (iv Q) [] ⟨by kernel_rfl, rfl⟩ ae))
 ·intro I J
  intro v1_ hb1_
  obtain ⟨rfl, _⟩ := hb1_
  intro v7_ hb7_
  obtain ⟨rfl, _⟩ := hb7_
  intro R b6 Y
  refine WC ((c_s_l9End b6 a.Queue z x (br.mem0 Y) A y (bs.mem0 Y) Q bt).mono ?_)
  rintro e_ cr ⟨q, m, L, t, n, N, rfl, an, ao, ax⟩
  refine ⟨_, rfl, ?_⟩
  exact WN (oE (.tuple #[.agg #[.slice q c.1.Slots.length m, .slice t c.1.Waiting.length n], .bool c.2]) (L ++ N) ⟨q, m, L, t, n, N, rfl, rfl, an, ao⟩ (Mem.callMid Y (ax.permF (by simp))))
 ·intro I J
  intro v8_ hb8_
  obtain ⟨_, q, m, _, t, n, _, rfl, _⟩ := hb8_
  intro R b7 a6
  exact MW 1 (WN (oE (.tuple #[.agg #[.slice q c.1.Slots.length m, .slice t c.1.Waiting.length n], .bool c.2]) [] ⟨by kernel_rfl, rfl⟩ a6))
 ·intro I J
  intro v8_ hb8_
  obtain ⟨_, q, m, _, t, n, _, rfl, _⟩ := hb8_
  intro v9_ hb9_
  obtain ⟨hv9_, _⟩ := hb9_
  obtain rfl : v9_ = (.tuple #[.agg #[.slice q c.1.Slots.length m, .slice t c.1.Waiting.length n], .bool c.2] : Value) := hv9_.trans (by kernel_rfl)
  intro R b8 a7
  exact MW 1 (WN (oE (.agg #[.slice q c.1.Slots.length m, .slice t c.1.Waiting.length n]) [] ⟨by kernel_rfl, rfl⟩ a7))
 ·intro I J
  intro v8_ hb8_
  obtain ⟨_, q, m, _, t, n, _, rfl, _⟩ := hb8_
  intro v9_ hb9_
  obtain ⟨hv9_, _⟩ := hb9_
  obtain rfl : v9_ = (.tuple #[.agg #[.slice q c.1.Slots.length m, .slice t c.1.Waiting.length n], .bool c.2] : Value) := hv9_.trans (by kernel_rfl)
  intro R b9 a8
  exact MW 1 (WN (oE (.bool c.2) [] ⟨by kernel_rfl, rfl⟩ a8))
 ·intro I J
  intro R ct a9
  exact wN (.cells ⟨[.slice none 0 0, .slice none 0 0]⟩ 85 (0, 0)) a9 fun C cu ba => WN (oE (pB C 0) [(C, .cells ⟨[.slice none 0 0, .slice none 0 0]⟩ 85 (0, 0))] ⟨C, rfl, rfl⟩ (Mem.mid ba))
 ·intro I J
  intro v8_ hb8_
  obtain ⟨_, q, m, _, t, n, _, rfl, _⟩ := hb8_
  intro v10_ hb10_
  obtain ⟨hv10_, _⟩ := hb10_
  obtain rfl : v10_ = (.agg #[.slice q c.1.Slots.length m, .slice t c.1.Waiting.length n] : Value) := hv10_.trans (by kernel_rfl)
  intro v12_ hb12_
  obtain ⟨C, rfl, hs12_⟩ := hb12_
  intro R av bb
  have W : Mem [] w av ([[(u, .cells ⟨[iv a.Mask, .slice d a.Stack.length l, .slice z a.Queue.Slots.length x, .slice A a.Queue.Waiting.length y]⟩ 87 (0, 0))], [(B, .cells ⟨[iv 0, .slice none 0 0, .slice none 0 0, .slice none 0 0]⟩ 87 (0, 0))]] ++ ([[]] ++ ([(I 12)] ++ ([] ++ R)))) := bb
  rw [hs12_] at W
  replace W : Mem [] w av ([[(u, .cells ⟨[iv a.Mask, .slice d a.Stack.length l, .slice z a.Queue.Slots.length x, .slice A a.Queue.Waiting.length y]⟩ 87 (0, 0))], [(B, .cells ⟨[iv 0, .slice none 0 0, .slice none 0 0, .slice none 0 0]⟩ 87 (0, 0))]] ++ ([[]] ++ ([[(C, .cells ⟨[.slice none 0 0, .slice none 0 0]⟩ 85 (0, 0))]] ++ ([] ++ R)))) := W.permF (by simp)
  exact wS true 2 0 (.agg #[.slice q c.1.Slots.length m, .slice t c.1.Waiting.length n]) 3 [.slice q c.1.Slots.length m, .slice t c.1.Waiting.length n] W rfl fun cv bc => WN (ob_none [(C, .cells ⟨[.slice q c.1.Slots.length m, .slice t c.1.Waiting.length n]⟩ 85 (0, 0))] rfl ⟨rfl, by kernel_rfl⟩ (Mem.takeOver bc))
 intro I J
 intro v12_ hb12_
 obtain ⟨_, C, rfl, hs12_⟩ := hb12_
 intro v8_ hb8_
 obtain ⟨q, m, L, t, n, N, rfl, hs8_, an, ao⟩ := hb8_
 intro v11_ hb11_
 obtain ⟨rfl, _⟩ := hb11_
 intro v13_ hb13_
 obtain ⟨rfl, hs13_⟩ := hb13_
 replace hs13_ := hs13_.trans (show _ = [(C, .cells ⟨[.slice q c.1.Slots.length m, .slice t c.1.Waiting.length n]⟩ 85 (0, 0))] by kernel_rfl)
 intro X bd
 have T : Mem [] w X [[(u, .cells ⟨[iv a.Mask, .slice d a.Stack.length l, .slice z a.Queue.Slots.length x, .slice A a.Queue.Waiting.length y]⟩ 87 (0, 0))], [(B, .cells ⟨[iv 0, .slice none 0 0, .slice none 0 0, .slice none 0 0]⟩ 87 (0, 0))], (I 8), (I 13)] := bd
 rw [hs8_] at T
 rw [hs13_] at T
 replace T : Mem [] w X [[(u, .cells ⟨[iv a.Mask, .slice d a.Stack.length l, .slice z a.Queue.Slots.length x, .slice A a.Queue.Waiting.length y]⟩ 87 (0, 0))], [(B, .cells ⟨[iv 0, .slice none 0 0, .slice none 0 0, .slice none 0 0]⟩ 87 (0, 0))], L, N, [(C, .cells ⟨[.slice q c.1.Slots.length m, .slice t c.1.Waiting.length n]⟩ 85 (0, 0))]] := T.permF (by simp)
 refine wR 1 [(1, pB u 0), (2, pB B 0), (4, iv (a.Stack.length : Int)), (5, pB C 0)] X (NE ?_)
 obtain ⟨S, au, hm⟩ := gx_bind hm
 obtain ⟨K, bu, hm⟩ := gx_bind hm
 obtain ⟨U, ar, hm⟩ := gx_bind hm
 have be : Mem [] w X ([[(u, .cells ⟨[iv a.Mask, .slice d a.Stack.length l, .slice z a.Queue.Slots.length x, .slice A a.Queue.Waiting.length y]⟩ 87 (0, 0))], L, N, [(C, .cells ⟨[.slice q c.1.Slots.length m, .slice t c.1.Waiting.length n]⟩ 85 (0, 0))]] ++ (List.range 17).map (fun i => ([[], [], [], [], [], [], [], [], [], [], [], [], [], [], [], [], [(B, .cells ⟨[iv 0, .slice none 0 0, .slice none 0 0, .slice none 0 0]⟩ 87 (0, 0))]] : List Seg).getD i [])) := T.pk [0, 2, 3, 4, 300000, 300001, 300002, 300003, 300004, 300005, 300006, 300007, 300008, 300009, 300010, 300011, 300012, 300013, 300014, 300015, 1]
 refine G_sub [(1, pB u 0), (2, pB B 0), (4, iv (a.Stack.length : Int)), (5, pB C 0)] (by kernel_rfl) (G_dagL 17 [[], [0], [], [2], [], [4], [3, 5], [6], [], [1, 8], [], [10], [], [12], [11, 13], [14], [9]] [[], [], [], [], [], [], [], [], [], [], [], [], [], [], [], [], []] [[], [], [], [], [], [], [], [], [], [], [], [], [], [], [], [], []] [[], [], [], [], [], [], [], [], [], [7], [], [], [], [], [], [], [7]] [[], [], [], [], [], [], [], [], [], [7], [], [], [], [], [], [], [7]] [[], [], [], [], [], [], [], [], [], [], [], [], [], [], [], [], []] (fun i => ([[], [], [], [], [], [], [], [], [], [], [], [], [], [], [], [], [(B, .cells ⟨[iv 0, .slice none 0 0, .slice none 0 0, .slice none 0 0]⟩ 87 (0, 0))]] : List Seg).getD i []) (fun i => ([fun f v s => v = (pB u 0 : Value) ∧ s = [], fun f v s => v = (iv a.Mask : Value) ∧ s = [], fun f v s => v = (pB u 1 : Value) ∧ s = [], fun f v s => v = (.slice d a.Stack.length l : Value) ∧ s = [], fun f v s => v = (iv (a.Stack.length : Int) : Value) ∧ s = [], fun f v s => v = (iv (w64 ((a.Stack.length : Int) - 1)) : Value) ∧ s = [], fun f v s => v = (.slice (subP d (0 : Int).toNat l 1) S.length (l - (0 : Int).toNat) : Value) ∧ s = [], fun f v s => ∃ (G : Option Addr) (F : Nat), v = (.slice G K.length F : Value) ∧ ownS Gx.encI K G F s, fun f v s => v = (.agg #[.slice q c.1.Slots.length m, .slice t c.1.Waiting.length n] : Value) ∧ s = [], fun f v s => v = (.agg #[iv a.Mask, (atPath (f 7) []), .slice q c.1.Slots.length m, .slice t c.1.Waiting.length n] : Value) ∧ s = [], fun f v s => v = (pB u 1 : Value) ∧ s = [], fun f v s => v = (.slice d a.Stack.length l : Value) ∧ s = [], fun f v s => v = (iv (a.Stack.length : Int) : Value) ∧ s = [], fun f v s => v = (iv (w64 ((a.Stack.length : Int) - 1)) : Value) ∧ s = [], fun f v s => v = (elemP d ((w64 ((a.Stack.length : Int) - 1)).toNat * 1) : Value) ∧ s = [], fun f v s => v = (iv U : Value) ∧ s = [], fun f v s => v = undef ∧ s = [(B, .cells ⟨[iv a.Mask, (atPath (f 7) []), .slice q c.1.Slots.length m, .slice t c.1.Waiting.length n]⟩ 87 (0, 0))]] : List ((Nat → Value) → Value → Seg → Prop)).getD i (fun _ _ _ => False)) (fun j f v => ∃ s, (fun i => ([fun f v s => v = (pB u 0 : Value) ∧ s = [], fun f v s => v = (iv a.Mask : Value) ∧ s = [], fun f v s => v = (pB u 1 : Value) ∧ s = [], fun f v s => v = (.slice d a.Stack.length l : Value) ∧ s = [], fun f v s => v = (iv (a.Stack.length : Int) : Value) ∧ s = [], fun f v s => v = (iv (w64 ((a.Stack.length : Int) - 1)) : Value) ∧ s = [], fun f v s => v = (.slice (subP d (0 : Int).toNat l 1) S.length (l - (0 : Int).toNat) : Value) ∧ s = [], fun f v s => ∃ (G : Option Addr) (F : Nat), v = (.slice G K.length F : Value) ∧ ownS Gx.encI K G F s, fun f v s => v = (.agg #[.slice q c.1.Slots.length m, .slice t c.1.Waiting.length n] : Value) ∧ s = [], fun f v s => v = (.agg #[iv a.Mask, (atPath (f 7) []), .slice q c.1.Slots.length m, .slice t c.1.Waiting.length n] : Value) ∧ s = [], fun f v s => v = (pB u 1 : Value) ∧ s = [], fun f v s => v = (.slice d a.Stack.length l : Value) ∧ s = [], fun f v s => v = (iv (a.Stack.length : Int) : Value) ∧ s = [], fun f v s => v = (iv (w64 ((a.Stack.length : Int) - 1)) : Value) ∧ s = [], fun f v s => v = (elemP d ((w64 ((a.Stack.length : Int) - 1)).toNat * 1) : Value) ∧ s = [], fun f v s => v = (iv U : Value) ∧ s = [], fun f v s => v = undef ∧ s = [(B, .cells ⟨[iv a.Mask, (atPath (f 7) []), .slice q c.1.Slots.length m, .slice t c.1.Waiting.length n]⟩ 87 (0, 0))]] : List ((Nat → Value) → Value → Seg → Prop)).getD i (fun _ _ _ => False)) j f v s) [] [7, 15, 16] [7, 16] (fun _ _ _ s h => ⟨s, h⟩) (by kernel_rfl) (by kernel_rfl) be (by kernel_rfl) (by kernel_rfl) (by kernel_rfl) (by kernel_rfl) (allOb_cons ?_ (allOb_cons ?_ (allOb_cons ?_ (allOb_cons ?_ (allOb_cons ?_ (allOb_cons ?_ (allOb_cons ?_ (allOb_cons ?_ (allOb_cons ?_ (allOb_cons ?_ (allOb_cons ?_ (allOb_cons ?_ (allOb_cons ?_ (allOb_cons ?_ (allOb_cons ?_ (allOb_cons ?_ (allOb_cons ?_ allOb_nil))))))))))))))))) ?_)
 ·intro D H
  intro R ca bf
  exact MW 1 (WN (oE (pB u 0) [] ⟨by kernel_rfl, rfl⟩ bf))
 ·intro D H
  intro v0_ hb0_
  obtain ⟨rfl, _⟩ := hb0_
  intro R cb af
  exact wV (iv a.Mask) cb (eL false 1 0 (af.blk 0 rfl)) (WN (oE (iv a.Mask) [] ⟨by kernel_rfl, rfl⟩ af))
 ·intro D H
  intro R cc bg
  exact MW 1 (WN (oE (pB u 1) [] ⟨by kernel_rfl, rfl⟩ bg))
 ·intro D H
  intro v2_ hb2_
  obtain ⟨rfl, _⟩ := hb2_
  intro R cd ag
  exact wV (.slice d a.Stack.length l) cd (eL false 1 1 (ag.blk 0 rfl)) (WN (oE (.slice d a.Stack.length l) [] ⟨by kernel_rfl, rfl⟩ ag))
 ·intro D H
  intro R ce bh
  exact MW 1 (WN (oE (iv (a.Stack.length : Int)) [] ⟨by kernel_rfl, rfl⟩ bh))
 ·intro D H
  intro v4_ hb4_
  obtain ⟨rfl, _⟩ := hb4_
  intro R cf bi
  exact MW 1 (WN (oE (iv (w64 ((a.Stack.length : Int) - 1))) [] ⟨by kernel_rfl, rfl⟩ bi))
 ·intro D H
  intro v3_ hb3_
  obtain ⟨rfl, _⟩ := hb3_
  intro v5_ hb5_
  obtain ⟨rfl, _⟩ := hb5_
  intro R cg ah
  exact wV (.slice (subP d (0 : Int).toNat l 1) S.length (l - (0 : Int).toNat)) cg (E_slice (E := Gx.encI) _ _ _ _ a.Stack.length 0 (w64 ((a.Stack.length : Int) - 1)) rfl (by kernel_rfl) (Or.inl ⟨rfl, rfl⟩) (Or.inr ⟨_, rfl, by kernel_rfl⟩) (by kernel_rfl) (O.mem0 ah) rfl au) (WN (oE (.slice (subP d (0 : Int).toNat l 1) S.length (l - (0 : Int).toNat)) [] ⟨by kernel_rfl, rfl⟩ ah))
 ·intro D H
  intro v6_ hb6_
  obtain ⟨rfl, _⟩ := hb6_
  intro R ch ai
  refine WC ((c_s_l1Own ch S (subP d (0 : Int).toNat l 1) (l - (0 : Int).toNat) ((O.mem0 ai).sliceM au) bu).mono ?_)
  rintro e_ cw ⟨G, F, bv, rfl, ap, ay⟩
  refine ⟨_, rfl, ?_⟩
  exact WN (oE (.slice G K.length F) bv ⟨G, F, rfl, ap⟩ (Mem.callMid ai ay))
 ·intro D H
  intro R ci aj
  exact wV (.agg #[.slice q c.1.Slots.length m, .slice t c.1.Waiting.length n]) ci (eL true 2 0 (aj.blk 3 rfl)) (WN (oE (.agg #[.slice q c.1.Slots.length m, .slice t c.1.Waiting.length n]) [] ⟨by kernel_rfl, rfl⟩ aj))
 ·intro D H
  intro v7_ hb7_
  obtain ⟨_, G, F, rfl, _⟩ := hb7_
  intro v1_ hb1_
  obtain ⟨rfl, _⟩ := hb1_
  intro v8_ hb8_
  obtain ⟨rfl, _⟩ := hb8_
  intro R cj bj
  exact MW 1 (WN (oE (.agg #[iv a.Mask, .slice G K.length F, .slice q c.1.Slots.length m, .slice t c.1.Waiting.length n]) [] ⟨by kernel_rfl, rfl⟩ bj))
 ·intro D H
  intro R ck bk
  exact MW 1 (WN (oE (pB u 1) [] ⟨by kernel_rfl, rfl⟩ bk))
 ·intro D H
  intro v10_ hb10_
  obtain ⟨rfl, _⟩ := hb10_
  intro R cl ak
  exact wV (.slice d a.Stack.length l) cl (eL false 1 1 (ak.blk 0 rfl)) (WN (oE (.slice d a.Stack.length l) [] ⟨by kernel_rfl, rfl⟩ ak))
 ·intro D H
  intro R cm bl
  exact MW 1 (WN (oE (iv (a.Stack.length : Int)) [] ⟨by kernel_rfl, rfl⟩ bl))
 ·intro D H
  intro v12_ hb12_
  obtain ⟨rfl, _⟩ := hb12_
  intro R cn bm
  exact MW 1 (WN (oE (iv (w64 ((a.Stack.length : Int) - 1))) [] ⟨by kernel_rfl, rfl⟩ bm))
 ·intro D H
  intro v11_ hb11_
  obtain ⟨rfl, _⟩ := hb11_
  intro v13_ hb13_
  obtain ⟨rfl, _⟩ := hb13_
  intro R co al
  exact wV (elemP d ((w64 ((a.Stack.length : Int) - 1)).toNat * 1)) co (eI (O.mem0 al) rfl ar) (WN (oE (elemP d ((w64 ((a.Stack.length : Int) - 1)).toNat * 1)) [] ⟨by kernel_rfl, rfl⟩ al))
 ·intro D H
  intro v14_ hb14_
  obtain ⟨rfl, _⟩ := hb14_
  intro R cp am
  exact wV (iv U) cp (eE false 1 0 ((w64 ((a.Stack.length : Int) - 1)).toNat * 1) (O.mem0 am) ar) (WN (oE (iv U) [] ⟨by kernel_rfl, rfl⟩ am))
 ·intro D H
  intro v7_ hb7_
  obtain ⟨_, G, F, rfl, _⟩ := hb7_
  intro v9_ hb9_
  obtain ⟨hv9_, _⟩ := hb9_
  obtain rfl : v9_ = (.agg #[iv a.Mask, .slice G K.length F, .slice q c.1.Slots.length m, .slice t c.1.Waiting.length n] : Value) := hv9_.trans (by kernel_rfl)
  intro R cx bn
  exact wS true 4 0 (.agg #[iv a.Mask, .slice G K.length F, .slice q c.1.Slots.length m, .slice t c.1.Waiting.length n]) 4 [iv a.Mask, .slice G K.length F, .slice q c.1.Slots.length m, .slice t c.1.Waiting.length n] bn rfl fun cy bo => WN (ob_none [(B, .cells ⟨[iv a.Mask, .slice G K.length F, .slice q c.1.Slots.length m, .slice t c.1.Waiting.length n]⟩ 87 (0, 0))] rfl ⟨rfl, by kernel_rfl⟩ bo)
 intro D H
 intro v7_ hb7_
 obtain ⟨G, F, rfl, ap⟩ := hb7_
 intro v15_ hb15_
 obtain ⟨rfl, _⟩ := hb15_
 intro v16_ hb16_
 obtain ⟨rfl, hs16_⟩ := hb16_
 replace hs16_ := hs16_.trans (show _ = [(B, .cells ⟨[iv a.Mask, .slice G K.length F, .slice q c.1.Slots.length m, .slice t c.1.Waiting.length n]⟩ 87 (0, 0))] by kernel_rfl)
 intro aw bp
 have bq : Mem [] w aw [[(u, .cells ⟨[iv a.Mask, .slice d a.Stack.length l, .slice z a.Queue.Slots.length x, .slice A a.Queue.Waiting.length y]⟩ 87 (0, 0))], L, N, [(C, .cells ⟨[.slice q c.1.Slots.length m, .slice t c.1.Waiting.length n]⟩ 85 (0, 0))], (D 7), (D 16)] := bp
 rw [hs16_] at bq
 refine wR 1 [(2, pB B 0), (3, iv U)] aw (NC ?_)
 cases hm
theorem c_s_l21Make (w : World) (q : Machine) (W : Option Addr) (U : Nat) (dc : rdS encRoute w q.Routes W U) (X : Option Addr) (V : Nat) (dd : rdS Gx.encB w q.Enabled X V) (K : Option Addr) (P : Nat) (b7 : rdS Gx.encB w q.Raised K P) (O : Option Addr) (Q : Nat) (b8 : rdD deepInterface w q.Cpus O Q) (c : MachStep) {r : Machine × Int × Bool} (hm : M.s_l21Make q c = some r) :
  Calls Tryz.prog 77 #[.agg #[.slice W q.Routes.length U, .slice X q.Enabled.length V, .slice K q.Raised.length P, .slice O q.Cpus.length Q], .agg #[iv c.Kind, iv c.Irq, iv c.Cpu, iv c.Value]] w fun e w' => ∃ (dr : Option Addr) (c8 : Nat) (dv : Seg), ∃ (ds : Option Addr) (c9 : Nat) (dw : Seg), ∃ (dt : Option Addr) (da : Nat) (dx : Seg), ∃ (du : Option Addr) (db : Nat) (dy : Seg) (dz : Seg), e = .returned (.tuple #[.agg #[.slice dr r.1.Routes.length c8, .slice ds r.1.Enabled.length c9, .slice dt r.1.Raised.length da, .slice du r.1.Cpus.length db], iv r.2.1, .bool r.2.2]) ∧ (r.2.2 = true → ownS encRoute r.1.Routes dr c8 dv) ∧ (r.2.2 = true → ownS Gx.encB r.1.Enabled ds c9 dw) ∧ (r.2.2 = true → ownS Gx.encB r.1.Raised dt da dx) ∧ (r.2.2 = true → ownD deepInterface r.1.Cpus du db dy dz) ∧ Mem [] w w' [dv, dw, dx, dy, dz] := by
 unfold M.s_l21Make at hm
 refine cE Tryz.func77 ?_
 have M0 := Mem.refl [] w
 refine QA (wN (.cells ⟨[.slice W q.Routes.length U, .slice X q.Enabled.length V, .slice K q.Raised.length P, .slice O q.Cpus.length Q]⟩ 32 (0, 0)) M0 fun N hh ea => wN (.cells ⟨[iv c.Kind, iv c.Irq, iv c.Cpu, iv c.Value]⟩ 51 (0, 0)) ea fun F hi eb => wN (.cells ⟨[.slice none 0 0, .slice none 0 0, .slice none 0 0, .slice none 0 0]⟩ 32 (0, 0)) eb fun B cn a8 => wR 2 [(2, pB N 0), (3, pB F 0), (4, pB B 0)] cn (NA (wV (.agg #[.slice W q.Routes.length U, .slice X q.Enabled.length V, .slice K q.Raised.length P, .slice O q.Cpus.length Q]) cn (eL true 4 0 (a8.blk 0 rfl)) ?_)))
 obtain ⟨a, f0, hm⟩ := gx_bind hm
 refine WC ((c_s_l21Own cn q W U (dc.mem0 a8) X V (dd.mem0 a8) K P (b7.mem0 a8) O Q (b8.mem0 a8) f0).mono ?_)
 rintro e_ hj ⟨D, C, Y, x, z, Z, y, A, ab, m, n, bl, aq, rfl, bu, bd, be, bf, d5⟩
 have ec := a8.call d5
 refine ⟨_, rfl, ?_⟩
 refine wN (.cells ⟨[.slice none 0 0, .slice none 0 0, .slice none 0 0, .slice none 0 0]⟩ 32 (0, 0)) ec fun G hk ed => wS true 4 0 (.agg #[.slice D a.Routes.length C, .slice x a.Enabled.length z, .slice y a.Raised.length A, .slice m a.Cpus.length n]) 8 [.slice D a.Routes.length C, .slice x a.Enabled.length z, .slice y a.Raised.length A, .slice m a.Cpus.length n] ed rfl fun I J => NB (MW 1 (wV (iv c.Kind) I (eL false 1 0 (J.blk 1 rfl)) (NO (GB (QA (wR 2 [(2, pB N 0), (3, pB F 0), (4, pB B 0), (7, pB G 0), (16, iv c.Kind), (17, .bool (c.Kind == 1))] I (NO ?_)))))))
 rcases gx_bif hm with ⟨cg, hm⟩ | ⟨cg, hm⟩
 ·refine gT cg (QA (MW 1 (wV (.slice y a.Raised.length A) I (eL false 1 2 (J.blk 8 rfl)) (wR 1 [(2, pB N 0), (3, pB F 0), (4, pB B 0), (7, pB G 0), (20, .slice y a.Raised.length A), (21, pB F 1)] I (wV (iv c.Irq) I (eL false 1 1 (J.blk 1 rfl)) ?_)))))
  obtain ⟨g4, dk, hm⟩ := gx_bind hm
  refine wV (elemP y (c.Irq.toNat * 1)) I (eI (be.r J 5) rfl dk) (wE false 1 c.Irq.toNat 0 (c.Irq.toNat * 1) g4 true (.bool true) 5 J be (gxIdx_spec dk).2 fun d1 ce ff ee => LX 20 y A a.Raised c.Irq.toNat true ?_)
  have ef : Mem [] w d1 [[(N, .cells ⟨[.slice W q.Routes.length U, .slice X q.Enabled.length V, .slice K q.Raised.length P, .slice O q.Cpus.length Q]⟩ 32 (0, 0))], [(F, .cells ⟨[iv c.Kind, iv c.Irq, iv c.Cpu, iv c.Value]⟩ 51 (0, 0))], [(B, .cells ⟨[.slice none 0 0, .slice none 0 0, .slice none 0 0, .slice none 0 0]⟩ 32 (0, 0))], Y, Z, ce, bl, aq, [(G, .cells ⟨[.slice D a.Routes.length C, .slice x a.Enabled.length z, .slice y (a.Raised.set c.Irq.toNat true).length A, .slice m a.Cpus.length n]⟩ 32 (0, 0))]] := by rw [@List.length_set _ a.Raised c.Irq.toNat true]; exact ee
  refine NE ?_
  obtain ⟨ar, dl, hm⟩ := gx_bind hm
  have eg : Mem [] w d1 ([[(N, .cells ⟨[.slice W q.Routes.length U, .slice X q.Enabled.length V, .slice K q.Raised.length P, .slice O q.Cpus.length Q]⟩ 32 (0, 0))], [(F, .cells ⟨[iv c.Kind, iv c.Irq, iv c.Cpu, iv c.Value]⟩ 51 (0, 0))], Y, Z, ce, bl, aq, [(G, .cells ⟨[.slice D a.Routes.length C, .slice x a.Enabled.length z, .slice y (a.Raised.set c.Irq.toNat true).length A, .slice m a.Cpus.length n]⟩ 32 (0, 0))]] ++ (List.range 10).map (fun i => ([[], [], [], [], [], [], [], [], [(B, .cells ⟨[.slice none 0 0, .slice none 0 0, .slice none 0 0, .slice none 0 0]⟩ 32 (0, 0))], []] : List Seg).getD i [])) := ef.pk [0, 1, 3, 4, 5, 6, 7, 8, 300000, 300001, 300002, 300003, 300004, 300005, 300006, 300007, 2, 300009]
  refine G_sub [(2, pB N 0), (3, pB F 0), (4, pB B 0), (7, pB G 0), (20, .slice y (a.Raised.set c.Irq.toNat true).length A), (21, pB F 1), (22, iv c.Irq), (23, elemP y (c.Irq.toNat * 1))] (by kernel_rfl) (G_dagL 10 [[], [], [1], [], [3], [2, 4], [5], [6], [0], []] [[], [], [], [], [], [], [], [], [], []] [[], [], [], [], [], [], [], [], [], []] [[], [], [], [], [], [], [], [], [], []] [[], [], [], [], [], [], [], [], [], []] [[], [], [], [], [], [], [], [], [], []] (fun i => ([[], [], [], [], [], [], [], [], [(B, .cells ⟨[.slice none 0 0, .slice none 0 0, .slice none 0 0, .slice none 0 0]⟩ 32 (0, 0))], []] : List Seg).getD i []) (fun i => ([fun f v s => v = (.agg #[.slice D a.Routes.length C, .slice x a.Enabled.length z, .slice y (a.Raised.set c.Irq.toNat true).length A, .slice m a.Cpus.length n] : Value) ∧ s = [], fun f v s => v = (pB N 2 : Value) ∧ s = [], fun f v s => v = (.slice K q.Raised.length P : Value) ∧ s = [], fun f v s => v = (pB F 1 : Value) ∧ s = [], fun f v s => v = (iv c.Irq : Value) ∧ s = [], fun f v s => v = (elemP K (c.Irq.toNat * 1) : Value) ∧ s = [], fun f v s => v = (.bool ar : Value) ∧ s = [], fun f v s => v = (.bool (!ar) : Value) ∧ s = [], fun f v s => v = undef ∧ s = [(B, .cells ⟨[.slice D a.Routes.length C, .slice x a.Enabled.length z, .slice y (a.Raised.set c.Irq.toNat true).length A, .slice m a.Cpus.length n]⟩ 32 (0, 0))], fun f v s => v = (iv (-1) : Value) ∧ s = []] : List ((Nat → Value) → Value → Seg → Prop)).getD i (fun _ _ _ => False)) (fun j f v => ∃ s, (fun i => ([fun f v s => v = (.agg #[.slice D a.Routes.length C, .slice x a.Enabled.length z, .slice y (a.Raised.set c.Irq.toNat true).length A, .slice m a.Cpus.length n] : Value) ∧ s = [], fun f v s => v = (pB N 2 : Value) ∧ s = [], fun f v s => v = (.slice K q.Raised.length P : Value) ∧ s = [], fun f v s => v = (pB F 1 : Value) ∧ s = [], fun f v s => v = (iv c.Irq : Value) ∧ s = [], fun f v s => v = (elemP K (c.Irq.toNat * 1) : Value) ∧ s = [], fun f v s => v = (.bool ar : Value) ∧ s = [], fun f v s => v = (.bool (!ar) : Value) ∧ s = [], fun f v s => v = undef ∧ s = [(B, .cells ⟨[.slice D a.Routes.length C, .slice x a.Enabled.length z, .slice y (a.Raised.set c.Irq.toNat true).length A, .slice m a.Cpus.length n]⟩ 32 (0, 0))], fun f v s => v = (iv (-1) : Value) ∧ s = []] : List ((Nat → Value) → Value → Seg → Prop)).getD i (fun _ _ _ => False)) j f v s) [] [7, 8, 9] [8] (fun _ _ _ s h => ⟨s, h⟩) (by kernel_rfl) (by kernel_rfl) eg (by kernel_rfl) (by kernel_rfl) (by kernel_rfl) (by kernel_rfl) (allOb_cons ?_ (allOb_cons ?_ (allOb_cons ?_ (allOb_cons ?_ (allOb_cons ?_ (allOb_cons ?_ (allOb_cons ?_ (allOb_cons ?_ (allOb_cons ?_ (allOb_cons ?_ allOb_nil)))))))))) ?_)
  ·intro ai ap
   intro R gm cq
   exact wV (.agg #[.slice D a.Routes.length C, .slice x a.Enabled.length z, .slice y (a.Raised.set c.Irq.toNat true).length A, .slice m a.Cpus.length n]) gm (eL true 4 0 (cq.blk 7 rfl)) (WN (oE (.agg #[.slice D a.Routes.length C, .slice x a.Enabled.length z, .slice y (a.Raised.set c.Irq.toNat true).length A, .slice m a.Cpus.length n]) [] ⟨by kernel_rfl, rfl⟩ cq))
  ·intro ai ap
   intro R gn eh
   exact MW 1 (WN (oE (pB N 2) [] ⟨by kernel_rfl, rfl⟩ eh))
  ·intro ai ap
   intro v1_ hb1_
   obtain ⟨rfl, _⟩ := hb1_
   intro R go cr
   exact wV (.slice K q.Raised.length P) go (eL false 1 2 (cr.blk 0 rfl)) (WN (oE (.slice K q.Raised.length P) [] ⟨by kernel_rfl, rfl⟩ cr))
  ·intro ai ap
   intro R gp ei
   exact MW 1 (WN (oE (pB F 1) [] ⟨by kernel_rfl, rfl⟩ ei))
  ·intro ai ap
   intro v3_ hb3_
   obtain ⟨rfl, _⟩ := hb3_
   intro R gq ct
   exact wV (iv c.Irq) gq (eL false 1 1 (ct.blk 1 rfl)) (WN (oE (iv c.Irq) [] ⟨by kernel_rfl, rfl⟩ ct))
  ·intro ai ap
   intro v2_ hb2_
   obtain ⟨rfl, _⟩ := hb2_
   intro v4_ hb4_
   obtain ⟨rfl, _⟩ := hb4_
   intro R gr cu
   exact wV (elemP K (c.Irq.toNat * 1)) gr (eI (b7.mem0 cu) rfl dl) (WN (oE (elemP K (c.Irq.toNat * 1)) [] ⟨by kernel_rfl, rfl⟩ cu))
  ·intro ai ap
   intro v5_ hb5_
   obtain ⟨rfl, _⟩ := hb5_
   intro R gs cv
   exact wV (.bool ar) gs (eE false 1 0 (c.Irq.toNat * 1) (b7.mem0 cv) dl) (WN (oE (.bool ar) [] ⟨by kernel_rfl, rfl⟩ cv))
  ·intro ai ap
   intro v6_ hb6_
   obtain ⟨rfl, _⟩ := hb6_
   intro R gt ej
   exact MW 1 (WN (oE (.bool (!ar)) [] ⟨by kernel_rfl, rfl⟩ ej))
  ·intro ai ap
   intro v0_ hb0_
   obtain ⟨rfl, _⟩ := hb0_
   intro R hl ek
   exact wS true 4 0 (.agg #[.slice D a.Routes.length C, .slice x a.Enabled.length z, .slice y (a.Raised.set c.Irq.toNat true).length A, .slice m a.Cpus.length n]) 8 [.slice D a.Routes.length C, .slice x a.Enabled.length z, .slice y (a.Raised.set c.Irq.toNat true).length A, .slice m a.Cpus.length n] ek rfl fun hn el => WN (ob_none [(B, .cells ⟨[.slice D a.Routes.length C, .slice x a.Enabled.length z, .slice y (a.Raised.set c.Irq.toNat true).length A, .slice m a.Cpus.length n]⟩ 32 (0, 0))] rfl ⟨rfl, by kernel_rfl⟩ el)
  ·intro ai ap
   intro R gu em
   exact MW 1 (WN (oE (iv (-1)) [] ⟨by kernel_rfl, rfl⟩ em))
  intro ai ap
  intro v7_ hb7_
  obtain ⟨rfl, _⟩ := hb7_
  intro v8_ hb8_
  obtain ⟨rfl, hs8_⟩ := hb8_
  replace hs8_ := hs8_.trans (show _ = [(B, .cells ⟨[.slice D a.Routes.length C, .slice x a.Enabled.length z, .slice y (a.Raised.set c.Irq.toNat true).length A, .slice m a.Cpus.length n]⟩ 32 (0, 0))] by kernel_rfl)
  intro v9_ hb9_
  obtain ⟨rfl, _⟩ := hb9_
  intro d2 en
  have cf : Mem [] w d2 [[(N, .cells ⟨[.slice W q.Routes.length U, .slice X q.Enabled.length V, .slice K q.Raised.length P, .slice O q.Cpus.length Q]⟩ 32 (0, 0))], [(F, .cells ⟨[iv c.Kind, iv c.Irq, iv c.Cpu, iv c.Value]⟩ 51 (0, 0))], Y, Z, ce, bl, aq, [(G, .cells ⟨[.slice D a.Routes.length C, .slice x a.Enabled.length z, .slice y (a.Raised.set c.Irq.toNat true).length A, .slice m a.Cpus.length n]⟩ 32 (0, 0))], (ai 8)] := en
  rw [hs8_] at cf
  refine wR 1 [(4, pB B 0), (5, iv (-1)), (6, .bool (!ar))] d2 (NC (BR (TR ?_)))
  obtain rfl := HS hm
  exact N_ret [.agg #[.slice D a.Routes.length C, .slice x a.Enabled.length z, .slice y (a.Raised.set c.Irq.toNat true).length A, .slice m a.Cpus.length n], iv (-1), .bool (!ar)] (RX true 4 0 (cf.blk 8 rfl) (rC (rC RVs_nil))) (⟨D, C, Y, x, z, Z, y, A, ce, m, n, bl, aq, rfl, (fun _ => bu), (fun _ => bd), (fun _ => ff), (fun _ => bf), cf.pk [2, 3, 4, 5, 6]⟩)
 refine gF cg (QA (wR 2 [(2, pB N 0), (3, pB F 0), (4, pB B 0), (7, pB G 0), (16, iv c.Kind), (32, .bool (c.Kind == 2))] I (NO ?_)))
 rcases gx_bif hm with ⟨ch, hm⟩ | ⟨ch, hm⟩
 ·refine gT ch (QA (wV (.agg #[.slice W q.Routes.length U, .slice X q.Enabled.length V, .slice K q.Raised.length P, .slice O q.Cpus.length Q]) I (eL true 4 0 (J.blk 0 rfl)) ?_))
  obtain ⟨T, f1, hm⟩ := gx_bind hm
  refine WC ((c_s_l21Sync I q W U (dc.mem0 J) X V (dd.mem0 J) K P (b7.mem0 J) O Q (b8.mem0 J) f1).mono ?_)
  rintro e_ ho ⟨az, av, gg, a0, aw, gh, a3, ax, gi, a4, ay, gj, gk, rfl, fg, fh, fi, fj, d6⟩
  have eo := J.call d6
  refine ⟨_, rfl, ?_⟩
  refine wS true 4 0 (.agg #[.slice az T.Routes.length av, .slice a0 T.Enabled.length aw, .slice a3 T.Raised.length ax, .slice a4 T.Cpus.length ay]) 2 [.slice az T.Routes.length av, .slice a0 T.Enabled.length aw, .slice a3 T.Raised.length ax, .slice a4 T.Cpus.length ay] eo rfl fun gv cw => wR 2 [(4, pB B 0), (5, iv (-1)), (6, .bool true)] gv (NC (BR (TR ?_)))
  obtain rfl := HS hm
  exact N_ret [.agg #[.slice az T.Routes.length av, .slice a0 T.Enabled.length aw, .slice a3 T.Raised.length ax, .slice a4 T.Cpus.length ay], iv (-1), .bool true] (RX true 4 0 (cw.blk 2 rfl) (rC (rC RVs_nil))) (⟨az, av, gg, a0, aw, gh, a3, ax, gi, a4, ay, gj, gk, rfl, (fun _ => fg), (fun _ => fh), (fun _ => fi), (fun _ => fj), cw.pk [9, 10, 11, 12, 13]⟩)
 refine gF ch (QA (wR 2 [(2, pB N 0), (3, pB F 0), (4, pB B 0), (7, pB G 0), (16, iv c.Kind), (36, .bool (c.Kind == 3))] I (NO ?_)))
 rcases gx_bif hm with ⟨ci, hm⟩ | ⟨ci, hm⟩
 ·refine gT ci (QA (MW 1 (wV (.slice O q.Cpus.length Q) I (eL false 1 3 (J.blk 0 rfl)) (wR 1 [(3, pB F 0), (4, pB B 0), (7, pB G 0), (40, .slice O q.Cpus.length Q), (41, pB F 2)] I (wV (iv c.Cpu) I (eL false 1 2 (J.blk 1 rfl)) ?_)))))
  obtain ⟨aa, f7, hm⟩ := gx_bind hm
  obtain ⟨hu, dn, df, cl⟩ := id b8
  obtain ⟨S, bs⟩ := gxIdx_fst dn f7
  refine wV (elemP O (c.Cpu.toNat * 4)) I (eI (df.mem0 J) (len_fst dn) bs) (wV (.agg #[iv aa.Mask, .slice ((S 0).1) aa.Stack.length ((S 0).2), .slice ((S 1).1) aa.Queue.Slots.length ((S 1).2), .slice ((S 2).1) aa.Queue.Waiting.length ((S 2).2)]) I (eE true 4 0 (c.Cpu.toNat * 4) (df.mem0 J) bs) ?_)
  obtain ⟨d, f2, hm⟩ := gx_bind hm
  refine WC ((c_s_l10Take I aa ((S 0).1) ((S 0).2) ((cl.mem0 J).at_ bs 0 ⟨Int, Gx.encI, aa.Stack, (S 0).1, (S 0).2⟩ (by kernel_rfl)) ((S 1).1) ((S 1).2) ((cl.mem0 J).at_ bs 1 ⟨Slot, encSlot, aa.Queue.Slots, (S 1).1, (S 1).2⟩ (by kernel_rfl)) ((S 2).1) ((S 2).2) ((cl.mem0 J).at_ bs 2 ⟨Waiter, encWaiter, aa.Queue.Waiting, (S 2).1, (S 2).2⟩ (by kernel_rfl)) f2).mono ?_)
  rintro e_ gw ⟨aj, ac, bv, ak, ad, bw, al, ae, bx, rfl, fk, fl, fm, d7⟩
  have ep := J.call d7
  refine ⟨_, rfl, ?_⟩
  refine wR 3 [(3, pB F 0), (4, pB B 0), (7, pB G 0), (46, .agg #[iv d.1.Mask, .slice aj d.1.Stack.length ac, .slice ak d.1.Queue.Slots.length ad, .slice al d.1.Queue.Waiting.length ae]), (47, iv d.2)] gw (wN (.cells ⟨[iv 0, .slice none 0 0, .slice none 0 0, .slice none 0 0]⟩ 87 (0, 0)) ep fun a9 hp er => wS true 4 0 (.agg #[iv d.1.Mask, .slice aj d.1.Stack.length ac, .slice ak d.1.Queue.Slots.length ad, .slice al d.1.Queue.Waiting.length ae]) 12 [iv d.1.Mask, .slice aj d.1.Stack.length ac, .slice ak d.1.Queue.Slots.length ad, .slice al d.1.Queue.Waiting.length ae] er rfl fun a5 bn => MW 1 (NA (MW 1 (wV (.slice m a.Cpus.length n) a5 (eL false 1 3 (bn.blk 8 rfl)) (wR 1 [(4, pB B 0), (7, pB G 0), (8, pB a9 0), (9, iv d.2), (49, .slice m a.Cpus.length n), (50, pB F 2)] a5 (wV (iv c.Cpu) a5 (eL false 1 2 (bn.blk 1 rfl)) (wV (.agg #[iv d.1.Mask, .slice aj d.1.Stack.length ac, .slice ak d.1.Queue.Slots.length ad, .slice al d.1.Queue.Waiting.length ae]) a5 (eL true 4 0 (bn.blk 12 rfl)) ?_)))))))
  obtain ⟨g5, f8, hm⟩ := gx_bind hm
  obtain ⟨hv, cc, dg, fc⟩ := id bf
  obtain ⟨e8, b9⟩ := gxIdx_fst cc f8
  refine wV (elemP m (c.Cpu.toNat * 4)) a5 (eI (dg.r bn 6) (len_fst cc) b9) ?_
  obtain ⟨bh, ge, bj, f5, ha, fy⟩ := fc.lens (gxIdx_spec b9).2
  have es := bn.cut 7 (sa := bh) (sb := ge) (sc := bj) f5 (by kernel_rfl)
  refine wE true 4 c.Cpu.toNat 0 (c.Cpu.toNat * 4) (g5, e8) (d.1, (plOf [(aj, ac), (ak, ad), (al, ae)])) (.agg #[iv d.1.Mask, .slice aj d.1.Stack.length ac, .slice ak d.1.Queue.Slots.length ad, .slice al d.1.Queue.Waiting.length ae]) 6 es dg (gxIdx_spec b9).2 ?_
  intro b4 bz fn et
  have eu : Mem [] w b4 [[(N, .cells ⟨[.slice W q.Routes.length U, .slice X q.Enabled.length V, .slice K q.Raised.length P, .slice O q.Cpus.length Q]⟩ 32 (0, 0))], [(F, .cells ⟨[iv c.Kind, iv c.Irq, iv c.Cpu, iv c.Value]⟩ 51 (0, 0))], [(B, .cells ⟨[.slice none 0 0, .slice none 0 0, .slice none 0 0, .slice none 0 0]⟩ 32 (0, 0))], Y, Z, ab, bz, [(G, .cells ⟨[.slice D a.Routes.length C, .slice x a.Enabled.length z, .slice y a.Raised.length A, .slice m a.Cpus.length n]⟩ 32 (0, 0))], [(a9, .cells ⟨[iv d.1.Mask, .slice aj d.1.Stack.length ac, .slice ak d.1.Queue.Slots.length ad, .slice al d.1.Queue.Waiting.length ae]⟩ 87 (0, 0))], bh, bv, bw, bx, bj] := et.pk [0, 1, 2, 3, 4, 5, 6, 8, 12, 7, 9, 10, 11, 14]
  have ev : Mem [] w b4 [[(N, .cells ⟨[.slice W q.Routes.length U, .slice X q.Enabled.length V, .slice K q.Raised.length P, .slice O q.Cpus.length Q]⟩ 32 (0, 0))], [(F, .cells ⟨[iv c.Kind, iv c.Irq, iv c.Cpu, iv c.Value]⟩ 51 (0, 0))], [(B, .cells ⟨[.slice none 0 0, .slice none 0 0, .slice none 0 0, .slice none 0 0]⟩ 32 (0, 0))], Y, Z, ab, bz, [(G, .cells ⟨[.slice D a.Routes.length C, .slice x a.Enabled.length z, .slice y a.Raised.length A, .slice m a.Cpus.length n]⟩ 32 (0, 0))], [(a9, .cells ⟨[iv d.1.Mask, .slice aj d.1.Stack.length ac, .slice ak d.1.Queue.Slots.length ad, .slice al d.1.Queue.Waiting.length ae]⟩ 87 (0, 0))], (bh ++ ((bv ++ (bw ++ (bx ++ []))) ++ bj))] := eu.regroup (by simp)
  have fo : ownD deepInterface (a.Cpus.set c.Cpu.toNat d.1) m n bz (bh ++ ((bv ++ (bw ++ (bx ++ []))) ++ bj)) := ⟨_, set_fst cc c.Cpu.toNat (d.1, (plOf [(aj, ac), (ak, ad), (al, ae)])), fn, (fy (d.1, (plOf [(aj, ac), (ak, ad), (al, ae)])) _ (ownI_cons (i := ⟨Int, Gx.encI, _, _, _⟩) fk (ownI_cons (i := ⟨Slot, encSlot, _, _, _⟩) fl (ownI_cons (i := ⟨Waiter, encWaiter, _, _, _⟩) fm ownI_nil))))⟩
  have he := gxIdx_put d.1 (gxIdx_down cc b9)
  refine LX 49 m n a.Cpus c.Cpu.toNat d.1 ?_
  have cx : Mem [] w b4 [[(N, .cells ⟨[.slice W q.Routes.length U, .slice X q.Enabled.length V, .slice K q.Raised.length P, .slice O q.Cpus.length Q]⟩ 32 (0, 0))], [(F, .cells ⟨[iv c.Kind, iv c.Irq, iv c.Cpu, iv c.Value]⟩ 51 (0, 0))], [(B, .cells ⟨[.slice none 0 0, .slice none 0 0, .slice none 0 0, .slice none 0 0]⟩ 32 (0, 0))], Y, Z, ab, bz, [(G, .cells ⟨[.slice D a.Routes.length C, .slice x a.Enabled.length z, .slice y a.Raised.length A, .slice m (a.Cpus.set c.Cpu.toNat d.1).length n]⟩ 32 (0, 0))], [(a9, .cells ⟨[iv d.1.Mask, .slice aj d.1.Stack.length ac, .slice ak d.1.Queue.Slots.length ad, .slice al d.1.Queue.Waiting.length ae]⟩ 87 (0, 0))], (bh ++ ((bv ++ (bw ++ (bx ++ []))) ++ bj))] := by rw [@List.length_set _ a.Cpus c.Cpu.toNat d.1]; exact ev
  refine NA (wV (.agg #[.slice D a.Routes.length C, .slice x a.Enabled.length z, .slice y a.Raised.length A, .slice m (a.Cpus.set c.Cpu.toNat d.1).length n]) b4 (eL true 4 0 (cx.blk 7 rfl)) (wR 3 [(4, pB B 0), (54, .agg #[.slice D a.Routes.length C, .slice x a.Enabled.length z, .slice y a.Raised.length A, .slice m (a.Cpus.set c.Cpu.toNat d.1).length n]), (55, iv d.2), (57, .bool (decide (d.2 ≥ 0)))] b4 (wS true 4 0 (.agg #[.slice D a.Routes.length C, .slice x a.Enabled.length z, .slice y a.Raised.length A, .slice m (a.Cpus.set c.Cpu.toNat d.1).length n]) 2 [.slice D a.Routes.length C, .slice x a.Enabled.length z, .slice y a.Raised.length A, .slice m (a.Cpus.set c.Cpu.toNat d.1).length n] cx rfl fun gx cy => wR 2 [(4, pB B 0), (5, iv d.2), (6, .bool (decide (d.2 ≥ 0)))] gx (NC (BR (TR ?_))))))
  obtain rfl := HS hm
  exact N_ret [.agg #[.slice D a.Routes.length C, .slice x a.Enabled.length z, .slice y a.Raised.length A, .slice m (a.Cpus.set c.Cpu.toNat d.1).length n], iv d.2, .bool (decide (d.2 ≥ 0))] (RX true 4 0 (cy.blk 2 rfl) (rC (rC RVs_nil))) (⟨D, C, Y, x, z, Z, y, A, ab, m, n, bz, (bh ++ ((bv ++ (bw ++ (bx ++ []))) ++ bj)), rfl, (fun _ => bu), (fun _ => bd), (fun _ => be), (fun _ => fo), cy.pk [3, 4, 5, 6, 9]⟩)
 refine gF ci (QA (wR 2 [(2, pB N 0), (3, pB F 0), (4, pB B 0), (7, pB G 0), (16, iv c.Kind), (58, .bool (c.Kind == 4))] I (NO ?_)))
 rcases gx_bif hm with ⟨cj, hm⟩ | ⟨cj, hm⟩
 ·refine gT cj (QA (MW 1 (wV (.slice O q.Cpus.length Q) I (eL false 1 3 (J.blk 0 rfl)) (wR 1 [(3, pB F 0), (4, pB B 0), (7, pB G 0), (62, .slice O q.Cpus.length Q), (63, pB F 2)] I (wV (iv c.Cpu) I (eL false 1 2 (J.blk 1 rfl)) ?_)))))
  obtain ⟨u, f9, hm⟩ := gx_bind hm
  obtain ⟨hw, dp, dh, bc⟩ := id b8
  obtain ⟨t, au⟩ := gxIdx_fst dp f9
  refine wV (elemP O (c.Cpu.toNat * 4)) I (eI (dh.mem0 J) (len_fst dp) au) (wV (.agg #[iv u.Mask, .slice ((t 0).1) u.Stack.length ((t 0).2), .slice ((t 1).1) u.Queue.Slots.length ((t 1).2), .slice ((t 2).1) u.Queue.Waiting.length ((t 2).2)]) I (eE true 4 0 (c.Cpu.toNat * 4) (dh.mem0 J) au) ?_)
  rcases gx_alt hm with ⟨L, f3, hm⟩ | hm
  ·refine WD (c_s_l10Leave__k I u ((t 0).1) ((t 0).2) ((bc.mem0 J).at_ au 0 ⟨Int, Gx.encI, u.Stack, (t 0).1, (t 0).2⟩ (by kernel_rfl)) ((t 1).1) ((t 1).2) ((bc.mem0 J).at_ au 1 ⟨Slot, encSlot, u.Queue.Slots, (t 1).1, (t 1).2⟩ (by kernel_rfl)) ((t 2).1) ((t 2).2) ((bc.mem0 J).at_ au 2 ⟨Waiter, encWaiter, u.Queue.Waiting, (t 2).1, (t 2).2⟩ (by kernel_rfl)) f3) J fun gy ew => wR 3 [(3, pB F 0), (4, pB B 0), (7, pB G 0), (68, .agg #[iv L.1.Mask, .slice ((t 0).1) u.Stack.length ((t 0).2), .slice ((t 1).1) u.Queue.Slots.length ((t 1).2), .slice ((t 2).1) u.Queue.Waiting.length ((t 2).2)]), (69, iv L.2)] gy (wN (.cells ⟨[iv 0, .slice none 0 0, .slice none 0 0, .slice none 0 0]⟩ 87 (0, 0)) ew fun b6 hq ex => wS true 4 0 (.agg #[iv L.1.Mask, .slice ((t 0).1) u.Stack.length ((t 0).2), .slice ((t 1).1) u.Queue.Slots.length ((t 1).2), .slice ((t 2).1) u.Queue.Waiting.length ((t 2).2)]) 9 [iv L.1.Mask, .slice ((t 0).1) u.Stack.length ((t 0).2), .slice ((t 1).1) u.Queue.Slots.length ((t 1).2), .slice ((t 2).1) u.Queue.Waiting.length ((t 2).2)] ex rfl fun a6 bo => MW 1 (NA (MW 1 (wV (.slice m a.Cpus.length n) a6 (eL false 1 3 (bo.blk 8 rfl)) (wR 1 [(4, pB B 0), (7, pB G 0), (10, pB b6 0), (11, iv L.2), (71, .slice m a.Cpus.length n), (72, pB F 2)] a6 (wV (iv c.Cpu) a6 (eL false 1 2 (bo.blk 1 rfl)) (wV (.agg #[iv L.1.Mask, .slice ((t 0).1) u.Stack.length ((t 0).2), .slice ((t 1).1) u.Queue.Slots.length ((t 1).2), .slice ((t 2).1) u.Queue.Waiting.length ((t 2).2)]) a6 (eL true 4 0 (bo.blk 9 rfl)) ?_)))))))
   obtain ⟨g6, ga, hm⟩ := gx_bind hm
   obtain ⟨hx, dq, di, hc⟩ := id bf
   obtain ⟨e9, de⟩ := gxIdx_fst dq ga
   refine wV (elemP m (c.Cpu.toNat * 4)) a6 (eI (di.r bo 6) (len_fst dq) de) (wE true 4 c.Cpu.toNat 0 (c.Cpu.toNat * 4) (g6, e9) ((⟨L.1.Mask, u.Stack, u.Queue⟩ : Interface), (plOf [((t 0).1, (t 0).2), ((t 1).1, (t 1).2), ((t 2).1, (t 2).2)])) (.agg #[iv L.1.Mask, .slice ((t 0).1) u.Stack.length ((t 0).2), .slice ((t 1).1) u.Queue.Slots.length ((t 1).2), .slice ((t 2).1) u.Queue.Waiting.length ((t 2).2)]) 6 bo di (gxIdx_spec de).2 fun co gl hd ey => LX 71 m n a.Cpus c.Cpu.toNat (⟨L.1.Mask, u.Stack, u.Queue⟩ : Interface) ?_)
   have cz : Mem [] w co [[(N, .cells ⟨[.slice W q.Routes.length U, .slice X q.Enabled.length V, .slice K q.Raised.length P, .slice O q.Cpus.length Q]⟩ 32 (0, 0))], [(F, .cells ⟨[iv c.Kind, iv c.Irq, iv c.Cpu, iv c.Value]⟩ 51 (0, 0))], [(B, .cells ⟨[.slice none 0 0, .slice none 0 0, .slice none 0 0, .slice none 0 0]⟩ 32 (0, 0))], Y, Z, ab, gl, aq, [(G, .cells ⟨[.slice D a.Routes.length C, .slice x a.Enabled.length z, .slice y a.Raised.length A, .slice m (a.Cpus.set c.Cpu.toNat (⟨L.1.Mask, u.Stack, u.Queue⟩ : Interface)).length n]⟩ 32 (0, 0))], [(b6, .cells ⟨[iv L.1.Mask, .slice ((t 0).1) u.Stack.length ((t 0).2), .slice ((t 1).1) u.Queue.Slots.length ((t 1).2), .slice ((t 2).1) u.Queue.Waiting.length ((t 2).2)]⟩ 87 (0, 0))]] := by rw [@List.length_set _ a.Cpus c.Cpu.toNat (⟨L.1.Mask, u.Stack, u.Queue⟩ : Interface)]; exact ey
   refine NA (wV (.agg #[.slice D a.Routes.length C, .slice x a.Enabled.length z, .slice y a.Raised.length A, .slice m (a.Cpus.set c.Cpu.toNat (⟨L.1.Mask, u.Stack, u.Queue⟩ : Interface)).length n]) co (eL true 4 0 (cz.blk 8 rfl)) (wR 3 [(4, pB B 0), (76, .agg #[.slice D a.Routes.length C, .slice x a.Enabled.length z, .slice y a.Raised.length A, .slice m (a.Cpus.set c.Cpu.toNat (⟨L.1.Mask, u.Stack, u.Queue⟩ : Interface)).length n]), (77, iv L.2), (79, .bool (decide (L.2 ≥ 0)))] co (wS true 4 0 (.agg #[.slice D a.Routes.length C, .slice x a.Enabled.length z, .slice y a.Raised.length A, .slice m (a.Cpus.set c.Cpu.toNat (⟨L.1.Mask, u.Stack, u.Queue⟩ : Interface)).length n]) 2 [.slice D a.Routes.length C, .slice x a.Enabled.length z, .slice y a.Raised.length A, .slice m (a.Cpus.set c.Cpu.toNat (⟨L.1.Mask, u.Stack, u.Queue⟩ : Interface)).length n] cz rfl fun gz c0 => wR 2 [(4, pB B 0), (5, iv L.2), (6, .bool (decide (L.2 ≥ 0)))] gz (NC (BR (TR ?_))))))
   rcases gx_bif hm with ⟨br, hm⟩ | ⟨br, hm⟩
   ·cases hm
   obtain rfl := HS hm
   exact N_ret [.agg #[.slice D a.Routes.length C, .slice x a.Enabled.length z, .slice y a.Raised.length A, .slice m (a.Cpus.set c.Cpu.toNat (⟨L.1.Mask, u.Stack, u.Queue⟩ : Interface)).length n], iv L.2, .bool (decide (L.2 ≥ 0))] (RX true 4 0 (c0.blk 2 rfl) (rC (rC RVs_nil))) (⟨D, C, [], x, z, [], y, A, [], m, n, [], [], rfl, (fun h_ => Bool.noConfusion (br.symm.trans h_)), (fun h_ => Bool.noConfusion (br.symm.trans h_)), (fun h_ => Bool.noConfusion (br.symm.trans h_)), (fun h_ => Bool.noConfusion (br.symm.trans h_)), c0.pk [100000, 100001, 100002, 100003, 100004]⟩)
  obtain ⟨l, f4, hm⟩ := gx_bind hm
  refine WC ((c_s_l10Leave I u ((t 0).1) ((t 0).2) ((bc.mem0 J).at_ au 0 ⟨Int, Gx.encI, u.Stack, (t 0).1, (t 0).2⟩ (by kernel_rfl)) ((t 1).1) ((t 1).2) ((bc.mem0 J).at_ au 1 ⟨Slot, encSlot, u.Queue.Slots, (t 1).1, (t 1).2⟩ (by kernel_rfl)) ((t 2).1) ((t 2).2) ((bc.mem0 J).at_ au 2 ⟨Waiter, encWaiter, u.Queue.Waiting, (t 2).1, (t 2).2⟩ (by kernel_rfl)) f4).mono ?_)
  rintro e_ g0 ⟨am, af, b0, an, ag, b1, ao, ah, b2, rfl, fp, fq, fs, d9⟩
  have ez := J.call d9
  refine ⟨_, rfl, ?_⟩
  refine wR 3 [(3, pB F 0), (4, pB B 0), (7, pB G 0), (68, .agg #[iv l.1.Mask, .slice am l.1.Stack.length af, .slice an l.1.Queue.Slots.length ag, .slice ao l.1.Queue.Waiting.length ah]), (69, iv l.2)] g0 (wN (.cells ⟨[iv 0, .slice none 0 0, .slice none 0 0, .slice none 0 0]⟩ 87 (0, 0)) ez fun ba hr e0 => wS true 4 0 (.agg #[iv l.1.Mask, .slice am l.1.Stack.length af, .slice an l.1.Queue.Slots.length ag, .slice ao l.1.Queue.Waiting.length ah]) 12 [iv l.1.Mask, .slice am l.1.Stack.length af, .slice an l.1.Queue.Slots.length ag, .slice ao l.1.Queue.Waiting.length ah] e0 rfl fun a7 bp => MW 1 (NA (MW 1 (wV (.slice m a.Cpus.length n) a7 (eL false 1 3 (bp.blk 8 rfl)) (wR 1 [(4, pB B 0), (7, pB G 0), (10, pB ba 0), (11, iv l.2), (71, .slice m a.Cpus.length n), (72, pB F 2)] a7 (wV (iv c.Cpu) a7 (eL false 1 2 (bp.blk 1 rfl)) (wV (.agg #[iv l.1.Mask, .slice am l.1.Stack.length af, .slice an l.1.Queue.Slots.length ag, .slice ao l.1.Queue.Waiting.length ah]) a7 (eL true 4 0 (bp.blk 12 rfl)) ?_)))))))
  obtain ⟨g7, gb, hm⟩ := gx_bind hm
  obtain ⟨hy, cd, dj, fd⟩ := id bf
  obtain ⟨fa, ca⟩ := gxIdx_fst cd gb
  refine wV (elemP m (c.Cpu.toNat * 4)) a7 (eI (dj.r bp 6) (len_fst cd) ca) ?_
  obtain ⟨bi, gf, bk, f6, hb, fz⟩ := fd.lens (gxIdx_spec ca).2
  have e1 := bp.cut 7 (sa := bi) (sb := gf) (sc := bk) f6 (by kernel_rfl)
  refine wE true 4 c.Cpu.toNat 0 (c.Cpu.toNat * 4) (g7, fa) (l.1, (plOf [(am, af), (an, ag), (ao, ah)])) (.agg #[iv l.1.Mask, .slice am l.1.Stack.length af, .slice an l.1.Queue.Slots.length ag, .slice ao l.1.Queue.Waiting.length ah]) 6 e1 dj (gxIdx_spec ca).2 ?_
  intro b5 b3 ft e2
  have e3 : Mem [] w b5 [[(N, .cells ⟨[.slice W q.Routes.length U, .slice X q.Enabled.length V, .slice K q.Raised.length P, .slice O q.Cpus.length Q]⟩ 32 (0, 0))], [(F, .cells ⟨[iv c.Kind, iv c.Irq, iv c.Cpu, iv c.Value]⟩ 51 (0, 0))], [(B, .cells ⟨[.slice none 0 0, .slice none 0 0, .slice none 0 0, .slice none 0 0]⟩ 32 (0, 0))], Y, Z, ab, b3, [(G, .cells ⟨[.slice D a.Routes.length C, .slice x a.Enabled.length z, .slice y a.Raised.length A, .slice m a.Cpus.length n]⟩ 32 (0, 0))], [(ba, .cells ⟨[iv l.1.Mask, .slice am l.1.Stack.length af, .slice an l.1.Queue.Slots.length ag, .slice ao l.1.Queue.Waiting.length ah]⟩ 87 (0, 0))], bi, b0, b1, b2, bk] := e2.pk [0, 1, 2, 3, 4, 5, 6, 8, 12, 7, 9, 10, 11, 14]
  have e4 : Mem [] w b5 [[(N, .cells ⟨[.slice W q.Routes.length U, .slice X q.Enabled.length V, .slice K q.Raised.length P, .slice O q.Cpus.length Q]⟩ 32 (0, 0))], [(F, .cells ⟨[iv c.Kind, iv c.Irq, iv c.Cpu, iv c.Value]⟩ 51 (0, 0))], [(B, .cells ⟨[.slice none 0 0, .slice none 0 0, .slice none 0 0, .slice none 0 0]⟩ 32 (0, 0))], Y, Z, ab, b3, [(G, .cells ⟨[.slice D a.Routes.length C, .slice x a.Enabled.length z, .slice y a.Raised.length A, .slice m a.Cpus.length n]⟩ 32 (0, 0))], [(ba, .cells ⟨[iv l.1.Mask, .slice am l.1.Stack.length af, .slice an l.1.Queue.Slots.length ag, .slice ao l.1.Queue.Waiting.length ah]⟩ 87 (0, 0))], (bi ++ ((b0 ++ (b1 ++ (b2 ++ []))) ++ bk))] := e3.regroup (by simp)
  have fu : ownD deepInterface (a.Cpus.set c.Cpu.toNat l.1) m n b3 (bi ++ ((b0 ++ (b1 ++ (b2 ++ []))) ++ bk)) := ⟨_, set_fst cd c.Cpu.toNat (l.1, (plOf [(am, af), (an, ag), (ao, ah)])), ft, (fz (l.1, (plOf [(am, af), (an, ag), (ao, ah)])) _ (ownI_cons (i := ⟨Int, Gx.encI, _, _, _⟩) fp (ownI_cons (i := ⟨Slot, encSlot, _, _, _⟩) fq (ownI_cons (i := ⟨Waiter, encWaiter, _, _, _⟩) fs ownI_nil))))⟩
  have hf := gxIdx_put l.1 (gxIdx_down cd ca)
  refine LX 71 m n a.Cpus c.Cpu.toNat l.1 ?_
  have c1 : Mem [] w b5 [[(N, .cells ⟨[.slice W q.Routes.length U, .slice X q.Enabled.length V, .slice K q.Raised.length P, .slice O q.Cpus.length Q]⟩ 32 (0, 0))], [(F, .cells ⟨[iv c.Kind, iv c.Irq, iv c.Cpu, iv c.Value]⟩ 51 (0, 0))], [(B, .cells ⟨[.slice none 0 0, .slice none 0 0, .slice none 0 0, .slice none 0 0]⟩ 32 (0, 0))], Y, Z, ab, b3, [(G, .cells ⟨[.slice D a.Routes.length C, .slice x a.Enabled.length z, .slice y a.Raised.length A, .slice m (a.Cpus.set c.Cpu.toNat l.1).length n]⟩ 32 (0, 0))], [(ba, .cells ⟨[iv l.1.Mask, .slice am l.1.Stack.length af, .slice an l.1.Queue.Slots.length ag, .slice ao l.1.Queue.Waiting.length ah]⟩ 87 (0, 0))], (bi ++ ((b0 ++ (b1 ++ (b2 ++ []))) ++ bk))] := by rw [@List.length_set _ a.Cpus c.Cpu.toNat l.1]; exact e4
  refine NA (wV (.agg #[.slice D a.Routes.length C, .slice x a.Enabled.length z, .slice y a.Raised.length A, .slice m (a.Cpus.set c.Cpu.toNat l.1).length n]) b5 (eL true 4 0 (c1.blk 7 rfl)) (wR 3 [(4, pB B 0), (76, .agg #[.slice D a.Routes.length C, .slice x a.Enabled.length z, .slice y a.Raised.length A, .slice m (a.Cpus.set c.Cpu.toNat l.1).length n]), (77, iv l.2), (79, .bool (decide (l.2 ≥ 0)))] b5 (wS true 4 0 (.agg #[.slice D a.Routes.length C, .slice x a.Enabled.length z, .slice y a.Raised.length A, .slice m (a.Cpus.set c.Cpu.toNat l.1).length n]) 2 [.slice D a.Routes.length C, .slice x a.Enabled.length z, .slice y a.Raised.length A, .slice m (a.Cpus.set c.Cpu.toNat l.1).length n] c1 rfl fun g1 c2 => wR 2 [(4, pB B 0), (5, iv l.2), (6, .bool (decide (l.2 ≥ 0)))] g1 (NC (BR (TR ?_))))))
  obtain rfl := HS hm
  exact N_ret [.agg #[.slice D a.Routes.length C, .slice x a.Enabled.length z, .slice y a.Raised.length A, .slice m (a.Cpus.set c.Cpu.toNat l.1).length n], iv l.2, .bool (decide (l.2 ≥ 0))] (RX true 4 0 (c2.blk 2 rfl) (rC (rC RVs_nil))) (⟨D, C, Y, x, z, Z, y, A, ab, m, n, b3, (bi ++ ((b0 ++ (b1 ++ (b2 ++ []))) ++ bk)), rfl, (fun _ => bu), (fun _ => bd), (fun _ => be), (fun _ => fu), c2.pk [3, 4, 5, 6, 9]⟩)
 refine gF cj (QA (wR 2 [(3, pB F 0), (4, pB B 0), (7, pB G 0), (80, .bool (c.Kind == 5))] I (NO ?_)))
 rcases gx_bif hm with ⟨ck, hm⟩ | ⟨ck, hm⟩
 ·refine gT ck (QA (MW 1 (wV (.slice m a.Cpus.length n) I (eL false 1 3 (J.blk 8 rfl)) (wR 1 [(3, pB F 0), (4, pB B 0), (7, pB G 0), (83, .slice m a.Cpus.length n), (84, pB F 2)] I (wV (iv c.Cpu) I (eL false 1 2 (J.blk 1 rfl)) ?_)))))
  obtain ⟨E, gc, hm⟩ := gx_bind hm
  obtain ⟨hz, bg, cb, fe⟩ := id bf
  obtain ⟨H, bt⟩ := gxIdx_fst bg gc
  refine wV (elemP m (c.Cpu.toNat * 4)) I (eI (cb.r J 6) (len_fst bg) bt) (wV (.agg #[iv E.Mask, .slice ((H 0).1) E.Stack.length ((H 0).2), .slice ((H 1).1) E.Queue.Slots.length ((H 1).2), .slice ((H 2).1) E.Queue.Waiting.length ((H 2).2)]) I (eE true 4 0 (c.Cpu.toNat * 4) (cb.r J 6) bt) (wN (.cells ⟨[iv 0, .slice none 0 0, .slice none 0 0, .slice none 0 0]⟩ 87 (0, 0)) J fun bb hs e5 => wS true 4 0 (.agg #[iv E.Mask, .slice ((H 0).1) E.Stack.length ((H 0).2), .slice ((H 1).1) E.Queue.Slots.length ((H 1).2), .slice ((H 2).1) E.Queue.Waiting.length ((H 2).2)]) 9 [iv E.Mask, .slice ((H 0).1) E.Stack.length ((H 0).2), .slice ((H 1).1) E.Queue.Slots.length ((H 1).2), .slice ((H 2).1) E.Queue.Waiting.length ((H 2).2)] e5 rfl fun cp c3 => NA (MW 1 (wV (iv c.Value) cp (eL false 1 3 (c3.blk 1 rfl)) (wR 1 [(3, pB F 0), (4, pB B 0), (7, pB G 0), (12, pB bb 0), (89, iv c.Value), (90, pB bb 0)] cp (wS false 1 0 (iv c.Value) 9 [iv c.Value, .slice ((H 0).1) E.Stack.length ((H 0).2), .slice ((H 1).1) E.Queue.Slots.length ((H 1).2), .slice ((H 2).1) E.Queue.Waiting.length ((H 2).2)] c3 rfl fun bm bq => NA (MW 1 (wV (.slice m a.Cpus.length n) bm (eL false 1 3 (bq.blk 8 rfl)) (wR 1 [(4, pB B 0), (7, pB G 0), (12, pB bb 0), (92, .slice m a.Cpus.length n), (93, pB F 2)] bm (wV (iv c.Cpu) bm (eL false 1 2 (bq.blk 1 rfl)) (wV (.agg #[iv c.Value, .slice ((H 0).1) E.Stack.length ((H 0).2), .slice ((H 1).1) E.Queue.Slots.length ((H 1).2), .slice ((H 2).1) E.Queue.Waiting.length ((H 2).2)]) bm (eL true 4 0 (bq.blk 9 rfl)) ?_)))))))))))
  obtain ⟨ht, gd, hm⟩ := gx_bind hm
  obtain ⟨g9, fb⟩ := gxIdx_fst bg gd
  refine wV (elemP m (c.Cpu.toNat * 4)) bm (eI (cb.r bq 6) (len_fst bg) fb) (wE true 4 c.Cpu.toNat 0 (c.Cpu.toNat * 4) (E, H) ((⟨c.Value, E.Stack, E.Queue⟩ : Interface), H) (.agg #[iv c.Value, .slice ((H 0).1) E.Stack.length ((H 0).2), .slice ((H 1).1) E.Queue.Slots.length ((H 1).2), .slice ((H 2).1) E.Queue.Waiting.length ((H 2).2)]) 6 bq cb (gxIdx_spec bt).2 ?_)
  intro d3 cm fv e6
  have fw : ownD deepInterface (a.Cpus.set c.Cpu.toNat (⟨c.Value, E.Stack, E.Queue⟩ : Interface)) m n cm aq := ⟨_, set_fst bg c.Cpu.toNat ((⟨c.Value, E.Stack, E.Queue⟩ : Interface), H), fv, (by rw [flatMap_setSame (gxIdx_spec bt).2 (by kernel_rfl)]; exact fe)⟩
  have hg := gxIdx_put (⟨c.Value, E.Stack, E.Queue⟩ : Interface) (gxIdx_down bg bt)
  refine LX 92 m n a.Cpus c.Cpu.toNat (⟨c.Value, E.Stack, E.Queue⟩ : Interface) ?_
  have c4 : Mem [] w d3 [[(N, .cells ⟨[.slice W q.Routes.length U, .slice X q.Enabled.length V, .slice K q.Raised.length P, .slice O q.Cpus.length Q]⟩ 32 (0, 0))], [(F, .cells ⟨[iv c.Kind, iv c.Irq, iv c.Cpu, iv c.Value]⟩ 51 (0, 0))], [(B, .cells ⟨[.slice none 0 0, .slice none 0 0, .slice none 0 0, .slice none 0 0]⟩ 32 (0, 0))], Y, Z, ab, cm, aq, [(G, .cells ⟨[.slice D a.Routes.length C, .slice x a.Enabled.length z, .slice y a.Raised.length A, .slice m (a.Cpus.set c.Cpu.toNat (⟨c.Value, E.Stack, E.Queue⟩ : Interface)).length n]⟩ 32 (0, 0))], [(bb, .cells ⟨[iv c.Value, .slice ((H 0).1) E.Stack.length ((H 0).2), .slice ((H 1).1) E.Queue.Slots.length ((H 1).2), .slice ((H 2).1) E.Queue.Waiting.length ((H 2).2)]⟩ 87 (0, 0))]] := by rw [@List.length_set _ a.Cpus c.Cpu.toNat (⟨c.Value, E.Stack, E.Queue⟩ : Interface)]; exact e6
  refine NA (wV (.agg #[.slice D a.Routes.length C, .slice x a.Enabled.length z, .slice y a.Raised.length A, .slice m (a.Cpus.set c.Cpu.toNat (⟨c.Value, E.Stack, E.Queue⟩ : Interface)).length n]) d3 (eL true 4 0 (c4.blk 8 rfl)) (wS true 4 0 (.agg #[.slice D a.Routes.length C, .slice x a.Enabled.length z, .slice y a.Raised.length A, .slice m (a.Cpus.set c.Cpu.toNat (⟨c.Value, E.Stack, E.Queue⟩ : Interface)).length n]) 2 [.slice D a.Routes.length C, .slice x a.Enabled.length z, .slice y a.Raised.length A, .slice m (a.Cpus.set c.Cpu.toNat (⟨c.Value, E.Stack, E.Queue⟩ : Interface)).length n] c4 rfl fun g2 c5 => wR 2 [(4, pB B 0), (5, iv (-1)), (6, .bool true)] g2 (NC (BR (TR ?_)))))
  obtain rfl := HS hm
  exact N_ret [.agg #[.slice D a.Routes.length C, .slice x a.Enabled.length z, .slice y a.Raised.length A, .slice m (a.Cpus.set c.Cpu.toNat (⟨c.Value, E.Stack, E.Queue⟩ : Interface)).length n], iv (-1), .bool true] (RX true 4 0 (c5.blk 2 rfl) (rC (rC RVs_nil))) (⟨D, C, Y, x, z, Z, y, A, ab, m, n, cm, aq, rfl, (fun _ => bu), (fun _ => bd), (fun _ => be), (fun _ => fw), c5.pk [3, 4, 5, 6, 7]⟩)
 refine gF ck (GK (BN (NF (MW 1 (wV (.slice x a.Enabled.length z) I (eL false 1 1 (J.blk 8 rfl)) (MW 1 (wV (iv c.Irq) I (eL false 1 1 (J.blk 1 rfl)) (MW 1 (wV (iv c.Value) I (eL false 1 3 (J.blk 1 rfl)) (wR 1 [(4, pB B 0), (7, pB G 0), (99, .slice x a.Enabled.length z), (101, iv c.Irq), (104, .bool (c.Value == 1))] I ?_))))))))))
 obtain ⟨g8, dm, hm⟩ := gx_bind hm
 refine wV (elemP x (c.Irq.toNat * 1)) I (eI (bd.r J 4) rfl dm) (wE false 1 c.Irq.toNat 0 (c.Irq.toNat * 1) g8 (c.Value == 1) (.bool (c.Value == 1)) 4 J bd (gxIdx_spec dm).2 fun d4 d0 fx e7 => LX 99 x z a.Enabled c.Irq.toNat (c.Value == 1) ?_)
 have c6 : Mem [] w d4 [[(N, .cells ⟨[.slice W q.Routes.length U, .slice X q.Enabled.length V, .slice K q.Raised.length P, .slice O q.Cpus.length Q]⟩ 32 (0, 0))], [(F, .cells ⟨[iv c.Kind, iv c.Irq, iv c.Cpu, iv c.Value]⟩ 51 (0, 0))], [(B, .cells ⟨[.slice none 0 0, .slice none 0 0, .slice none 0 0, .slice none 0 0]⟩ 32 (0, 0))], Y, d0, ab, bl, aq, [(G, .cells ⟨[.slice D a.Routes.length C, .slice x (a.Enabled.set c.Irq.toNat (c.Value == 1)).length z, .slice y a.Raised.length A, .slice m a.Cpus.length n]⟩ 32 (0, 0))]] := by rw [@List.length_set _ a.Enabled c.Irq.toNat (c.Value == 1)]; exact e7
 refine NA (wV (.agg #[.slice D a.Routes.length C, .slice x (a.Enabled.set c.Irq.toNat (c.Value == 1)).length z, .slice y a.Raised.length A, .slice m a.Cpus.length n]) d4 (eL true 4 0 (c6.blk 8 rfl)) (wS true 4 0 (.agg #[.slice D a.Routes.length C, .slice x (a.Enabled.set c.Irq.toNat (c.Value == 1)).length z, .slice y a.Raised.length A, .slice m a.Cpus.length n]) 2 [.slice D a.Routes.length C, .slice x (a.Enabled.set c.Irq.toNat (c.Value == 1)).length z, .slice y a.Raised.length A, .slice m a.Cpus.length n] c6 rfl fun g3 c7 => wR 2 [(4, pB B 0), (5, iv (-1)), (6, .bool true)] g3 (NC ?_)))
 obtain rfl := HS hm
 exact N_ret [.agg #[.slice D a.Routes.length C, .slice x (a.Enabled.set c.Irq.toNat (c.Value == 1)).length z, .slice y a.Raised.length A, .slice m a.Cpus.length n], iv (-1), .bool true] (RX true 4 0 (c7.blk 2 rfl) (rC (rC RVs_nil))) (⟨D, C, Y, x, z, d0, y, A, ab, m, n, bl, aq, rfl, (fun _ => bu), (fun _ => fx), (fun _ => be), (fun _ => bf), c7.pk [3, 4, 5, 6, 7]⟩)
theorem c_s_DrainCpu (w : World) (d : Machine) (I : Option Addr) (D : Nat) (bo : rdS encRoute w d.Routes I D) (J : Option Addr) (F : Nat) (bp : rdS Gx.encB w d.Enabled J F) (K : Option Addr) (G : Nat) (bq : rdS Gx.encB w d.Raised K G) (L : Option Addr) (H : Nat) (br : rdD deepInterface w d.Cpus L H) (i : Int) {r : Machine × (List Int) × Bool} (hm : M.s_DrainCpu d i = some r) :
  Calls Tryz.prog 27 #[.agg #[.slice I d.Routes.length D, .slice J d.Enabled.length F, .slice K d.Raised.length G, .slice L d.Cpus.length H], iv i] w fun e w' => ∃ (bz : Option Addr) (bj : Nat) (b4 : Seg), ∃ (b0 : Option Addr) (bk : Nat) (b5 : Seg), ∃ (b1 : Option Addr) (bl : Nat) (b6 : Seg), ∃ (b2 : Option Addr) (bm : Nat) (b7 : Seg) (b8 : Seg), ∃ (b3 : Option Addr) (bn : Nat) (b9 : Seg), e = .returned (.tuple #[.agg #[.slice bz r.1.Routes.length bj, .slice b0 r.1.Enabled.length bk, .slice b1 r.1.Raised.length bl, .slice b2 r.1.Cpus.length bm], .slice b3 r.2.1.length bn, .bool r.2.2]) ∧ ownS encRoute r.1.Routes bz bj b4 ∧ ownS Gx.encB r.1.Enabled b0 bk b5 ∧ ownS Gx.encB r.1.Raised b1 bl b6 ∧ ownD deepInterface r.1.Cpus b2 bm b7 b8 ∧ ownS Gx.encI r.2.1 b3 bn b9 ∧ Mem [] w w' [b4, b5, b6, b7, b8, b9] := by
 unfold M.s_DrainCpu at hm
 refine cE Tryz.func27 ?_
 have M0 := Mem.refl [] w
 refine QA (wN (.cells ⟨[.slice I d.Routes.length D, .slice J d.Enabled.length F, .slice K d.Raised.length G, .slice L d.Cpus.length H]⟩ 32 (0, 0)) M0 fun ae d5 cf => wN (.cells ⟨[.slice none 0 0, .slice none 0 0, .slice none 0 0, .slice none 0 0]⟩ 32 (0, 0)) cf fun j dp cg => wR 2 [(1, iv i), (2, pB ae 0), (4, pB j 0)] dp (NA (wL (E := Gx.encI) ([] : List Int) 0 [] 3 cg fun O N ca az bs aa => MW 1 (NB (wV (.agg #[.slice I d.Routes.length D, .slice J d.Enabled.length F, .slice K d.Raised.length G, .slice L d.Cpus.length H]) az (eL true 4 0 (aa.blk 0 rfl)) (wR 1 [(1, iv i), (2, pB ae 0), (4, pB j 0), (7, .slice O ([] : List Int).length N), (13, .agg #[.slice I d.Routes.length D, .slice J d.Enabled.length F, .slice K d.Raised.length G, .slice L d.Cpus.length H]), (14, iv i)] az ?_))))))
 obtain ⟨dc, c7, hm⟩ := gx_bind hm
 refine WD (c_s_l21Cpu az d I D (bo.mem0 aa) J F (bp.mem0 aa) K G (bq.mem0 aa) L H (br.mem0 aa) i c7) aa fun a0 Q => wR 1 [(1, iv i), (2, pB ae 0), (4, pB j 0), (7, .slice O ([] : List Int).length N), (16, .bool (!dc))] a0 (NO ?_)
 rcases gx_bif hm with ⟨ba, hm⟩ | ⟨ba, hm⟩
 ·refine gT ba (QA (wR 2 [(4, pB j 0), (17, .agg #[.slice none 0 0, .slice none 0 0, .slice none 0 0, .slice none 0 0]), (18, .slice O ([] : List Int).length N)] a0 (wS true 4 0 (.agg #[.slice none 0 0, .slice none 0 0, .slice none 0 0, .slice none 0 0]) 1 [.slice none 0 0, .slice none 0 0, .slice none 0 0, .slice none 0 0] Q rfl fun dq bg => wR 2 [(4, pB j 0), (5, .slice O ([] : List Int).length N), (6, .bool false)] dq (ND ?_))))
  obtain rfl := HS hm
  exact N_ret [.agg #[.slice none 0 0, .slice none 0 0, .slice none 0 0, .slice none 0 0], .slice O ([] : List Int).length N, .bool false] (RX true 4 0 (bg.blk 1 rfl) (rC (rC RVs_nil))) (⟨none, 0, [], none, 0, [], none, 0, [], none, 0, [], [], O, N, ca, rfl, ownS_nil, ownS_nil, ownS_nil, ownD_nil, bs, bg.pk [100000, 100001, 100002, 100003, 100004, 2]⟩)
 refine gF ba (KA (wV (.agg #[.slice I d.Routes.length D, .slice J d.Enabled.length F, .slice K d.Raised.length G, .slice L d.Cpus.length H]) a0 (eL true 4 0 (Q.blk 0 rfl)) ?_))
 obtain ⟨P, c8, hm⟩ := gx_bind hm
 refine WC ((c_s_l21Sync a0 d I D (bo.mem0 Q) J F (bp.mem0 Q) K G (bq.mem0 Q) L H (br.mem0 Q) c8).mono ?_)
 rintro e_ d6 ⟨bb, a6, dd, bc, a7, de, bd, a8, df, be, a9, dg, dh, rfl, cr, ct, cu, cv, cc⟩
 have ch := Q.call cc
 refine ⟨_, rfl, ?_⟩
 refine wN (.cells ⟨[.slice none 0 0, .slice none 0 0, .slice none 0 0, .slice none 0 0]⟩ 32 (0, 0)) ch fun C d7 ci => wS true 4 0 (.agg #[.slice bb P.Routes.length a6, .slice bc P.Enabled.length a7, .slice bd P.Raised.length a8, .slice be P.Cpus.length a9]) 8 [.slice bb P.Routes.length a6, .slice bc P.Enabled.length a7, .slice bd P.Raised.length a8, .slice be P.Cpus.length a9] ci rfl fun d8 cj => NO ?_
 obtain ⟨dx, db, cq⟩ := gx_bind hm
 refine G_meet (fun a w' => False) ?_ ?_
 ·refine GB (G_while (σ := List Int × List Route × List Bool × List Bool × List Interface) (ρ := Machine × (List Int) × Bool) (fun c a w' => ∃ (A : Option Addr), ∃ (z : Nat), ∃ (ar : Seg), ∃ (t : Option Addr), ∃ (l : Nat), ∃ (au : Seg), ∃ (u : Option Addr), ∃ (m : Nat), ∃ (av : Seg), ∃ (x : Option Addr), ∃ (n : Nat), ∃ (aw : Seg), ∃ (y : Option Addr), ∃ (q : Nat), ∃ (ax : Seg), ∃ (ay : Seg), ownS Gx.encI c.1 A z ar ∧ ownS encRoute c.2.1 t l au ∧ ownS Gx.encB c.2.2.1 u m av ∧ ownS Gx.encB c.2.2.2.1 x n aw ∧ ownD deepInterface c.2.2.2.2 y q ax ay ∧ Mem [] w w' [[(j, .cells ⟨[.slice none 0 0, .slice none 0 0, .slice none 0 0, .slice none 0 0]⟩ 32 (0, 0))], [(C, .cells ⟨[.slice t c.2.1.length l, .slice u c.2.2.1.length m, .slice x c.2.2.2.1.length n, .slice y c.2.2.2.2.length q]⟩ 32 (0, 0))], ar, au, av, aw, ax, ay] ∧ Sat Tryz.f27.ntmps [(1, iv i), (4, pB j 0), (7, .slice A c.1.length z), (8, pB C 0)] a) db (fun a ha => ⟨O, N, ca, bb, a6, dd, bc, a7, de, bd, a8, df, be, a9, dg, dh, bs, cr, ct, cu, cv, cj.pk [1, 8, 2, 3, 4, 5, 6, 7], ha.s⟩) ?_)
  clear hm
  intro c ec hm c6 du bf ⟨A, z, ar, t, l, au, u, m, av, x, n, aw, y, q, ax, ay, bt, bu, bv, bw, bx, ab, co⟩
  refine G_use co (GB (QA (wV (.agg #[.slice t c.2.1.length l, .slice u c.2.2.1.length m, .slice x c.2.2.2.1.length n, .slice y c.2.2.2.2.length q]) bf (eL true 4 0 (ab.blk 1 rfl)) (wR 2 [(1, iv i), (4, pB j 0), (7, .slice A c.1.length z), (8, pB C 0), (22, .agg #[.slice t c.2.1.length l, .slice u c.2.2.1.length m, .slice x c.2.2.2.1.length n, .slice y c.2.2.2.2.length q]), (24, .agg #[iv 3, iv 0, iv i, iv 0])] bf ?_))))
  obtain ⟨f, c9, hm⟩ := gx_bind hm
  refine WC ((c_s_l21Make bf (⟨c.2.1, c.2.2.1, c.2.2.2.1, c.2.2.2.2⟩ : Machine) t l (bu.r ab 3) u m (bv.r ab 4) x n (bw.r ab 5) y q (bx.rd ab 6 (by kernel_rfl) 7 (by kernel_rfl)) (⟨3, 0, i, 0⟩ : MachStep) c9).mono ?_)
  rintro e_ dr ⟨W, R, dz, X, S, d0, Y, T, d1, Z, U, d2, d3, rfl, cw, cx, cy, cz, cd⟩
  have ck := ab.call cd
  refine ⟨_, rfl, ?_⟩
  refine wR 4 [(1, iv i), (4, pB j 0), (7, .slice A c.1.length z), (8, pB C 0), (26, .agg #[.slice W f.1.Routes.length R, .slice X f.1.Enabled.length S, .slice Y f.1.Raised.length T, .slice Z f.1.Cpus.length U]), (27, iv f.2.1), (28, .bool f.2.2)] dr (wN (.cells ⟨[.slice none 0 0, .slice none 0 0, .slice none 0 0, .slice none 0 0]⟩ 32 (0, 0)) ck fun af d9 cl => wS true 4 0 (.agg #[.slice W f.1.Routes.length R, .slice X f.1.Enabled.length S, .slice Y f.1.Raised.length T, .slice Z f.1.Cpus.length U]) 13 [.slice W f.1.Routes.length R, .slice X f.1.Enabled.length S, .slice Y f.1.Raised.length T, .slice Z f.1.Cpus.length U] cl rfl fun ad a4 => MW 2 (NB (wR 2 [(1, iv i), (4, pB j 0), (7, .slice A c.1.length z), (8, pB C 0), (9, pB af 0), (10, iv f.2.1), (30, .bool (!f.2.2))] ad (NO ?_))))
  rcases gx_bif hm with ⟨V, hm⟩ | ⟨V, hm⟩
  ·refine gT V (QA (wV (.agg #[.slice t c.2.1.length l, .slice u c.2.2.1.length m, .slice x c.2.2.2.1.length n, .slice y c.2.2.2.2.length q]) ad (eL true 4 0 (a4.blk 1 rfl)) (wR 1 [(4, pB j 0), (31, .agg #[.slice t c.2.1.length l, .slice u c.2.2.1.length m, .slice x c.2.2.2.1.length n, .slice y c.2.2.2.2.length q]), (32, .slice A c.1.length z)] ad (wS true 4 0 (.agg #[.slice t c.2.1.length l, .slice u c.2.2.1.length m, .slice x c.2.2.2.1.length n, .slice y c.2.2.2.2.length q]) 0 [.slice t c.2.1.length l, .slice u c.2.2.1.length m, .slice x c.2.2.2.1.length n, .slice y c.2.2.2.2.length q] a4 rfl fun ds bh => wR 2 [(4, pB j 0), (5, .slice A c.1.length z), (6, .bool true)] ds (ND (BR (TR ?_)))))))
   obtain rfl := HS hm
   obtain rfl := c6 _ rfl
   have hm := cq
   refine BR (N_meet_ret ?_)
   obtain rfl := HS hm
   exact N_ret [.agg #[.slice t c.2.1.length l, .slice u c.2.2.1.length m, .slice x c.2.2.2.1.length n, .slice y c.2.2.2.2.length q], .slice A c.1.length z, .bool true] (RX true 4 0 (bh.blk 0 rfl) (rC (rC RVs_nil))) (⟨t, l, au, u, m, av, x, n, aw, y, q, ax, ay, A, z, ar, rfl, bu, bv, bw, bx, bt, bh.pk [3, 4, 5, 6, 7, 2]⟩)
  refine gF V (KA (wR 2 [(1, iv i), (4, pB j 0), (7, .slice A c.1.length z), (8, pB C 0), (9, pB af 0), (33, .slice A c.1.length z), (34, iv f.2.1)] ad (wL (E := Gx.encI) [f.2.1] 1 [iv f.2.1] 3 a4 ?_)))
  intro dy dw d4 ea c0 bi
  obtain ⟨a5, cp, hm⟩ := gx_bind hm
  refine wA 8 [iv 0] 2 bi bt (c0.r bi 14) cp fun am ag di a3 c1 ac => MW 1 (NO (GR (wV (.agg #[.slice W f.1.Routes.length R, .slice X f.1.Enabled.length S, .slice Y f.1.Raised.length T, .slice Z f.1.Cpus.length U]) a3 (eL true 4 0 (ac.blk 13 rfl)) (wR 2 [(1, iv i), (4, pB j 0), (7, .slice am a5.length ag), (8, pB C 0), (38, .agg #[.slice W f.1.Routes.length R, .slice X f.1.Enabled.length S, .slice Y f.1.Raised.length T, .slice Z f.1.Cpus.length U]), (40, .agg #[iv 4, iv 0, iv i, iv 0])] a3 ?_))))
  obtain ⟨B, da, hm⟩ := gx_bind hm
  refine WC ((c_s_l21Make a3 f.1 W R ((cw (by simpa using V)).rd ac 8 (by kernel_rfl)) X S ((cx (by simpa using V)).rd ac 9 (by kernel_rfl)) Y T ((cy (by simpa using V)).rd ac 10 (by kernel_rfl)) Z U ((cz (by simpa using V)).rd ac 11 (by kernel_rfl) 12 (by kernel_rfl)) (⟨4, 0, i, 0⟩ : MachStep) da).mono ?_)
  rintro e_ dt ⟨an, ah, dj, ao, ai, dk, ap, aj, dl, aq, ak, dm, dn, rfl, c2, c3, c4, c5, ce⟩
  have cm := ac.call ce
  refine ⟨_, rfl, ?_⟩
  obtain ⟨dv, al, hm⟩ := gx_bind hm
  refine wR 4 [(1, iv i), (4, pB j 0), (7, .slice am a5.length ag), (8, pB C 0), (42, .agg #[.slice an B.1.Routes.length ah, .slice ao B.1.Enabled.length ai, .slice ap B.1.Raised.length aj, .slice aq B.1.Cpus.length ak])] dt (wS true 4 0 (.agg #[.slice an B.1.Routes.length ah, .slice ao B.1.Enabled.length ai, .slice ap B.1.Raised.length aj, .slice aq B.1.Cpus.length ak]) 1 [.slice an B.1.Routes.length ah, .slice ao B.1.Enabled.length ai, .slice ap B.1.Raised.length aj, .slice aq B.1.Cpus.length ak] cm rfl fun eb cn => WN (BN ?_))
  cases hm
  exact N_loop fun a ha => ⟨_, rfl, am, ag, di, an, ah, dj, ao, ai, dk, ap, aj, dl, aq, ak, dm, dn, c1, (c2 (gxAssert_spec al)), (c3 (gxAssert_spec al)), (c4 (gxAssert_spec al)), (c5 (gxAssert_spec al)), cn.pk [0, 1, 2, 15, 16, 17, 18, 19], ha.s⟩
 intro _ _ h
 exact h.elim
theorem c_i_newQueue (w : World) (a : Queue) (y : Option Addr) (q : Nat) (aj : rdS encSlot w a.Slots y q) (z : Option Addr) (t : Nat) (ak : rdS encWaiter w a.Waiting z t) {r : Queue} (hm : M.i_newQueue a = some r) :
  Calls Tryz.prog 177 #[.agg #[.slice y a.Slots.length q, .slice z a.Waiting.length t]] w fun e w' => ∃ (U : Option Addr) (S : Nat) (W : Seg), ∃ (V : Option Addr) (T : Nat) (X : Seg), e = .returned (.agg #[.slice U r.Slots.length S, .slice V r.Waiting.length T]) ∧ ownS encSlot r.Slots U S W ∧ ownS encWaiter r.Waiting V T X ∧ Mem [] w w' [W, X] := by
 unfold M.i_newQueue at hm
 refine cE Tryz.func177 ?_
 have M0 := Mem.refl [] w
 refine QA (wN (.cells ⟨[.slice y a.Slots.length q, .slice z a.Waiting.length t]⟩ 85 (0, 0)) M0 fun m a0 Y => wN (.cells ⟨[.slice none 0 0, .slice none 0 0]⟩ 85 (0, 0)) Y fun H a3 Z => NE ?_)
 obtain ⟨l, al, hm⟩ := gx_bind hm
 refine G_sub [(0, .agg #[.slice y a.Slots.length q, .slice z a.Waiting.length t]), (1, pB m 0), (2, pB H 0)] (by kernel_rfl) (G_dagL 7 [[], [], [1], [0, 2], [], [], [5]] [[], [], [], [0], [], [], []] [[], [], [], [], [], [], []] [[], [], [], [], [], [], []] [[], [], [], [], [], [], []] [[], [], [], [], [], [], []] (fun _ => []) (fun i => ([fun f v s => ∃ (A : Option Addr) (u : Nat), v = (.slice A ([] : List Slot).length u : Value) ∧ ownS encSlot ([] : List Slot) A u s, fun f v s => v = (pB m 0 : Value) ∧ s = [], fun f v s => v = (.slice y a.Slots.length q : Value) ∧ s = [], fun f v s => ∃ (d : Option Addr) (c : Nat), v = (.slice d l.length c : Value) ∧ ownS encSlot l d c s, fun f v s => ∃ (B : Option Addr) (x : Nat), v = (.slice B ([] : List Waiter).length x : Value) ∧ ownS encWaiter ([] : List Waiter) B x s, fun f v s => v = (pB m 1 : Value) ∧ s = [], fun f v s => v = (.slice z a.Waiting.length t : Value) ∧ s = []] : List ((Nat → Value) → Value → Seg → Prop)).getD i (fun _ _ _ => False)) (fun j f v => ∃ s, (fun i => ([fun f v s => ∃ (A : Option Addr) (u : Nat), v = (.slice A ([] : List Slot).length u : Value) ∧ ownS encSlot ([] : List Slot) A u s, fun f v s => v = (pB m 0 : Value) ∧ s = [], fun f v s => v = (.slice y a.Slots.length q : Value) ∧ s = [], fun f v s => ∃ (d : Option Addr) (c : Nat), v = (.slice d l.length c : Value) ∧ ownS encSlot l d c s, fun f v s => ∃ (B : Option Addr) (x : Nat), v = (.slice B ([] : List Waiter).length x : Value) ∧ ownS encWaiter ([] : List Waiter) B x s, fun f v s => v = (pB m 1 : Value) ∧ s = [], fun f v s => v = (.slice z a.Waiting.length t : Value) ∧ s = []] : List ((Nat → Value) → Value → Seg → Prop)).getD i (fun _ _ _ => False)) j f v s) [] [3, 4, 6] [3, 4] (fun _ _ _ s h => ⟨s, h⟩) (by kernel_rfl) (by kernel_rfl) (Z.preNil 7) (by kernel_rfl) (by kernel_rfl) (by kernel_rfl) (by kernel_rfl) (allOb_cons ?_ (allOb_cons ?_ (allOb_cons ?_ (allOb_cons ?_ (allOb_cons ?_ (allOb_cons ?_ (allOb_cons ?_ allOb_nil))))))) ?_)
 ·intro n G
  intro R a4 aa
  exact wL (E := encSlot) ([] : List Slot) 0 [] 117 aa fun A u ao a5 I ab => WN (oE (.slice A ([] : List Slot).length u) ao ⟨A, u, rfl, I⟩ (Mem.mid ab))
 ·intro n G
  intro R au ac
  exact MW 1 (WN (oE (pB m 0) [] ⟨by kernel_rfl, rfl⟩ ac))
 ·intro n G
  intro v1_ hb1_
  obtain ⟨rfl, _⟩ := hb1_
  intro R av L
  exact wV (.slice y a.Slots.length q) av (eL false 1 0 (L.blk 0 rfl)) (WN (oE (.slice y a.Slots.length q) [] ⟨by kernel_rfl, rfl⟩ L))
 ·intro n G
  intro v0_ hb0_
  obtain ⟨A, u, rfl, I⟩ := hb0_
  intro v2_ hb2_
  obtain ⟨rfl, _⟩ := hb2_
  intro R a6 N
  exact wA 24 [iv 0, iv 0, iv 0] 3 N I (aj.mem0 N) al fun d c ap a7 J ad => WN (oE (.slice d l.length c) ap ⟨d, c, rfl, J⟩ (Mem.takeOver ad))
 ·intro n G
  intro R a8 ae
  exact wL (E := encWaiter) ([] : List Waiter) 0 [] 142 ae fun B x aq a9 K af => WN (oE (.slice B ([] : List Waiter).length x) aq ⟨B, x, rfl, K⟩ (Mem.mid af))
 ·intro n G
  intro R aw ag
  exact MW 1 (WN (oE (pB m 1) [] ⟨by kernel_rfl, rfl⟩ ag))
 ·intro n G
  intro v5_ hb5_
  obtain ⟨rfl, _⟩ := hb5_
  intro R ax O
  exact wV (.slice z a.Waiting.length t) ax (eL false 1 1 (O.blk 0 rfl)) (WN (oE (.slice z a.Waiting.length t) [] ⟨by kernel_rfl, rfl⟩ O))
 intro n G
 intro v3_ hb3_
 obtain ⟨d, c, rfl, J⟩ := hb3_
 intro v4_ hb4_
 obtain ⟨B, x, rfl, K⟩ := hb4_
 intro v6_ hb6_
 obtain ⟨rfl, _⟩ := hb6_
 intro ay ah
 have P : Mem [] w ay [[(m, .cells ⟨[.slice y a.Slots.length q, .slice z a.Waiting.length t]⟩ 85 (0, 0))], [(H, .cells ⟨[.slice none 0 0, .slice none 0 0]⟩ 85 (0, 0))], (n 3), (n 4)] := ah
 obtain ⟨F, am, hm⟩ := gx_bind hm
 refine wA 16 [iv 0, iv 0] 3 P K (ak.mem0 P) am fun D C ar az an ai => wR 1 [(2, pB H 0), (11, .agg #[.slice d l.length c, .slice D F.length C])] az (wS true 2 0 (.agg #[.slice d l.length c, .slice D F.length C]) 1 [.slice d l.length c, .slice D F.length C] ai rfl fun ba Q => NC ?_)
 obtain rfl := HS hm
 exact N_ret [.agg #[.slice d l.length c, .slice D F.length C]] (RX true 2 0 (Q.blk 1 rfl) RVs_nil) (⟨d, c, (n 3), D, C, ar, rfl, J, an, Q.pk [2, 3]⟩)
theorem c_i_newInterface (w : World) (a : Interface) (B : Option Addr) (x : Nat) (an : rdS Gx.encI w a.Stack B x) (C : Option Addr) (y : Nat) (ao : rdS encSlot w a.Queue.Slots C y) (D : Option Addr) (z : Nat) (ap : rdS encWaiter w a.Queue.Waiting D z) {r : Interface} (hm : M.i_newInterface a = some r) :
  Calls Tryz.prog 135 #[.agg #[iv a.Mask, .slice B a.Stack.length x, .slice C a.Queue.Slots.length y, .slice D a.Queue.Waiting.length z]] w fun e w' => ∃ (Z : Option Addr) (W : Nat) (ac : Seg), ∃ (aa : Option Addr) (X : Nat) (ad : Seg), ∃ (ab : Option Addr) (Y : Nat) (ae : Seg), e = .returned (.agg #[iv r.Mask, .slice Z r.Stack.length W, .slice aa r.Queue.Slots.length X, .slice ab r.Queue.Waiting.length Y]) ∧ ownS Gx.encI r.Stack Z W ac ∧ ownS encSlot r.Queue.Slots aa X ad ∧ ownS encWaiter r.Queue.Waiting ab Y ae ∧ Mem [] w w' [ac, ad, ae] := by
 unfold M.i_newInterface at hm
 refine cE Tryz.func135 ?_
 have M0 := Mem.refl [] w
 refine QA (wN (.cells ⟨[iv a.Mask, .slice B a.Stack.length x, .slice C a.Queue.Slots.length y, .slice D a.Queue.Waiting.length z]⟩ 87 (0, 0)) M0 fun u a5 ah => wN (.cells ⟨[iv 0, .slice none 0 0, .slice none 0 0, .slice none 0 0]⟩ 87 (0, 0)) ah fun I a6 ai => NE ?_)
 obtain ⟨E, aq, hm⟩ := gx_bind hm
 obtain ⟨c, ar, hm⟩ := gx_bind hm
 refine G_sub [(0, .agg #[iv a.Mask, .slice B a.Stack.length x, .slice C a.Queue.Slots.length y, .slice D a.Queue.Waiting.length z]), (1, pB u 0), (2, pB I 0)] (by kernel_rfl) (G_dagL 8 [[], [0], [], [2], [3], [], [5], [6]] [[], [], [], [], [], [], [], []] [[], [], [], [], [], [], [], []] [[], [], [], [], [], [], [], []] [[], [], [], [], [], [], [], []] [[], [], [], [], [], [], [], []] (fun _ => []) (fun i => ([fun f v s => v = (pB u 0 : Value) ∧ s = [], fun f v s => v = (iv a.Mask : Value) ∧ s = [], fun f v s => v = (pB u 1 : Value) ∧ s = [], fun f v s => v = (.slice B a.Stack.length x : Value) ∧ s = [], fun f v s => ∃ (n : Option Addr) (d : Nat), v = (.slice n E.length d : Value) ∧ ownS Gx.encI E n d s, fun f v s => v = (pB u 2 : Value) ∧ s = [], fun f v s => v = (.agg #[.slice C a.Queue.Slots.length y, .slice D a.Queue.Waiting.length z] : Value) ∧ s = [], fun f v s => ∃ (q : Option Addr) (l : Nat) (F : Seg), ∃ (t : Option Addr) (m : Nat) (G : Seg), v = (.agg #[.slice q c.Slots.length l, .slice t c.Waiting.length m] : Value) ∧ s = (F ++ G) ∧ ownS encSlot c.Slots q l F ∧ ownS encWaiter c.Waiting t m G] : List ((Nat → Value) → Value → Seg → Prop)).getD i (fun _ _ _ => False)) (fun j f v => ∃ s, (fun i => ([fun f v s => v = (pB u 0 : Value) ∧ s = [], fun f v s => v = (iv a.Mask : Value) ∧ s = [], fun f v s => v = (pB u 1 : Value) ∧ s = [], fun f v s => v = (.slice B a.Stack.length x : Value) ∧ s = [], fun f v s => ∃ (n : Option Addr) (d : Nat), v = (.slice n E.length d : Value) ∧ ownS Gx.encI E n d s, fun f v s => v = (pB u 2 : Value) ∧ s = [], fun f v s => v = (.agg #[.slice C a.Queue.Slots.length y, .slice D a.Queue.Waiting.length z] : Value) ∧ s = [], fun f v s => ∃ (q : Option Addr) (l : Nat) (F : Seg), ∃ (t : Option Addr) (m : Nat) (G : Seg), v = (.agg #[.slice q c.Slots.length l, .slice t c.Waiting.length m] : Value) ∧ s = (F ++ G) ∧ ownS encSlot c.Slots q l F ∧ ownS encWaiter c.Waiting t m G] : List ((Nat → Value) → Value → Seg → Prop)).getD i (fun _ _ _ => False)) j f v s) [] [1, 4, 7] [4, 7] (fun _ _ _ s h => ⟨s, h⟩) (by kernel_rfl) (by kernel_rfl) (ai.preNil 8) (by kernel_rfl) (by kernel_rfl) (by kernel_rfl) (by kernel_rfl) (allOb_cons ?_ (allOb_cons ?_ (allOb_cons ?_ (allOb_cons ?_ (allOb_cons ?_ (allOb_cons ?_ (allOb_cons ?_ (allOb_cons ?_ allOb_nil)))))))) ?_)
 ·intro A H
  intro R av aj
  exact MW 1 (WN (oE (pB u 0) [] ⟨by kernel_rfl, rfl⟩ aj))
 ·intro A H
  intro v0_ hb0_
  obtain ⟨rfl, _⟩ := hb0_
  intro R aw Q
  exact wV (iv a.Mask) aw (eL false 1 0 (Q.blk 0 rfl)) (WN (oE (iv a.Mask) [] ⟨by kernel_rfl, rfl⟩ Q))
 ·intro A H
  intro R ax ak
  exact MW 1 (WN (oE (pB u 1) [] ⟨by kernel_rfl, rfl⟩ ak))
 ·intro A H
  intro v2_ hb2_
  obtain ⟨rfl, _⟩ := hb2_
  intro R ay S
  exact wV (.slice B a.Stack.length x) ay (eL false 1 1 (S.blk 0 rfl)) (WN (oE (.slice B a.Stack.length x) [] ⟨by kernel_rfl, rfl⟩ S))
 ·intro A H
  intro v3_ hb3_
  obtain ⟨rfl, _⟩ := hb3_
  intro R az T
  refine WC ((c_i_copyInts az a.Stack B x (an.mem0 T) aq).mono ?_)
  rintro e_ a7 ⟨n, d, au, rfl, L, af⟩
  refine ⟨_, rfl, ?_⟩
  exact WN (oE (.slice n E.length d) au ⟨n, d, rfl, L⟩ (Mem.callMid T af))
 ·intro A H
  intro R a0 al
  exact MW 1 (WN (oE (pB u 2) [] ⟨by kernel_rfl, rfl⟩ al))
 ·intro A H
  intro v5_ hb5_
  obtain ⟨rfl, _⟩ := hb5_
  intro R a3 U
  exact wV (.agg #[.slice C a.Queue.Slots.length y, .slice D a.Queue.Waiting.length z]) a3 (eL true 2 2 (U.blk 0 rfl)) (WN (oE (.agg #[.slice C a.Queue.Slots.length y, .slice D a.Queue.Waiting.length z]) [] ⟨by kernel_rfl, rfl⟩ U))
 ·intro A H
  intro v6_ hb6_
  obtain ⟨rfl, _⟩ := hb6_
  intro R a4 K
  refine WC ((c_i_newQueue a4 a.Queue C y (ao.mem0 K) D z (ap.mem0 K) ar).mono ?_)
  rintro e_ a8 ⟨q, l, F, t, m, G, rfl, N, O, ag⟩
  refine ⟨_, rfl, ?_⟩
  exact WN (oE (.agg #[.slice q c.Slots.length l, .slice t c.Waiting.length m]) (F ++ G) ⟨q, l, F, t, m, G, rfl, rfl, N, O⟩ (Mem.callMid K (ag.permF (by simp))))
 intro A H
 intro v1_ hb1_
 obtain ⟨rfl, _⟩ := hb1_
 intro v4_ hb4_
 obtain ⟨n, d, rfl, L⟩ := hb4_
 intro v7_ hb7_
 obtain ⟨q, l, F, t, m, G, rfl, hs7_, N, O⟩ := hb7_
 intro P am
 have J : Mem [] w P [[(u, .cells ⟨[iv a.Mask, .slice B a.Stack.length x, .slice C a.Queue.Slots.length y, .slice D a.Queue.Waiting.length z]⟩ 87 (0, 0))], [(I, .cells ⟨[iv 0, .slice none 0 0, .slice none 0 0, .slice none 0 0]⟩ 87 (0, 0))], (A 4), (A 7)] := am
 rw [hs7_] at J
 replace J : Mem [] w P [[(u, .cells ⟨[iv a.Mask, .slice B a.Stack.length x, .slice C a.Queue.Slots.length y, .slice D a.Queue.Waiting.length z]⟩ 87 (0, 0))], [(I, .cells ⟨[iv 0, .slice none 0 0, .slice none 0 0, .slice none 0 0]⟩ 87 (0, 0))], (A 4), F, G] := J.permF (by simp)
 refine wR 1 [(2, pB I 0), (11, .agg #[iv a.Mask, .slice n E.length d, .slice q c.Slots.length l, .slice t c.Waiting.length m])] P (wS true 4 0 (.agg #[iv a.Mask, .slice n E.length d, .slice q c.Slots.length l, .slice t c.Waiting.length m]) 1 [iv a.Mask, .slice n E.length d, .slice q c.Slots.length l, .slice t c.Waiting.length m] J rfl fun a9 V => NC ?_)
 obtain rfl := HS hm
 exact N_ret [.agg #[iv a.Mask, .slice n E.length d, .slice q c.Slots.length l, .slice t c.Waiting.length m]] (RX true 4 0 (V.blk 1 rfl) RVs_nil) (⟨n, d, (A 4), q, l, F, t, m, G, rfl, L, N, O, V.pk [2, 3, 4]⟩)
end Go.Proofs.YtllhajkgkghhdaaGreat
set_option linter.unusedVariables false
set_option maxRecDepth 100000
set_option maxHeartbeats 4000000
namespace Go.Proofs.YtllhajkgkghhdaaGreat
open Go.Gx
theorem c_i_newMachine (w : World) (l : Machine) (am : Option Addr) (ai : Nat) (dq : rdS encRoute w l.Routes am ai) (an : Option Addr) (aj : Nat) (dr : rdS Gx.encB w l.Enabled an aj) (ao : Option Addr) (ak : Nat) (ds : rdS Gx.encB w l.Raised ao ak) (O : Option Addr) (S : Nat) (dt : rdD deepInterface w l.Cpus O S) {r : Machine} (hm : M.i_newMachine l = some r) :
  Calls Tryz.prog 78 #[.agg #[.slice am l.Routes.length ai, .slice an l.Enabled.length aj, .slice ao l.Raised.length ak, .slice O l.Cpus.length S]] w fun e w' => ∃ (ch : Option Addr) (ca : Nat) (cl : Seg), ∃ (ci : Option Addr) (cb : Nat) (cm : Seg), ∃ (cj : Option Addr) (cc : Nat) (cn : Seg), ∃ (ck : Option Addr) (cd : Nat) (co : Seg) (cp : Seg), e = .returned (.agg #[.slice ch r.Routes.length ca, .slice ci r.Enabled.length cb, .slice cj r.Raised.length cc, .slice ck r.Cpus.length cd]) ∧ ownS encRoute r.Routes ch ca cl ∧ ownS Gx.encB r.Enabled ci cb cm ∧ ownS Gx.encB r.Raised cj cc cn ∧ ownD deepInterface r.Cpus ck cd co cp ∧ Mem [] w w' [cl, cm, cn, co, cp] := by
 unfold M.i_newMachine at hm
 refine cE Tryz.func78 ?_
 have M0 := Mem.refl [] w
 refine QA (wN (.cells ⟨[.slice am l.Routes.length ai, .slice an l.Enabled.length aj, .slice ao l.Raised.length ak, .slice O l.Cpus.length S]⟩ 32 (0, 0)) M0 fun J ex cv => wN (.cells ⟨[.slice none 0 0, .slice none 0 0, .slice none 0 0, .slice none 0 0]⟩ 32 (0, 0)) cv fun I ey cw => NE ?_)
 obtain ⟨C, dw, hm⟩ := gx_bind hm
 obtain ⟨F, dx, hm⟩ := gx_bind hm
 obtain ⟨G, dy, hm⟩ := gx_bind hm
 refine G_sub [(0, .agg #[.slice am l.Routes.length ai, .slice an l.Enabled.length aj, .slice ao l.Raised.length ak, .slice O l.Cpus.length S]), (1, pB J 0), (2, pB I 0)] (by kernel_rfl) (G_dagL 15 [[], [], [1], [0, 2], [], [], [5], [4, 6], [], [], [9], [8, 10], [], [], []] [[], [], [], [0], [], [], [], [4], [], [], [], [8], [], [], []] [[], [], [], [], [], [], [], [], [], [], [], [], [], [], []] [[], [], [], [], [], [], [], [], [], [], [], [], [], [3, 7, 11, 12], []] [[], [], [], [], [], [], [], [], [], [], [], [], [], [3, 7, 11, 12], []] [[], [], [], [], [], [], [], [], [], [], [], [], [], [], []] (fun _ => []) (fun i => ([fun f v s => ∃ (av : Option Addr) (ap : Nat), v = (.slice av ([] : List Route).length ap : Value) ∧ ownS encRoute ([] : List Route) av ap s, fun f v s => v = (pB J 0 : Value) ∧ s = [], fun f v s => v = (.slice am l.Routes.length ai : Value) ∧ s = [], fun f v s => ∃ (y : Option Addr) (t : Nat), v = (.slice y C.length t : Value) ∧ ownS encRoute C y t s, fun f v s => ∃ (aw : Option Addr) (aq : Nat), v = (.slice aw ([] : List Bool).length aq : Value) ∧ ownS Gx.encB ([] : List Bool) aw aq s, fun f v s => v = (pB J 1 : Value) ∧ s = [], fun f v s => v = (.slice an l.Enabled.length aj : Value) ∧ s = [], fun f v s => ∃ (z : Option Addr) (u : Nat), v = (.slice z F.length u : Value) ∧ ownS Gx.encB F z u s, fun f v s => ∃ (ax : Option Addr) (ar : Nat), v = (.slice ax ([] : List Bool).length ar : Value) ∧ ownS Gx.encB ([] : List Bool) ax ar s, fun f v s => v = (pB J 2 : Value) ∧ s = [], fun f v s => v = (.slice ao l.Raised.length ak : Value) ∧ s = [], fun f v s => ∃ (B : Option Addr) (x : Nat), v = (.slice B G.length x : Value) ∧ ownS Gx.encB G B x s, fun f v s => ∃ (L : Option Addr) (K : Nat) (af : Seg) (az : Seg), v = (.slice L ([] : List Interface).length K : Value) ∧ s = (af ++ az) ∧ ownD deepInterface ([] : List Interface) L K af az, fun f v s => v = (.agg #[(atPath (f 3) []), (atPath (f 7) []), (atPath (f 11) []), (atPath (f 12) [])] : Value) ∧ s = [], fun f v s => ∃ (q : Nat), v = (pB q 0 : Value) ∧ s = [(q, .cells ⟨[.slice none 0 0, .slice none 0 0, .slice none 0 0, .slice none 0 0]⟩ 32 (0, 0))]] : List ((Nat → Value) → Value → Seg → Prop)).getD i (fun _ _ _ => False)) (fun j f v => ∃ s, (fun i => ([fun f v s => ∃ (av : Option Addr) (ap : Nat), v = (.slice av ([] : List Route).length ap : Value) ∧ ownS encRoute ([] : List Route) av ap s, fun f v s => v = (pB J 0 : Value) ∧ s = [], fun f v s => v = (.slice am l.Routes.length ai : Value) ∧ s = [], fun f v s => ∃ (y : Option Addr) (t : Nat), v = (.slice y C.length t : Value) ∧ ownS encRoute C y t s, fun f v s => ∃ (aw : Option Addr) (aq : Nat), v = (.slice aw ([] : List Bool).length aq : Value) ∧ ownS Gx.encB ([] : List Bool) aw aq s, fun f v s => v = (pB J 1 : Value) ∧ s = [], fun f v s => v = (.slice an l.Enabled.length aj : Value) ∧ s = [], fun f v s => ∃ (z : Option Addr) (u : Nat), v = (.slice z F.length u : Value) ∧ ownS Gx.encB F z u s, fun f v s => ∃ (ax : Option Addr) (ar : Nat), v = (.slice ax ([] : List Bool).length ar : Value) ∧ ownS Gx.encB ([] : List Bool) ax ar s, fun f v s => v = (pB J 2 : Value) ∧ s = [], fun f v s => v = (.slice ao l.Raised.length ak : Value) ∧ s = [], fun f v s => ∃ (B : Option Addr) (x : Nat), v = (.slice B G.length x : Value) ∧ ownS Gx.encB G B x s, fun f v s => ∃ (L : Option Addr) (K : Nat) (af : Seg) (az : Seg), v = (.slice L ([] : List Interface).length K : Value) ∧ s = (af ++ az) ∧ ownD deepInterface ([] : List Interface) L K af az, fun f v s => v = (.agg #[(atPath (f 3) []), (atPath (f 7) []), (atPath (f 11) []), (atPath (f 12) [])] : Value) ∧ s = [], fun f v s => ∃ (q : Nat), v = (pB q 0 : Value) ∧ s = [(q, .cells ⟨[.slice none 0 0, .slice none 0 0, .slice none 0 0, .slice none 0 0]⟩ 32 (0, 0))]] : List ((Nat → Value) → Value → Seg → Prop)).getD i (fun _ _ _ => False)) j f v s) [] [3, 7, 11, 12, 13, 14] [3, 7, 11, 12, 14] (fun _ _ _ s h => ⟨s, h⟩) (by kernel_rfl) (by kernel_rfl) (cw.preNil 15) (by kernel_rfl) (by kernel_rfl) (by kernel_rfl) (by kernel_rfl) (allOb_cons ?_ (allOb_cons ?_ (allOb_cons ?_ (allOb_cons ?_ (allOb_cons ?_ (allOb_cons ?_ (allOb_cons ?_ (allOb_cons ?_ (allOb_cons ?_ (allOb_cons ?_ (allOb_cons ?_ (allOb_cons ?_ (allOb_cons ?_ (allOb_cons ?_ (allOb_cons ?_ allOb_nil))))))))))))))) ?_)
 ·intro m N
  intro R ez cx
  exact wL (E := encRoute) ([] : List Route) 0 [] 129 cx fun av ap ea e0 bj cy => WN (oE (.slice av ([] : List Route).length ap) ea ⟨av, ap, rfl, bj⟩ (Mem.mid cy))
 ·intro m N
  intro R eg cz
  exact MW 1 (WN (oE (pB J 0) [] ⟨by kernel_rfl, rfl⟩ cz))
 ·intro m N
  intro v1_ hb1_
  obtain ⟨rfl, _⟩ := hb1_
  intro R eh bz
  exact wV (.slice am l.Routes.length ai) eh (eL false 1 0 (bz.blk 0 rfl)) (WN (oE (.slice am l.Routes.length ai) [] ⟨by kernel_rfl, rfl⟩ bz))
 ·intro m N
  intro v0_ hb0_
  obtain ⟨av, ap, rfl, bj⟩ := hb0_
  intro v2_ hb2_
  obtain ⟨rfl, _⟩ := hb2_
  intro R e1 b0
  exact wA 16 [iv 0, iv 0] 3 b0 bj (dq.mem0 b0) dw fun y t eb e2 bk c0 => WN (oE (.slice y C.length t) eb ⟨y, t, rfl, bk⟩ (Mem.takeOver c0))
 ·intro m N
  intro R e3 c1
  exact wL (E := Gx.encB) ([] : List Bool) 0 [] 4 c1 fun aw aq ec e4 bl c2 => WN (oE (.slice aw ([] : List Bool).length aq) ec ⟨aw, aq, rfl, bl⟩ (Mem.mid c2))
 ·intro m N
  intro R ei c3
  exact MW 1 (WN (oE (pB J 1) [] ⟨by kernel_rfl, rfl⟩ c3))
 ·intro m N
  intro v5_ hb5_
  obtain ⟨rfl, _⟩ := hb5_
  intro R ej b1
  exact wV (.slice an l.Enabled.length aj) ej (eL false 1 1 (b1.blk 0 rfl)) (WN (oE (.slice an l.Enabled.length aj) [] ⟨by kernel_rfl, rfl⟩ b1))
 ·intro m N
  intro v4_ hb4_
  obtain ⟨aw, aq, rfl, bl⟩ := hb4_
  intro v6_ hb6_
  obtain ⟨rfl, _⟩ := hb6_
  intro R e5 b2
  exact wA 1 [.bool false] 3 b2 bl (dr.mem0 b2) dx fun z u ed e6 bm c4 => WN (oE (.slice z F.length u) ed ⟨z, u, rfl, bm⟩ (Mem.takeOver c4))
 ·intro m N
  intro R e7 c5
  exact wL (E := Gx.encB) ([] : List Bool) 0 [] 4 c5 fun ax ar ee e8 bn c6 => WN (oE (.slice ax ([] : List Bool).length ar) ee ⟨ax, ar, rfl, bn⟩ (Mem.mid c6))
 ·intro m N
  intro R ek c7
  exact MW 1 (WN (oE (pB J 2) [] ⟨by kernel_rfl, rfl⟩ c7))
 ·intro m N
  intro v9_ hb9_
  obtain ⟨rfl, _⟩ := hb9_
  intro R el b3
  exact wV (.slice ao l.Raised.length ak) el (eL false 1 2 (b3.blk 0 rfl)) (WN (oE (.slice ao l.Raised.length ak) [] ⟨by kernel_rfl, rfl⟩ b3))
 ·intro m N
  intro v8_ hb8_
  obtain ⟨ax, ar, rfl, bn⟩ := hb8_
  intro v10_ hb10_
  obtain ⟨rfl, _⟩ := hb10_
  intro R e9 b4
  exact wA 1 [.bool false] 3 b4 bn (ds.mem0 b4) dy fun B x ef fa bo c8 => WN (oE (.slice B G.length x) ef ⟨B, x, rfl, bo⟩ (Mem.takeOver c8))
 ·intro m N
  intro R fb c9
  exact W_litD (D := deepInterface) (s1 := []) [] ([] : List Interface) rfl 0 [] 87 c9 (by kernel_rfl) (by kernel_rfl) (by kernel_rfl) (by kernel_rfl) (by kernel_rfl) ownI_nil fun L K af fc bp da => WN (oE (.slice L ([] : List Interface).length K) (af ++ []) ⟨L, K, af, [], rfl, rfl, bp⟩ (Mem.mid (by rw [List.append_nil]; exact da)))
 ·intro m N
  intro v3_ hb3_
  obtain ⟨_, y, t, rfl, _⟩ := hb3_
  intro v7_ hb7_
  obtain ⟨_, z, u, rfl, _⟩ := hb7_
  intro v11_ hb11_
  obtain ⟨_, B, x, rfl, _⟩ := hb11_
  intro v12_ hb12_
  obtain ⟨_, L, K, _, _, rfl, _⟩ := hb12_
  intro R em db
  exact MW 1 (WN (oE (.agg #[.slice y C.length t, .slice z F.length u, .slice B G.length x, .slice L ([] : List Interface).length K]) [] ⟨by kernel_rfl, rfl⟩ db))
 ·intro m N
  intro R fd dc
  exact wN (.cells ⟨[.slice none 0 0, .slice none 0 0, .slice none 0 0, .slice none 0 0]⟩ 32 (0, 0)) dc fun q fe dd => WN (oE (pB q 0) [(q, .cells ⟨[.slice none 0 0, .slice none 0 0, .slice none 0 0, .slice none 0 0]⟩ 32 (0, 0))] ⟨q, rfl, rfl⟩ (Mem.mid dd))
 intro m N
 intro v3_ hb3_
 obtain ⟨y, t, rfl, bk⟩ := hb3_
 intro v7_ hb7_
 obtain ⟨z, u, rfl, bm⟩ := hb7_
 intro v11_ hb11_
 obtain ⟨B, x, rfl, bo⟩ := hb11_
 intro v12_ hb12_
 obtain ⟨L, K, af, az, rfl, hs12_, bp⟩ := hb12_
 intro v13_ hb13_
 obtain ⟨hv13_, _⟩ := hb13_
 obtain rfl : v13_ = (.agg #[.slice y C.length t, .slice z F.length u, .slice B G.length x, .slice L ([] : List Interface).length K] : Value) := hv13_.trans (by kernel_rfl)
 intro v14_ hb14_
 obtain ⟨q, rfl, hs14_⟩ := hb14_
 intro cq de
 have a5 : Mem [] w cq [[(J, .cells ⟨[.slice am l.Routes.length ai, .slice an l.Enabled.length aj, .slice ao l.Raised.length ak, .slice O l.Cpus.length S]⟩ 32 (0, 0))], [(I, .cells ⟨[.slice none 0 0, .slice none 0 0, .slice none 0 0, .slice none 0 0]⟩ 32 (0, 0))], (m 3), (m 7), (m 11), (m 12), (m 14)] := de
 rw [hs12_] at a5
 rw [hs14_] at a5
 replace a5 : Mem [] w cq [[(J, .cells ⟨[.slice am l.Routes.length ai, .slice an l.Enabled.length aj, .slice ao l.Raised.length ak, .slice O l.Cpus.length S]⟩ 32 (0, 0))], [(I, .cells ⟨[.slice none 0 0, .slice none 0 0, .slice none 0 0, .slice none 0 0]⟩ 32 (0, 0))], (m 3), (m 7), (m 11), af, az, [(q, .cells ⟨[.slice none 0 0, .slice none 0 0, .slice none 0 0, .slice none 0 0]⟩ 32 (0, 0))]] := a5.permF (by simp)
 refine wS true 4 0 (.agg #[.slice y C.length t, .slice z F.length u, .slice B G.length x, .slice L ([] : List Interface).length K]) 7 [.slice y C.length t, .slice z F.length u, .slice B G.length x, .slice L ([] : List Interface).length K] a5 rfl fun bv b5 => NB (MW 1 (wV (.slice O l.Cpus.length S) bv (eL false 1 3 (b5.blk 0 rfl)) (wR 2 [(2, pB I 0), (3, pB q 0), (21, .slice O l.Cpus.length S), (22, iv (l.Cpus.length : Int)), (23, iv 0)] bv (NO ?_))))
 obtain ⟨au, d7, d1⟩ := gx_bind hm
 refine G_meet (fun a w' => ∃ (ab : Option Addr), ∃ (X : Nat), ∃ (be : Seg), ∃ (bf : Seg), ownD deepInterface au ab X be bf ∧ Mem [] w w' [[(I, .cells ⟨[.slice none 0 0, .slice none 0 0, .slice none 0 0, .slice none 0 0]⟩ 32 (0, 0))], (m 3), (m 7), (m 11), [(q, .cells ⟨[.slice y C.length t, .slice z F.length u, .slice B G.length x, .slice ab au.length X]⟩ 32 (0, 0))], be, bf] ∧ Sat Tryz.f78.ntmps [(2, pB I 0), (3, pB q 0)] a) ?_ ?_
 ·refine GB (G_while (σ := Int × List Interface) (ρ := List Interface) (fun H a w' => ∃ (Q : Option Addr), ∃ (P : Nat), ∃ (a0 : Seg), ∃ (ag : Seg), ownD deepInterface H.2 Q P a0 ag ∧ Mem [] w w' [[(I, .cells ⟨[.slice none 0 0, .slice none 0 0, .slice none 0 0, .slice none 0 0]⟩ 32 (0, 0))], (m 3), (m 7), (m 11), [(q, .cells ⟨[.slice y C.length t, .slice z F.length u, .slice B G.length x, .slice Q H.2.length P]⟩ 32 (0, 0))], a0, ag] ∧ Sat Tryz.f78.ntmps [(2, pB I 0), (3, pB q 0), (21, .slice O l.Cpus.length S), (22, iv (l.Cpus.length : Int)), (23, iv H.1)] a) d7 (fun a ha => ⟨L, K, af, az, bp, b5.pk [1, 2, 3, 4, 7, 5, 6], ha.s⟩) ?_)
  clear hm
  intro H fk hm d4 ev bw ⟨Q, P, a0, ag, ce, a9, du⟩
  refine G_use du (QA (wR 1 [(2, pB I 0), (3, pB q 0), (21, .slice O l.Cpus.length S), (22, iv (l.Cpus.length : Int)), (23, iv H.1), (24, .bool (decide (H.1 < (l.Cpus.length : Int))))] bw (NE ?_)))
  rcases gx_bif hm with ⟨bh, hm⟩ | ⟨bh, hm⟩
  ·refine gT bh (KD ?_)
   obtain ⟨d, d8, hm⟩ := gx_bind hm
   obtain ⟨fl, cg, cf, bi⟩ := id dt
   obtain ⟨c, a8⟩ := gxIdx_fst cg d8
   refine wV (elemP O (H.1.toNat * 4)) bw (eI (cf.mem0 a9) (len_fst cg) a8) (wV (.agg #[iv d.Mask, .slice ((c 0).1) d.Stack.length ((c 0).2), .slice ((c 1).1) d.Queue.Slots.length ((c 1).2), .slice ((c 2).1) d.Queue.Waiting.length ((c 2).2)]) bw (eE true 4 0 (H.1.toNat * 4) (cf.mem0 a9) a8) (wN (.cells ⟨[iv 0, .slice none 0 0, .slice none 0 0, .slice none 0 0]⟩ 87 (0, 0)) a9 fun a3 ff df => wS true 4 0 (.agg #[iv d.Mask, .slice ((c 0).1) d.Stack.length ((c 0).2), .slice ((c 1).1) d.Queue.Slots.length ((c 1).2), .slice ((c 2).1) d.Queue.Waiting.length ((c 2).2)]) 7 [iv d.Mask, .slice ((c 0).1) d.Stack.length ((c 0).2), .slice ((c 1).1) d.Queue.Slots.length ((c 1).2), .slice ((c 2).1) d.Queue.Waiting.length ((c 2).2)] df rfl fun fg dg => NO ?_))
   obtain ⟨n, d5, hm⟩ := gx_bind hm
   refine G_sub [(2, pB I 0), (3, pB q 0), (5, pB a3 0), (21, .slice O l.Cpus.length S), (22, iv (l.Cpus.length : Int)), (23, iv H.1), (24, .bool (decide (H.1 < (l.Cpus.length : Int)))), (25, elemP O (H.1.toNat * 4)), (26, .agg #[iv d.Mask, .slice ((c 0).1) d.Stack.length ((c 0).2), .slice ((c 1).1) d.Queue.Slots.length ((c 1).2), .slice ((c 2).1) d.Queue.Waiting.length ((c 2).2)])] (by kernel_rfl) (G_dagL 5 [[], [0], [], [2], [3]] [[], [], [], [], [3]] [[], [], [], [], []] [[], [], [], [], []] [[], [], [], [], []] [[], [], [], [], []] (fun _ => []) (fun i => ([fun f v s => v = (pB q 3 : Value) ∧ s = [], fun f v s => v = (.slice Q H.2.length P : Value) ∧ s = [], fun f v s => v = (.agg #[iv d.Mask, .slice ((c 0).1) d.Stack.length ((c 0).2), .slice ((c 1).1) d.Queue.Slots.length ((c 1).2), .slice ((c 2).1) d.Queue.Waiting.length ((c 2).2)] : Value) ∧ s = [], fun f v s => ∃ (ac : Option Addr) (Y : Nat) (T : Seg), ∃ (ad : Option Addr) (Z : Nat) (U : Seg), ∃ (ae : Option Addr) (aa : Nat) (V : Seg), v = (.agg #[iv n.Mask, .slice ac n.Stack.length Y, .slice ad n.Queue.Slots.length Z, .slice ae n.Queue.Waiting.length aa] : Value) ∧ s = (T ++ (U ++ V)) ∧ ownS Gx.encI n.Stack ac Y T ∧ ownS encSlot n.Queue.Slots ad Z U ∧ ownS encWaiter n.Queue.Waiting ae aa V, fun f v s => ∃ (ay : Option Addr) (al : Nat) (W : Seg) (ah : Seg), v = (.slice ay [n].length al : Value) ∧ s = (W ++ ah) ∧ ownD deepInterface [n] ay al W ah] : List ((Nat → Value) → Value → Seg → Prop)).getD i (fun _ _ _ => False)) (fun j f v => ∃ s, (fun i => ([fun f v s => v = (pB q 3 : Value) ∧ s = [], fun f v s => v = (.slice Q H.2.length P : Value) ∧ s = [], fun f v s => v = (.agg #[iv d.Mask, .slice ((c 0).1) d.Stack.length ((c 0).2), .slice ((c 1).1) d.Queue.Slots.length ((c 1).2), .slice ((c 2).1) d.Queue.Waiting.length ((c 2).2)] : Value) ∧ s = [], fun f v s => ∃ (ac : Option Addr) (Y : Nat) (T : Seg), ∃ (ad : Option Addr) (Z : Nat) (U : Seg), ∃ (ae : Option Addr) (aa : Nat) (V : Seg), v = (.agg #[iv n.Mask, .slice ac n.Stack.length Y, .slice ad n.Queue.Slots.length Z, .slice ae n.Queue.Waiting.length aa] : Value) ∧ s = (T ++ (U ++ V)) ∧ ownS Gx.encI n.Stack ac Y T ∧ ownS encSlot n.Queue.Slots ad Z U ∧ ownS encWaiter n.Queue.Waiting ae aa V, fun f v s => ∃ (ay : Option Addr) (al : Nat) (W : Seg) (ah : Seg), v = (.slice ay [n].length al : Value) ∧ s = (W ++ ah) ∧ ownD deepInterface [n] ay al W ah] : List ((Nat → Value) → Value → Seg → Prop)).getD i (fun _ _ _ => False)) j f v s) [] [1, 4] [4] (fun _ _ _ s h => ⟨s, h⟩) (by kernel_rfl) (by kernel_rfl) (dg.preNil 5) (by kernel_rfl) (by kernel_rfl) (by kernel_rfl) (by kernel_rfl) (allOb_cons ?_ (allOb_cons ?_ (allOb_cons ?_ (allOb_cons ?_ (allOb_cons ?_ allOb_nil))))) ?_)
   ·intro a4 a7
    intro R en dh
    exact MW 1 (WN (oE (pB q 3) [] ⟨by kernel_rfl, rfl⟩ dh))
   ·intro a4 a7
    intro v0_ hb0_
    obtain ⟨rfl, _⟩ := hb0_
    intro R eo b6
    exact wV (.slice Q H.2.length P) eo (eL false 1 3 (b6.blk 4 rfl)) (WN (oE (.slice Q H.2.length P) [] ⟨by kernel_rfl, rfl⟩ b6))
   ·intro a4 a7
    intro R ep b7
    exact wV (.agg #[iv d.Mask, .slice ((c 0).1) d.Stack.length ((c 0).2), .slice ((c 1).1) d.Queue.Slots.length ((c 1).2), .slice ((c 2).1) d.Queue.Waiting.length ((c 2).2)]) ep (eL true 4 0 (b7.blk 7 rfl)) (WN (oE (.agg #[iv d.Mask, .slice ((c 0).1) d.Stack.length ((c 0).2), .slice ((c 1).1) d.Queue.Slots.length ((c 1).2), .slice ((c 2).1) d.Queue.Waiting.length ((c 2).2)]) [] ⟨by kernel_rfl, rfl⟩ b7))
   ·intro a4 a7
    intro v2_ hb2_
    obtain ⟨rfl, _⟩ := hb2_
    intro R er ba
    refine WC ((c_i_newInterface er d ((c 0).1) ((c 0).2) ((bi.mem0 ba).at_ a8 0 ⟨Int, Gx.encI, d.Stack, (c 0).1, (c 0).2⟩ (by kernel_rfl)) ((c 1).1) ((c 1).2) ((bi.mem0 ba).at_ a8 1 ⟨Slot, encSlot, d.Queue.Slots, (c 1).1, (c 1).2⟩ (by kernel_rfl)) ((c 2).1) ((c 2).2) ((bi.mem0 ba).at_ a8 2 ⟨Waiter, encWaiter, d.Queue.Waiting, (c 2).1, (c 2).2⟩ (by kernel_rfl)) d5).mono ?_)
    rintro e_ fh ⟨ac, Y, T, ad, Z, U, ae, aa, V, rfl, bq, br, bs, cu⟩
    refine ⟨_, rfl, ?_⟩
    exact WN (oE (.agg #[iv n.Mask, .slice ac n.Stack.length Y, .slice ad n.Queue.Slots.length Z, .slice ae n.Queue.Waiting.length aa]) (T ++ (U ++ V)) ⟨ac, Y, T, ad, Z, U, ae, aa, V, rfl, rfl, bq, br, bs⟩ (Mem.callMid ba (cu.permF (by simp))))
   ·intro a4 a7
    intro v3_ hb3_
    obtain ⟨ac, Y, T, ad, Z, U, ae, aa, V, rfl, hs3_, bq, br, bs⟩ := hb3_
    intro R cr di
    have bb : Mem [] w cr ([[(I, .cells ⟨[.slice none 0 0, .slice none 0 0, .slice none 0 0, .slice none 0 0]⟩ 32 (0, 0))], (m 3), (m 7), (m 11), [(q, .cells ⟨[.slice y C.length t, .slice z F.length u, .slice B G.length x, .slice Q H.2.length P]⟩ 32 (0, 0))], a0, ag, [(a3, .cells ⟨[iv d.Mask, .slice ((c 0).1) d.Stack.length ((c 0).2), .slice ((c 1).1) d.Queue.Slots.length ((c 1).2), .slice ((c 2).1) d.Queue.Waiting.length ((c 2).2)]⟩ 87 (0, 0))]] ++ ([[]] ++ ([(a4 3)] ++ ([] ++ R)))) := di
    rw [hs3_] at bb
    replace bb : Mem [] w cr ([[(I, .cells ⟨[.slice none 0 0, .slice none 0 0, .slice none 0 0, .slice none 0 0]⟩ 32 (0, 0))], (m 3), (m 7), (m 11), [(q, .cells ⟨[.slice y C.length t, .slice z F.length u, .slice B G.length x, .slice Q H.2.length P]⟩ 32 (0, 0))], a0, ag, [(a3, .cells ⟨[iv d.Mask, .slice ((c 0).1) d.Stack.length ((c 0).2), .slice ((c 1).1) d.Queue.Slots.length ((c 1).2), .slice ((c 2).1) d.Queue.Waiting.length ((c 2).2)]⟩ 87 (0, 0))]] ++ ([[]] ++ ([T, U, V] ++ ([] ++ R)))) := bb.permF (by simp)
    exact W_litD (D := deepInterface) [(n, plOf [(ac, Y), (ad, Z), (ae, aa)])] [n] rfl 1 [iv n.Mask, .slice ac n.Stack.length Y, .slice ad n.Queue.Slots.length Z, .slice ae n.Queue.Waiting.length aa] 87 bb (by kernel_rfl) (by kernel_rfl) (by kernel_rfl) (by kernel_rfl) (by kernel_rfl) (ownI_cons (i := ⟨Int, Gx.encI, _, _, _⟩) bq (ownI_cons (i := ⟨Slot, encSlot, _, _, _⟩) br (ownI_cons (i := ⟨Waiter, encWaiter, _, _, _⟩) bs ownI_nil))) fun ay al W fi bt dj => WN (oE (.slice ay [n].length al) (W ++ (T ++ (U ++ (V ++ [])))) ⟨ay, al, W, (T ++ (U ++ (V ++ []))), rfl, rfl, bt⟩ (Mem.midJ (A := [T, U, V]) dj))
   intro a4 a7
   intro v1_ hb1_
   obtain ⟨rfl, _⟩ := hb1_
   intro v4_ hb4_
   obtain ⟨ay, al, W, ah, rfl, hs4_, bt⟩ := hb4_
   intro ct dk
   have a6 : Mem [] w ct [[(I, .cells ⟨[.slice none 0 0, .slice none 0 0, .slice none 0 0, .slice none 0 0]⟩ 32 (0, 0))], (m 3), (m 7), (m 11), [(q, .cells ⟨[.slice y C.length t, .slice z F.length u, .slice B G.length x, .slice Q H.2.length P]⟩ 32 (0, 0))], a0, ag, [(a3, .cells ⟨[iv d.Mask, .slice ((c 0).1) d.Stack.length ((c 0).2), .slice ((c 1).1) d.Queue.Slots.length ((c 1).2), .slice ((c 2).1) d.Queue.Waiting.length ((c 2).2)]⟩ 87 (0, 0))], (a4 4)] := dk
   rw [hs4_] at a6
   replace a6 : Mem [] w ct [[(I, .cells ⟨[.slice none 0 0, .slice none 0 0, .slice none 0 0, .slice none 0 0]⟩ 32 (0, 0))], (m 3), (m 7), (m 11), [(q, .cells ⟨[.slice y C.length t, .slice z F.length u, .slice B G.length x, .slice Q H.2.length P]⟩ 32 (0, 0))], a0, ag, [(a3, .cells ⟨[iv d.Mask, .slice ((c 0).1) d.Stack.length ((c 0).2), .slice ((c 1).1) d.Queue.Slots.length ((c 1).2), .slice ((c 2).1) d.Queue.Waiting.length ((c 2).2)]⟩ 87 (0, 0))], W, ah] := a6.permF (by simp)
   obtain ⟨bg, dz, hm⟩ := gx_bind hm
   obtain ⟨eu, d9, d6, d0⟩ := id bt
   refine W_appendD (D := deepInterface) (us := eu) (s2 := ah) _ _ _ 80 [iv 0, .slice none 0 0, .slice none 0 0, .slice none 0 0] 5 al a6 ce (by kernel_rfl) (by kernel_rfl) (by kernel_rfl) rfl (by kernel_rfl) (by kernel_rfl) (by kernel_rfl) (by kernel_rfl) (by kernel_rfl) (by kernel_rfl) (d6.r a6 8) d9 d0 dz ?_
   intro bd bc bu bx d3 dl
   have dm : Mem [] w bx [[(I, .cells ⟨[.slice none 0 0, .slice none 0 0, .slice none 0 0, .slice none 0 0]⟩ 32 (0, 0))], (m 3), (m 7), (m 11), [(q, .cells ⟨[.slice y C.length t, .slice z F.length u, .slice B G.length x, .slice Q H.2.length P]⟩ 32 (0, 0))], bu, [(a3, .cells ⟨[iv d.Mask, .slice ((c 0).1) d.Stack.length ((c 0).2), .slice ((c 1).1) d.Queue.Slots.length ((c 1).2), .slice ((c 2).1) d.Queue.Waiting.length ((c 2).2)]⟩ 87 (0, 0))], W, ag, ah] := dl.pk [0, 1, 2, 3, 4, 5, 7, 8, 6, 9]
   have dn : Mem [] w bx [[(I, .cells ⟨[.slice none 0 0, .slice none 0 0, .slice none 0 0, .slice none 0 0]⟩ 32 (0, 0))], (m 3), (m 7), (m 11), [(q, .cells ⟨[.slice y C.length t, .slice z F.length u, .slice B G.length x, .slice Q H.2.length P]⟩ 32 (0, 0))], bu, [(a3, .cells ⟨[iv d.Mask, .slice ((c 0).1) d.Stack.length ((c 0).2), .slice ((c 1).1) d.Queue.Slots.length ((c 1).2), .slice ((c 2).1) d.Queue.Waiting.length ((c 2).2)]⟩ 87 (0, 0))], W, (ag ++ ah)] := dm.regroup (by simp)
   refine wR 1 [(2, pB I 0), (3, pB q 0), (21, .slice O l.Cpus.length S), (22, iv (l.Cpus.length : Int)), (23, iv H.1), (32, .slice bd bg.length bc), (33, pB q 3)] bx (wS false 1 3 (.slice bd bg.length bc) 4 [.slice y C.length t, .slice z F.length u, .slice B G.length x, .slice bd bg.length bc] dn rfl fun es dp => NG (wR 2 [(2, pB I 0), (3, pB q 0), (21, .slice O l.Cpus.length S), (22, iv (l.Cpus.length : Int)), (23, iv (w64 (H.1 + 1)))] es (WN ?_)))
   cases hm
   exact N_loop fun a ha => ⟨_, rfl, bd, bc, bu, (ag ++ ah), d3, dp.pk [0, 1, 2, 3, 4, 5, 8], ha.s⟩
  refine gF bh (XA ?_)
  obtain rfl := HS hm
  obtain rfl := d4 _ rfl
  exact N_meet fun a ha => ⟨Q, P, a0, ag, ce, a9.pk [0, 1, 2, 3, 4, 5, 6], ha.s⟩
 intro ew et ⟨ab, X, be, bf, d2, b8, dv⟩
 refine N_use dv ?_
 have hm := d1
 refine NF (wV (.agg #[.slice y C.length t, .slice z F.length u, .slice B G.length x, .slice ab au.length X]) et (eL true 4 0 (b8.blk 4 rfl)) (wS true 4 0 (.agg #[.slice y C.length t, .slice z F.length u, .slice B G.length x, .slice ab au.length X]) 0 [.slice y C.length t, .slice z F.length u, .slice B G.length x, .slice ab au.length X] b8 rfl fun fj b9 => NC ?_))
 obtain rfl := HS hm
 exact N_ret [.agg #[.slice y C.length t, .slice z F.length u, .slice B G.length x, .slice ab au.length X]] (RX true 4 0 (b9.blk 0 rfl) RVs_nil) (⟨y, t, (m 3), z, u, (m 7), B, x, (m 11), ab, X, be, bf, rfl, bk, bm, bo, d2, b9.pk [1, 2, 3, 5, 6]⟩)
theorem c_slices_Index_178 (w : World) (b : List Int) (d : Option Addr) (g : Nat) (l : rdS Gx.encI w b d g) (f : Int) {r : Int} (hm : M.slices_Index_178 b f = some r) :
  Calls Tryz.prog 178 #[.slice d b.length g, iv f] w fun e w' => e = .returned (iv r) ∧ Mem [] w w' [] := by
 unfold M.slices_Index_178 at hm
 refine cE Tryz.func178 ?_
 have M0 := Mem.refl [] w
 refine QA (MW 1 (NB (wR 3 [(0, .slice d b.length g), (1, iv f), (7, iv (b.length : Int)), (8, iv 0)] w (NO ?_))))
 obtain ⟨z, y, m⟩ := gx_bind hm
 refine G_meet (fun a w' => ∃ (q : Unit), z = .inl q ∧ Mem [] w w' [] ∧ Sat Tryz.f178.ntmps [] a) ?_ ?_
 ·refine GB (G_while (σ := Int) (ρ := (Unit) ⊕ (Int)) (fun c a w' => Mem [] w w' [] ∧ Sat Tryz.f178.ntmps [(0, .slice d b.length g), (1, iv f), (7, iv (b.length : Int)), (8, iv c)] a) y (fun a ha => ⟨M0.pk [], ha.s⟩) ?_)
  clear hm
  intro c D hm n B h ⟨i, v⟩
  refine G_use v (QA (wR 1 [(0, .slice d b.length g), (1, iv f), (7, iv (b.length : Int)), (8, iv c), (9, .bool (decide (c < (b.length : Int))))] h (NE ?_)))
  rcases gx_bif hm with ⟨j, hm⟩ | ⟨j, hm⟩
  ·refine gT j (KD (MW 2 (NA (wR 3 [(0, .slice d b.length g), (1, iv f), (5, iv c), (7, iv (b.length : Int)), (8, iv c), (11, iv f), (12, .slice d b.length g), (13, iv c)] h ?_))))
   obtain ⟨t, o, hm⟩ := gx_bind hm
   refine wV (elemP d (c.toNat * 1)) h (eI (l.mem0 i) rfl o) (wV (iv t) h (eE false 1 0 (c.toNat * 1) (l.mem0 i) o) (wR 1 [(0, .slice d b.length g), (1, iv f), (5, iv c), (7, iv (b.length : Int)), (8, iv c), (16, .bool (f == t))] h (NO ?_)))
   rcases gx_bif hm with ⟨k, hm⟩ | ⟨k, hm⟩
   ·refine gT k (QA (wR 2 [(4, iv c)] h (NX ?_)))
    obtain rfl := HS hm
    obtain rfl := n _ rfl
    have hm := m; simp only [Sum.elim_inr] at hm
    refine BR (N_meet_ret (TR ?_))
    obtain rfl := HS hm
    exact RA [iv c] (⟨rfl, i.pk []⟩)
   refine gF k (KC (wR 2 [(0, .slice d b.length g), (1, iv f), (7, iv (b.length : Int)), (8, iv (w64 (c + 1)))] h (WN ?_)))
   cases hm
   exact N_loop fun a ha => ⟨_, rfl, i.pk [], ha.s⟩
  refine gF j (XA ?_)
  obtain rfl := HS hm
  obtain rfl := n _ rfl
  exact N_meet fun a ha => ⟨_, rfl, i.pk [], ha.s⟩
 intro C A ⟨q, hout_, u, x⟩
 refine N_use x ?_
 subst hout_
 have hm := m; simp only [Sum.elim_inl] at hm
 refine NF (wR 1 [(4, iv (-1))] A (NC ?_))
 cases hm
 exact RA [iv (-1)] (⟨rfl, u.pk []⟩)
theorem c_slices_Contains_136 (w : World) (a : List Int) (c : Option Addr) (b : Nat) (i : rdS Gx.encI w a c b) (d : Int) {r : Bool} (hm : M.slices_Contains_136 a d = some r) :
  Calls Tryz.prog 136 #[.slice c a.length b, iv d] w fun e w' => e = .returned (.bool r) ∧ Mem [] w w' [] := by
 unfold M.slices_Contains_136 at hm
 refine cE Tryz.func136 ?_
 have M0 := Mem.refl [] w
 refine QA (MW 1 (NA (wR 2 [(5, .slice c a.length b), (6, iv d)] w ?_)))
 obtain ⟨f, j, hm⟩ := gx_bind hm
 refine WD (c_slices_Index_178 w a c b (i.mem0 M0) d j) M0 fun k h => wR 2 [(4, .bool (decide (f ≥ 0)))] k (NC ?_)
 cases hm
 exact RA [.bool (decide (f ≥ 0))] (⟨rfl, h.pk []⟩)
theorem c_i_withSlot (w : World) (g : List Slot) (j : Option Addr) (i : Nat) (z : rdS encSlot w g j i) (b : Int) (a : Slot) {r : (List Slot)} (hm : M.i_withSlot g b a = some r) :
  Calls Tryz.prog 230 #[.slice j g.length i, iv b, .agg #[iv a.State, iv a.Irq, iv a.Priority]] w fun e w' => ∃ (t : Option Addr) (n : Nat) (u : Seg), e = .returned (.slice t r.length n) ∧ ownS encSlot r t n u ∧ Mem [] w w' [u] := by
 unfold M.i_withSlot at hm
 refine cE Tryz.func230 ?_
 have M0 := Mem.refl [] w
 refine QA (wN (.cells ⟨[iv a.State, iv a.Irq, iv a.Priority]⟩ 117 (0, 0)) M0 fun h G v => wR 1 [(0, .slice j g.length i), (1, iv b), (5, pB h 0)] G (NA (wL (E := encSlot) ([] : List Slot) 0 [] 117 v fun D y K H B m => wR 1 [(1, iv b), (5, pB h 0), (8, .slice D ([] : List Slot).length y), (9, .slice j g.length i)] H ?_)))
 obtain ⟨c, A, hm⟩ := gx_bind hm
 refine wA 24 [iv 0, iv 0, iv 0] 1 m B (z.mem0 m) A fun d f L k o l => MW 1 (NA (wR 2 [(5, pB h 0), (7, .slice d c.length f), (11, .slice d c.length f), (12, iv b)] k (wV (.agg #[iv a.State, iv a.Irq, iv a.Priority]) k (eL true 3 0 (l.blk 0 rfl)) ?_)))
 obtain ⟨J, q, hm⟩ := gx_bind hm
 refine wV (elemP d (b.toNat * 3)) k (eI (o.r l 1) rfl q) (wE true 3 b.toNat 0 (b.toNat * 3) J a (.agg #[iv a.State, iv a.Irq, iv a.Priority]) 1 l o (gxIdx_spec q).2 fun I F C x => LX 7 d f c b.toNat a (LX 11 d f c b.toNat a (NA (wR 2 [(6, .slice d (c.set b.toNat a).length f)] I (NC ?_)))))
 cases hm
 exact RA [.slice d (c.set b.toNat a).length f] (⟨d, f, F, rfl, C, x.pk [1]⟩)
theorem c_i_putIrq (w : World) (c : List Slot) (b : Option Addr) (d : Nat) (l : rdS encSlot w c b d) (g : Int) (i : Int) {r : (List Slot) × Bool} (hm : M.i_putIrq c g i = some r) :
  Calls Tryz.prog 228 #[.slice b c.length d, iv g, iv i] w fun e w' => ∃ (I : Option Addr) (G : Nat) (L : Seg), e = .returned (.tuple #[.slice I r.1.length G, .bool r.2]) ∧ ownS encSlot r.1 I G L ∧ Mem [] w w' [L] := by
 unfold M.i_putIrq at hm
 refine cE Tryz.func228 ?_
 have M0 := Mem.refl [] w
 refine QA (MW 2 (NB (wR 2 [(0, .slice b c.length d), (1, iv g), (2, iv i), (11, .slice b c.length d), (12, iv g)] w ?_)))
 obtain ⟨h, aa, hm⟩ := gx_bind hm
 refine WD (c_i_findSlot w c b d (l.mem0 M0) g aa) M0 fun k n => MW 1 (NA (wR 2 [(0, .slice b c.length d), (1, iv g), (2, iv i), (8, iv h), (15, .bool (decide (h ≥ 0)))] k (NO ?_)))
 rcases gx_bif hm with ⟨A, hm⟩ | ⟨A, hm⟩
 ·refine gT A (QA (wR 2 [(0, .slice b c.length d), (8, iv h), (16, .slice b c.length d), (17, iv h)] k ?_))
  obtain ⟨f, H, hm⟩ := gx_bind hm
  refine wV (elemP b (h.toNat * 3)) k (eI (l.mem0 n) rfl H) (wV (.agg #[iv f.State, iv f.Irq, iv f.Priority]) k (eE true 3 0 (h.toNat * 3) (l.mem0 n) H) (wN (.cells ⟨[iv 0, iv 0, iv 0]⟩ 117 (0, 0)) n fun j aj R => wS true 3 0 (.agg #[iv f.State, iv f.Irq, iv f.Priority]) 0 [iv f.State, iv f.Irq, iv f.Priority] R rfl fun t u => NB (MW 1 (wV (iv f.State) t (eL false 1 0 (u.blk 0 rfl)) (wR 1 [(0, .slice b c.length d), (8, iv h), (9, pB j 0), (22, .bool (f.State == 2))] t (NO ?_))))))
  obtain ⟨q, X, W⟩ := gx_bind hm
  refine G_meet (fun a w' => Mem [] w w' [[(j, .cells ⟨[iv q, iv f.Irq, iv f.Priority]⟩ 117 (0, 0))]] ∧ Sat Tryz.f228.ntmps [(0, .slice b c.length d), (8, iv h), (9, pB j 0)] a) ?_ ?_
  ·have hm := X
   rcases gx_bif hm with ⟨B, hm⟩ | ⟨B, hm⟩
   ·refine gT B (GR (wR 1 [(0, .slice b c.length d), (8, iv h), (9, pB j 0), (23, pB j 0)] t (wS false 1 0 (iv 3) 0 [iv 3, iv f.Irq, iv f.Priority] u rfl fun ak S => WN ?_)))
    obtain rfl := HS hm
    exact N_meet fun a ha => ⟨S.pk [0], ha.s⟩
   refine gF B (GK ?_)
   obtain rfl := HS hm
   exact N_meet fun a ha => ⟨u.pk [0], ha.s⟩
  intro ai F ⟨v, V⟩
  refine N_use V ?_
  have hm := W
  refine NF (wR 2 [(9, pB j 0), (24, .slice b c.length d), (25, iv h)] F (wV (.agg #[iv q, iv f.Irq, iv f.Priority]) F (eL true 3 0 (v.blk 0 rfl)) ?_))
  obtain ⟨J, ab, hm⟩ := gx_bind hm
  refine WC ((c_i_withSlot F c b d (l.mem0 v) h (⟨q, f.Irq, f.Priority⟩ : Slot) ab).mono ?_)
  rintro e_ ag ⟨D, y, ae, rfl, Y, O⟩
  have T := v.call O
  refine ⟨_, rfl, ?_⟩
  refine wR 2 [(6, .slice D J.length y), (7, .bool true)] ag (ND ?_)
  cases hm
  exact RA [.slice D J.length y, .bool true] (⟨D, y, ae, rfl, Y, T.pk [1]⟩)
 refine gF A (KA (wR 1 [(0, .slice b c.length d), (1, iv g), (2, iv i), (28, .slice b c.length d)] k ?_))
 obtain ⟨m, ac, hm⟩ := gx_bind hm
 refine WD (c_i_firstEmpty k c b d (l.mem0 n) ac) n fun o x => MW 1 (NB (wR 2 [(0, .slice b c.length d), (1, iv g), (2, iv i), (10, iv m), (31, .bool (decide (m < 0)))] o (NO ?_)))
 rcases gx_bif hm with ⟨C, hm⟩ | ⟨C, hm⟩
 ·refine gT C (QA (wR 2 [(6, .slice none 0 0), (7, .bool false)] o (ND ?_)))
  cases hm
  exact RA [.slice none 0 0, .bool false] (⟨none, 0, [], rfl, ownS_nil, x.pk [100000]⟩)
 refine gF C (KA (wR 5 [(32, .slice b c.length d), (33, iv m), (36, .agg #[iv 1, iv g, iv i])] o ?_))
 obtain ⟨K, ad, hm⟩ := gx_bind hm
 refine WC ((c_i_withSlot o c b d (l.mem0 x) m (⟨1, g, i⟩ : Slot) ad).mono ?_)
 rintro e_ ah ⟨E, z, af, rfl, Z, Q⟩
 have U := x.call Q
 refine ⟨_, rfl, ?_⟩
 refine wR 2 [(6, .slice E K.length z), (7, .bool true)] ah (NC ?_)
 cases hm
 exact RA [.slice E K.length z, .bool true] (⟨E, z, af, rfl, Z, U.pk [0]⟩)
theorem c_slices_Insert_252 (w : World) (x18172 : List Waiter) (p18174 : Option Addr) (c18175 : Nat) (sg18176 : Seg) (ho18177 : ownS encWaiter x18172 p18174 c18175 sg18176) (x18178 : Int) (x18179 : List Waiter) (p18181 : Option Addr) (c18182 : Nat) (sg18183 : Seg) (ho18184 : ownS encWaiter x18179 p18181 c18182 sg18183) (hA : ∀ q ∈ List.flatten [sg18176, sg18183], w.heap[q.1]? = some q.2) (hN : (idsOf [sg18176, sg18183]).Nodup) {r : (List Waiter)} (hm : M.slices_Insert_252 x18172 x18178 x18179 = some r) :
    Calls Tryz.prog 252 #[.slice p18174 x18172.length c18175, .int .i64 x18178, .slice p18181 x18179.length c18182] w fun e w' => ∃ (p18186 : Option Addr) (c18187 : Nat) (sg18188 : Seg), e = .returned (.slice p18186 r.length c18187) ∧ ownS encWaiter r p18186 c18187 sg18188 ∧ Mem (idsOf [sg18176, sg18183]) w w' [sg18188] := by
  unfold M.slices_Insert_252 at hm
  rcases gx_bif hm with ⟨h, hm⟩ | ⟨h, hm⟩
  · obtain rfl := Option.some.inj hm
    simp only [Bool.and_eq_true, decide_eq_true_eq] at h
    obtain ⟨⟨h0, h1⟩, h2, h3⟩ := h
    obtain ⟨i, rfl⟩ : ∃ i : Nat, x18178 = i := ⟨x18178.toNat, by omega⟩
    have hc0 : x18172.length ≤ c18175 := ho18177.len_le
    have h1' : i ≤ x18172.length := by omega
    rw [Int.toNat_natCast]
    refine C_enter Tryz.func252 rfl (by kernel_rfl) ?_
    have M0 := Mem.start' w [sg18176, sg18183] hA hN
    refine G_seq ?_
    refine G_region ?_
    refine W_run 1 [(0, .slice p18174 x18172.length c18175), (1, .int .i64 (i : Int)), (2, .slice p18181 x18179.length c18182)] w (by kernel_rfl) ?_
    refine W_nil ?_
    refine N_then ?_
    refine G_seq ?_
    refine G_region ?_
    refine W_run 2 [(0, .slice p18174 x18172.length c18175), (1, .int .i64 (i : Int)), (2, .slice p18181 x18179.length c18182), (10, .slice p18174 x18172.length c18175), (11, .int .i64 (i : Int))] w (by kernel_rfl) ?_
    refine W_sliceC (p := p18174) (c := c18175) _ _ _ _ x18172.length (i : Int) x18172.length 2 (by kernel_rfl) rfl (by kernel_rfl) (Or.inr ⟨_, rfl, (by kernel_rfl)⟩) (Or.inl ⟨rfl, rfl⟩) (by kernel_rfl) hc0 (by omega) (by omega) (by omega) rfl ?_
    refine W_nil ?_
    refine N_then ?_
    refine G_sub [(0, .slice p18174 x18172.length c18175), (1, .int .i64 (i : Int)), (2, .slice p18181 x18179.length c18182)] (by kernel_rfl) ?_
    refine G_seq ?_
    refine G_region ?_
    refine W_run 3 [(0, .slice p18174 x18172.length c18175), (1, .int .i64 (i : Int)), (2, .slice p18181 x18179.length c18182), (7, .int .i64 (x18179.length : Int))] w (by kernel_rfl) ?_
    refine W_nil ?_
    refine N_then ?_
    refine G_seq ?_
    refine G_seq ?_
    refine G_region ?_
    refine W_run 2 [(0, .slice p18174 x18172.length c18175), (1, .int .i64 (i : Int)), (2, .slice p18181 x18179.length c18182), (7, .int .i64 (x18179.length : Int)), (16, .bool ((x18179.length : Int) == 0))] w (by kernel_rfl) ?_
    refine W_nil ?_
    refine N_then ?_
    refine G_cond_f (b := ((x18179.length : Int) == 0)) (by simp [h2]) (by kernel_rfl) ?_
    refine G_skip ?_
    refine N_then ?_
    refine G_seq ?_
    refine G_region ?_
    refine W_run 3 [(0, .slice p18174 x18172.length c18175), (1, .int .i64 (i : Int)), (2, .slice p18181 x18179.length c18182), (7, .int .i64 (x18179.length : Int)), (8, .int .i64 (x18172.length : Int))] w (by kernel_rfl) ?_
    refine W_nil ?_
    refine N_then ?_
    refine G_seq ?_
    refine G_seq ?_
    refine G_region ?_
    refine W_run 3 [(0, .slice p18174 x18172.length c18175), (1, .int .i64 (i : Int)), (2, .slice p18181 x18179.length c18182), (7, .int .i64 (x18179.length : Int)), (8, .int .i64 (x18172.length : Int)), (22, .bool ((i : Int) == (x18172.length : Int)))] w (by kernel_rfl) ?_
    refine W_nil ?_
    refine N_then ?_
    have rd2 : rdS encWaiter w x18179 p18181 c18182 := ho18184.rd M0 1 (by kernel_rfl)
    by_cases hi : i = x18172.length
    · refine G_cond_t (b := ((i : Int) == (x18172.length : Int))) (by simp [hi]) (by kernel_rfl) ?_
      refine G_seq ?_
      refine G_region ?_
      refine W_run 2 [(0, .slice p18174 x18172.length c18175), (1, .int .i64 (i : Int)), (2, .slice p18181 x18179.length c18182), (7, .int .i64 (x18179.length : Int)), (8, .int .i64 (x18172.length : Int)), (23, .slice p18174 x18172.length c18175), (24, .slice p18181 x18179.length c18182)] w (by kernel_rfl) ?_
      have happ : gxApp 16 x18172 x18179 = some (x18172 ++ x18179) := by unfold gxApp; rw [if_pos (by rw [h2]; omega)]
      refine W_append (E := encWaiter) _ _ _ 16 [.int .i64 0, .int .i64 0] 0 c18182 M0 ho18177 (by kernel_rfl) (by kernel_rfl) (by kernel_rfl) rfl (by kernel_rfl) (by kernel_rfl) (by kernel_rfl) (by kernel_rfl) (by kernel_rfl) (by kernel_rfl) rd2 happ ?_
      intro p1 c1 sg1 w1 ho1 M1
      refine W_run 1 [(6, .slice p1 (x18172 ++ x18179).length c1)] w1 (by kernel_rfl) ?_
      refine W_nil ?_
      refine N_then ?_
      refine G_ret ?_
      refine N_then_ret ?_
      refine N_ret [.slice p1 (x18172 ++ x18179).length c1] (RVs_cons (RV_tmp (by kernel_rfl)) RVs_nil) ?_
      have er : x18172.take i ++ x18179 ++ x18172.drop i = x18172 ++ x18179 := by rw [hi, List.take_length, List.drop_length, List.append_nil]
      rw [er]
      exact ⟨p1, c1, sg1, rfl, ho1, M1.pick [0] (by kernel_rfl)⟩
    refine G_cond_f (b := ((i : Int) == (x18172.length : Int))) (by simpa using fun h => hi (by omega)) (by kernel_rfl) ?_
    refine G_skip ?_
    refine N_then ?_
    have hin : i < x18172.length := by omega
    rcases ho18177 with ⟨_, hx, _⟩ | ⟨b, off, cs, e0, hp0, hs0, _, hcm0, hz0, hh0⟩
    · rw [hx] at hin
      simp at hin
    rcases ho18184 with ⟨_, hx, _⟩ | ⟨b2, off2, cs2, e2, hp2, hs2, hl2, hcm2, hz2, hh2⟩
    · rw [hx] at h2
      simp at h2
    subst hp0 hs0 hp2 hs2
    have hv2 : 1 ≤ c18182 := by omega
    have H0 : w.heap[b]? = some (.cells cs e0 (0, 0)) := hA (b, _) (by simp)
    have H2 : w.heap[b2]? = some (.cells cs2 e2 (0, 0)) := hA (b2, _) (by simp)
    have hne : b2 ≠ b := by intro h; subst h; simp [idsOf] at hN
    have kE : (encWaiter).k = 2 := rfl
    rw [kE] at hz0 hz2
    have fa := flat_length (encWaiter) x18172
    have fv := flat_length (encWaiter) x18179
    have ft := flat_length (encWaiter) (x18172.take i)
    have fd := flat_length (encWaiter) (x18172.drop i)
    rw [kE] at fa fv ft fd
    rw [List.length_take, Nat.min_eq_left h1'] at ft
    rw [List.length_drop] at fd
    rw [h2] at fv
    have hf0 : holdsF cs off (flat (encWaiter) x18172) := holds_flat.1 hh0
    have hf2 : holdsF cs2 off2 (flat (encWaiter) x18179) := holds_flat.1 hh2
    have hft : holdsF cs off (flat (encWaiter) (x18172.take i)) := by rw [flat_take, kE]; exact holdsF_take hf0 _
    have hfd : holdsF cs (off + i * 2) (flat (encWaiter) (x18172.drop i)) := by rw [flat_drop, kE]; exact holdsF_drop hf0 _
    have o1 : ∀ v ∈ flat (encWaiter) x18179, v.oneCell' = true := flat_one (encWaiter) x18179
    have o2 : ∀ v ∈ flat (encWaiter) (x18172.drop i), v.oneCell' = true := flat_one (encWaiter) _
    have eL : x18172.length + 1 = (x18172.take i ++ x18179 ++ x18172.drop i).length := by rw [List.length_append, List.length_append, List.length_take, List.length_drop, h2, Nat.min_eq_left h1']; omega
    have eF : flat (encWaiter) (x18172.take i ++ x18179 ++ x18172.drop i) = flat (encWaiter) (x18172.take i) ++ flat (encWaiter) x18179 ++ flat (encWaiter) (x18172.drop i) := by rw [flat_append, flat_append]
    have ew : w64 (x18172.length + 1 : Int) = ((x18172.length + 1 : Nat) : Int) := by rw [w64_idV (by omega) (by omega)]; omega
    refine G_seq ?_
    refine G_seq ?_
    refine G_region ?_
    refine W_run 6 [(0, .slice (some ⟨b, off, none⟩) x18172.length c18175), (1, .int .i64 (i : Int)), (2, .slice (some ⟨b2, off2, none⟩) x18179.length c18182), (7, .int .i64 (x18179.length : Int)), (8, .int .i64 (x18172.length : Int)), (31, .bool (decide (w64 ((x18172.length : Int) + (x18179.length : Int)) > (c18175 : Int))))] w (by kernel_rfl) ?_
    refine W_nil ?_
    refine N_then ?_
    have eN : w64 ((x18172.length : Int) + (x18179.length : Int)) = ((x18172.length + 1 : Nat) : Int) := by rw [h2, w64_idV (by omega) (by omega)]; omega
    have eI : w64 ((i : Int) + (x18179.length : Int)) = ((i + 1 : Nat) : Int) := by rw [h2, w64_idV (by omega) (by omega)]; omega
    by_cases hg : c18175 < x18172.length + 1
    · refine G_cond_t (b := (decide (w64 ((x18172.length : Int) + (x18179.length : Int)) > (c18175 : Int)))) (by rw [eN]; exact decide_eq_true (by omega)) (by kernel_rfl) ?_
      refine G_seq ?_
      refine G_region ?_
      refine W_run 2 [(0, .slice (some ⟨b, off, none⟩) x18172.length c18175), (1, .int .i64 (i : Int)), (2, .slice (some ⟨b2, off2, none⟩) x18179.length c18182), (7, .int .i64 (x18179.length : Int)), (8, .int .i64 (x18172.length : Int)), (32, .slice (some ⟨b, off, none⟩) x18172.length c18175), (33, .int .i64 (i : Int))] w (by kernel_rfl) ?_
      refine W_sliceC (p := (some ⟨b, off, none⟩)) (c := c18175) _ _ _ _ (x18172.length) 0 (i : Int) 2 (by kernel_rfl) rfl (by kernel_rfl) (Or.inl ⟨rfl, rfl⟩) (Or.inr ⟨_, rfl, (by kernel_rfl)⟩) (by kernel_rfl) (by omega) (by omega) (by omega) (by omega) (v := .slice (some ⟨b, off, none⟩) i c18175) (by simp [subP, addr_add]) ?_
      refine W_run 5 [(0, .slice (some ⟨b, off, none⟩) x18172.length c18175), (1, .int .i64 (i : Int)), (2, .slice (some ⟨b2, off2, none⟩) x18179.length c18182), (7, .int .i64 (x18179.length : Int)), (8, .int .i64 (x18172.length : Int)), (34, .slice (some ⟨b, off, none⟩) i c18175), (39, .int .i64 (w64 (w64 ((x18172.length : Int) + (x18179.length : Int)) - (i : Int))))] w (by kernel_rfl) ?_
      refine W_conv 39 (.int .i64 (w64 (w64 ((x18172.length : Int) + (x18179.length : Int)) - (i : Int)))) (.int .i64 (((x18172.length + 1 - i : Nat)) : Int)) (by kernel_rfl) (by rw [eN, w64_idV (by omega) (by omega), show ((x18172.length + 1 : Nat) : Int) - (i : Int) = (((x18172.length + 1 - i : Nat)) : Int) by omega]) ?_
      refine W_madeOn (c := c18175) (encWaiter) 83 3 _ _ 16 [.int .i64 0, .int .i64 0] .i64 b off cs e0 (flat (encWaiter) (x18172.take i)) i ((x18172.length + 1 - i : Nat)) M0 (by kernel_rfl) rfl (by kernel_rfl) (by kernel_rfl) (by kernel_rfl) (by kernel_rfl) (by kernel_rfl) (by kernel_rfl) (by kernel_rfl) H0 (by rw [ft, kE]) hft (by omega) (by omega) (by rw [show i + ((x18172.length + 1 - i : Nat)) = x18172.length + 1 by omega]; omega) ?_
      rw [show i + ((x18172.length + 1 - i : Nat)) = x18172.length + 1 by omega]
      intro c9 cs9 e9 w9 hc9 hcm9 hz9 hf9 M9
      rw [kE] at hz9
      refine W_run 1 [(0, .slice (some ⟨b, off, none⟩) x18172.length c18175), (1, .int .i64 (i : Int)), (2, .slice (some ⟨b2, off2, none⟩) x18179.length c18182), (7, .int .i64 (x18179.length : Int)), (8, .int .i64 (x18172.length : Int)), (9, .slice (some ⟨w.heap.size, 0, none⟩) (x18172.length + 1) c9)] w9 (by kernel_rfl) ?_
      refine W_nil ?_
      refine N_then ?_
      refine G_seq ?_
      refine G_region ?_
      refine W_run 2 [(0, .slice (some ⟨b, off, none⟩) x18172.length c18175), (1, .int .i64 (i : Int)), (2, .slice (some ⟨b2, off2, none⟩) x18179.length c18182), (7, .int .i64 (x18179.length : Int)), (8, .int .i64 (x18172.length : Int)), (9, .slice (some ⟨w.heap.size, 0, none⟩) (x18172.length + 1) c9), (41, .slice (some ⟨w.heap.size, 0, none⟩) (x18172.length + 1) c9), (42, .int .i64 (i : Int))] w9 (by kernel_rfl) ?_
      refine W_sliceC (p := some ⟨w.heap.size, 0, none⟩) (c := c9) _ _ _ _ (x18172.length + 1) (i : Int) ((x18172.length + 1 : Nat) : Int) 2 (by kernel_rfl) rfl (by kernel_rfl) (Or.inr ⟨_, rfl, (by kernel_rfl)⟩) (Or.inl ⟨rfl, rfl⟩) (by kernel_rfl) (by omega) (by omega) (by omega) (by omega) (v := .slice (some ⟨w.heap.size, i * 2, none⟩) (x18172.length + 1 - i) (c9 - i)) (by rw [Int.toNat_natCast, Int.toNat_natCast]; simp [subP, addr_add, show ¬ (c9 = i) by omega]) ?_
      refine W_run 1 [(0, .slice (some ⟨b, off, none⟩) x18172.length c18175), (1, .int .i64 (i : Int)), (2, .slice (some ⟨b2, off2, none⟩) x18179.length c18182), (7, .int .i64 (x18179.length : Int)), (8, .int .i64 (x18172.length : Int)), (9, .slice (some ⟨w.heap.size, 0, none⟩) (x18172.length + 1) c9), (43, .slice (some ⟨w.heap.size, i * 2, none⟩) (x18172.length + 1 - i) (c9 - i)), (44, .slice (some ⟨b2, off2, none⟩) x18179.length c18182)] w9 (by kernel_rfl) ?_
      refine W_copy _ _ _ 2 16 [.int .i64 0, .int .i64 0] 2 w.heap.size (i * 2) (x18172.length + 1 - i) (c9 - i) cs9 e9 ⟨b2, off2, none⟩ x18179.length c18182 (flat (encWaiter) x18179) M9 rfl (by kernel_rfl) rfl (by kernel_rfl) (by kernel_rfl) (by kernel_rfl) (by rw [fv, h2, show Nat.min 1 (x18172.length + 1 - i) = 1 from Nat.min_eq_left (by omega)]) (fun j v hj => by rw [addr_add, cell_of_heap (M9.blk 1 (b := b2) rfl)]; exact hf2 j v hj) (by rw [fv]; omega) o1 ?_
      intro w10 M10
      refine W_nil ?_
      refine N_then ?_
      refine G_seq ?_
      refine G_sub [(0, .slice (some ⟨b, off, none⟩) x18172.length c18175), (1, .int .i64 (i : Int)), (2, .slice (some ⟨b2, off2, none⟩) x18179.length c18182), (7, .int .i64 (x18179.length : Int)), (8, .int .i64 (x18172.length : Int)), (9, .slice (some ⟨w.heap.size, 0, none⟩) (x18172.length + 1) c9)] (by kernel_rfl) ?_
      refine G_dagL 8 [[], [], [], [1, 2], [0, 3], [], [], [5, 6]] [[], [], [], [], [], [], [], []] [[], [], [], [], [], [], [], []] [[], [], [], [], [], [], [], []] [[], [], [], [], [], [], [], []] [[], [], [], [], [], [], [], []] (fun _ => []) (fun q_ => ([fun f v s => v = (.slice (some ⟨w.heap.size, 0, none⟩) (x18172.length + 1) c9 : Value) ∧ s = [], fun f v s => v = (.int .i64 (i : Int) : Value) ∧ s = [], fun f v s => v = (.int .i64 (x18179.length : Int) : Value) ∧ s = [], fun f v s => v = (.int .i64 ((i + 1 : Nat) : Int) : Value) ∧ s = [], fun f v s => v = (.slice (some ⟨w.heap.size, (i + 1) * 2, none⟩) (x18172.length + 1 - (i + 1)) (c9 - (i + 1)) : Value) ∧ s = [], fun f v s => v = (.slice (some ⟨b, off, none⟩) x18172.length c18175 : Value) ∧ s = [], fun f v s => v = (.int .i64 (i : Int) : Value) ∧ s = [], fun f v s => v = (.slice (some ⟨b, off + i * 2, none⟩) (x18172.length - i) (c18175 - i) : Value) ∧ s = []] : List ((Nat → Value) → Value → Seg → Prop)).getD q_ (fun _ _ _ => False)) (fun j f v => ∃ s, (fun q_ => ([fun f v s => v = (.slice (some ⟨w.heap.size, 0, none⟩) (x18172.length + 1) c9 : Value) ∧ s = [], fun f v s => v = (.int .i64 (i : Int) : Value) ∧ s = [], fun f v s => v = (.int .i64 (x18179.length : Int) : Value) ∧ s = [], fun f v s => v = (.int .i64 ((i + 1 : Nat) : Int) : Value) ∧ s = [], fun f v s => v = (.slice (some ⟨w.heap.size, (i + 1) * 2, none⟩) (x18172.length + 1 - (i + 1)) (c9 - (i + 1)) : Value) ∧ s = [], fun f v s => v = (.slice (some ⟨b, off, none⟩) x18172.length c18175 : Value) ∧ s = [], fun f v s => v = (.int .i64 (i : Int) : Value) ∧ s = [], fun f v s => v = (.slice (some ⟨b, off + i * 2, none⟩) (x18172.length - i) (c18175 - i) : Value) ∧ s = []] : List ((Nat → Value) → Value → Seg → Prop)).getD q_ (fun _ _ _ => False)) j f v s) [] [4, 7] [] (fun _ _ _ s h => ⟨s, h⟩) (by kernel_rfl) (by kernel_rfl) (M10.preNil 8) (by kernel_rfl) (by kernel_rfl) (by kernel_rfl) (by kernel_rfl) (allOb_cons ?_ (allOb_cons ?_ (allOb_cons ?_ (allOb_cons ?_ (allOb_cons ?_ (allOb_cons ?_ (allOb_cons ?_ (allOb_cons ?_ allOb_nil)))))))) ?_
      · intro g f
        intro R wq Mq
        refine W_run 1 [(46, .slice (some ⟨w.heap.size, 0, none⟩) (x18172.length + 1) c9)] wq (by kernel_rfl) ?_
        exact W_nil (ob_end (.slice (some ⟨w.heap.size, 0, none⟩) (x18172.length + 1) c9) [] rfl (by kernel_rfl) ⟨(by kernel_rfl), rfl⟩ Mq)
      · intro g f
        intro R wq Mq
        refine W_run 1 [(47, .int .i64 (i : Int))] wq (by kernel_rfl) ?_
        exact W_nil (ob_end (.int .i64 (i : Int)) [] rfl (by kernel_rfl) ⟨(by kernel_rfl), rfl⟩ Mq)
      · intro g f
        intro R wq Mq
        refine W_run 1 [(48, .int .i64 (x18179.length : Int))] wq (by kernel_rfl) ?_
        exact W_nil (ob_end (.int .i64 (x18179.length : Int)) [] rfl (by kernel_rfl) ⟨(by kernel_rfl), rfl⟩ Mq)
      · intro g f
        intro v1 hb1
        obtain ⟨rfl, _⟩ := hb1
        intro v2 hb2
        obtain ⟨rfl, _⟩ := hb2
        intro R wq Mq
        refine W_run 1 [(49, .int .i64 (w64 ((i : Int) + (x18179.length : Int))))] wq (by kernel_rfl) ?_
        refine W_conv 49 (.int .i64 (w64 ((i : Int) + (x18179.length : Int)))) (.int .i64 ((i + 1 : Nat) : Int)) (by kernel_rfl) (by rw [eI]) ?_
        exact W_nil (ob_end (.int .i64 ((i + 1 : Nat) : Int)) [] rfl (by kernel_rfl) ⟨(by kernel_rfl), rfl⟩ Mq)
      · intro g f
        intro v0 hb0
        obtain ⟨rfl, _⟩ := hb0
        intro v3 hb3
        obtain ⟨rfl, _⟩ := hb3
        intro R wq Mq
        refine W_sliceC (p := some ⟨w.heap.size, 0, none⟩) (c := c9) _ _ _ _ (x18172.length + 1) ((i + 1 : Nat) : Int) ((x18172.length + 1 : Nat) : Int) 2 (by kernel_rfl) rfl (by kernel_rfl) (Or.inr ⟨_, rfl, (by kernel_rfl)⟩) (Or.inl ⟨rfl, rfl⟩) (by kernel_rfl) (by omega) (by omega) (by omega) (by omega) (v := .slice (some ⟨w.heap.size, (i + 1) * 2, none⟩) (x18172.length + 1 - (i + 1)) (c9 - (i + 1))) (by rw [Int.toNat_natCast, Int.toNat_natCast, subP, if_neg (by omega), Option.map_some, addr_add, Nat.zero_add]) ?_
        exact W_nil (ob_end (.slice (some ⟨w.heap.size, (i + 1) * 2, none⟩) (x18172.length + 1 - (i + 1)) (c9 - (i + 1))) [] rfl (by kernel_rfl) ⟨(by kernel_rfl), rfl⟩ Mq)
      · intro g f
        intro R wq Mq
        refine W_run 1 [(51, .slice (some ⟨b, off, none⟩) x18172.length c18175)] wq (by kernel_rfl) ?_
        exact W_nil (ob_end (.slice (some ⟨b, off, none⟩) x18172.length c18175) [] rfl (by kernel_rfl) ⟨(by kernel_rfl), rfl⟩ Mq)
      · intro g f
        intro R wq Mq
        refine W_run 1 [(52, .int .i64 (i : Int))] wq (by kernel_rfl) ?_
        exact W_nil (ob_end (.int .i64 (i : Int)) [] rfl (by kernel_rfl) ⟨(by kernel_rfl), rfl⟩ Mq)
      · intro g f
        intro v5 hb5
        obtain ⟨rfl, _⟩ := hb5
        intro v6 hb6
        obtain ⟨rfl, _⟩ := hb6
        intro R wq Mq
        refine W_sliceC (p := some ⟨b, off, none⟩) (c := c18175) _ _ _ _ (x18172.length) (i : Int) ((x18172.length : Nat) : Int) 2 (by kernel_rfl) rfl (by kernel_rfl) (Or.inr ⟨_, rfl, (by kernel_rfl)⟩) (Or.inl ⟨rfl, rfl⟩) (by kernel_rfl) (by omega) (by omega) (by omega) (by omega) (v := .slice (some ⟨b, off + i * 2, none⟩) (x18172.length - i) (c18175 - i)) (by rw [Int.toNat_natCast, Int.toNat_natCast, subP, if_neg (by omega), Option.map_some, addr_add]) ?_
        exact W_nil (ob_end (.slice (some ⟨b, off + i * 2, none⟩) (x18172.length - i) (c18175 - i)) [] rfl (by kernel_rfl) ⟨(by kernel_rfl), rfl⟩ Mq)
      intro g f
      intro v4 hb4
      obtain ⟨rfl, _⟩ := hb4
      intro v7 hb7
      obtain ⟨rfl, _⟩ := hb7
      intro w11 M11
      have z9 := wr_size cs9 (i * 2) (flat (encWaiter) x18179) (by rw [fv]; omega)
      refine W_copy _ _ _ 2 16 [.int .i64 0, .int .i64 0] 2 w.heap.size ((i + 1) * 2) (x18172.length + 1 - (i + 1)) (c9 - (i + 1)) (wr cs9 (i * 2) (flat (encWaiter) x18179)) e9 ⟨b, off + i * 2, none⟩ (x18172.length - i) (c18175 - i) (flat (encWaiter) (x18172.drop i)) M11 rfl (by kernel_rfl) rfl (by kernel_rfl) (by kernel_rfl) (by kernel_rfl) (by rw [fd, show Nat.min (x18172.length - i) (x18172.length + 1 - (i + 1)) = x18172.length - i from Nat.min_eq_left (by omega)]) (fun j v hj => by rw [addr_add, cell_of_heap (M11.blk 0 (b := b) rfl)]; exact hfd j v hj) (by rw [z9, fd]; omega) o2 ?_
      intro w12 M12
      refine W_nil ?_
      refine N_then ?_
      refine G_seq ?_
      refine G_region ?_
      refine W_run 2 [(6, .slice (some ⟨w.heap.size, 0, none⟩) (x18172.length + 1) c9)] w12 (by kernel_rfl) ?_
      refine W_nil ?_
      refine N_then ?_
      refine G_ret ?_
      refine N_then_ret ?_
      refine N_ret [.slice (some ⟨w.heap.size, 0, none⟩) (x18172.length + 1) c9] (RVs_cons (RV_tmp (by kernel_rfl)) RVs_nil) ?_
      have z10 := wr_size (wr cs9 (i * 2) (flat (encWaiter) x18179)) ((i + 1) * 2) (flat (encWaiter) (x18172.drop i)) (by rw [z9, fd]; omega)
      have hfin := (ins_holds (cs := cs9) (off := 0) (A := flat (encWaiter) (x18172.take i)) (V := flat (encWaiter) x18179) (B := flat (encWaiter) (x18172.drop i)) hf9 (by rw [ft, fv, fd]; omega)).1
      rw [ft, fv, show 0 + i * 2 = i * 2 by omega, show i * 2 + 1 * 2 = (i + 1) * 2 by omega] at hfin
      refine ⟨some ⟨w.heap.size, 0, none⟩, c9, _, by rw [← eL]; rfl, Or.inr ⟨w.heap.size, 0, _, e9, rfl, rfl, by omega, hcm9, by rw [kE, z10, z9]; omega, ?_⟩, M12.pick [2] (by kernel_rfl)⟩
      rw [holds_flat, eF]
      exact hfin
    refine G_cond_f (b := (decide (w64 ((x18172.length : Int) + (x18179.length : Int)) > (c18175 : Int)))) (by rw [eN]; exact decide_eq_false (by omega)) (by kernel_rfl) ?_
    refine G_skip ?_
    refine N_then ?_
    refine G_seq ?_
    refine G_region ?_
    refine W_run 4 [(0, .slice (some ⟨b, off, none⟩) x18172.length c18175), (1, .int .i64 (i : Int)), (2, .slice (some ⟨b2, off2, none⟩) x18179.length c18182), (7, .int .i64 (x18179.length : Int)), (8, .int .i64 (x18172.length : Int)), (56, .slice (some ⟨b, off, none⟩) x18172.length c18175), (59, .int .i64 (w64 ((x18172.length : Int) + (x18179.length : Int))))] w (by kernel_rfl) ?_
    refine W_conv 59 (.int .i64 (w64 ((x18172.length : Int) + (x18179.length : Int)))) (.int .i64 ((x18172.length + 1 : Nat) : Int)) (by kernel_rfl) (by rw [eN]) ?_
    refine W_sliceC (p := (some ⟨b, off, none⟩)) (c := c18175) _ _ _ _ (x18172.length) 0 ((x18172.length + 1 : Nat) : Int) 2 (by kernel_rfl) rfl (by kernel_rfl) (Or.inl ⟨rfl, rfl⟩) (Or.inr ⟨_, rfl, (by kernel_rfl)⟩) (by kernel_rfl) (by omega) (by omega) (by omega) (by omega) (v := .slice (some ⟨b, off, none⟩) (x18172.length + 1) c18175) (by rw [Int.toNat_natCast]; simp [subP, addr_add]) ?_
    refine W_run 1 [(0, .slice (some ⟨b, off, none⟩) (x18172.length + 1) c18175), (1, .int .i64 (i : Int)), (2, .slice (some ⟨b2, off2, none⟩) x18179.length c18182), (7, .int .i64 (x18179.length : Int)), (8, .int .i64 (x18172.length : Int))] w (by kernel_rfl) ?_
    refine W_nil ?_
    refine N_then ?_
    refine G_seq ?_
    refine G_seq ?_
    refine G_region ?_
    refine W_run 5 [(0, .slice (some ⟨b, off, none⟩) (x18172.length + 1) c18175), (1, .int .i64 (i : Int)), (2, .slice (some ⟨b2, off2, none⟩) x18179.length c18182), (7, .int .i64 (x18179.length : Int)), (8, .int .i64 (x18172.length : Int)), (61, .slice (some ⟨b2, off2, none⟩) x18179.length c18182), (62, .slice (some ⟨b, off, none⟩) (x18172.length + 1) c18175), (65, .int .i64 (w64 ((i : Int) + (x18179.length : Int))))] w (by kernel_rfl) ?_
    refine W_conv 65 (.int .i64 (w64 ((i : Int) + (x18179.length : Int)))) (.int .i64 ((i + 1 : Nat) : Int)) (by kernel_rfl) (by rw [eI]) ?_
    obtain ⟨oo, hoo⟩ : ∃ oo, subP (some ⟨b, off, none⟩) (i + 1) c18175 2 = some ⟨b, oo, none⟩ := ⟨off + (i + 1) * 2, by rw [subP, if_neg (by omega), Option.map_some, addr_add]⟩
    refine W_sliceC (p := (some ⟨b, off, none⟩)) (c := c18175) _ _ _ _ (x18172.length + 1) ((i + 1 : Nat) : Int) ((x18172.length + 1 : Nat) : Int) 2 (by kernel_rfl) rfl (by kernel_rfl) (Or.inr ⟨_, rfl, (by kernel_rfl)⟩) (Or.inl ⟨rfl, rfl⟩) (by kernel_rfl) (by omega) (by omega) (by omega) (by omega) (v := .slice (some ⟨b, oo, none⟩) (x18172.length + 1 - (i + 1)) (c18175 - (i + 1))) (by rw [Int.toNat_natCast, Int.toNat_natCast, hoo]) ?_
    refine W_overlaps 255 83 4 _ _ 2 16 [.int .i64 0, .int .i64 0] _ b2 off2 x18179.length c18182 b oo (x18172.length + 1 - (i + 1)) (c18175 - (i + 1)) cs2 cs e2 e0 (by kernel_rfl) rfl (by kernel_rfl) (by kernel_rfl) (by kernel_rfl) Tryz.func255 (by kernel_rfl) (by kernel_rfl) (by kernel_rfl) (by kernel_rfl) H2 H0 hne (by omega) ?_
    refine W_run 1 [(0, .slice (some ⟨b, off, none⟩) (x18172.length + 1) c18175), (1, .int .i64 (i : Int)), (2, .slice (some ⟨b2, off2, none⟩) x18179.length c18182), (7, .int .i64 (x18179.length : Int)), (8, .int .i64 (x18172.length : Int)), (68, .bool true)] w (by kernel_rfl) ?_
    refine W_nil ?_
    refine N_then ?_
    refine G_cond_t (b := true) rfl (by kernel_rfl) ?_
    refine G_seq ?_
    refine G_sub [(0, .slice (some ⟨b, off, none⟩) (x18172.length + 1) c18175), (1, .int .i64 (i : Int)), (2, .slice (some ⟨b2, off2, none⟩) x18179.length c18182), (7, .int .i64 (x18179.length : Int)), (8, .int .i64 (x18172.length : Int))] (by kernel_rfl) ?_
    refine G_dagL 8 [[], [], [], [1, 2], [0, 3], [], [], [5, 6]] [[], [], [], [], [], [], [], []] [[], [], [], [], [], [], [], []] [[], [], [], [], [], [], [], []] [[], [], [], [], [], [], [], []] [[], [], [], [], [], [], [], []] (fun _ => []) (fun q_ => ([fun f v s => v = (.slice (some ⟨b, off, none⟩) (x18172.length + 1) c18175 : Value) ∧ s = [], fun f v s => v = (.int .i64 (i : Int) : Value) ∧ s = [], fun f v s => v = (.int .i64 (x18179.length : Int) : Value) ∧ s = [], fun f v s => v = (.int .i64 ((i + 1 : Nat) : Int) : Value) ∧ s = [], fun f v s => v = (.slice (some ⟨b, off + (i + 1) * 2, none⟩) (x18172.length + 1 - (i + 1)) (c18175 - (i + 1)) : Value) ∧ s = [], fun f v s => v = (.slice (some ⟨b, off, none⟩) (x18172.length + 1) c18175 : Value) ∧ s = [], fun f v s => v = (.int .i64 (i : Int) : Value) ∧ s = [], fun f v s => v = (.slice (some ⟨b, off + i * 2, none⟩) (x18172.length + 1 - i) (c18175 - i) : Value) ∧ s = []] : List ((Nat → Value) → Value → Seg → Prop)).getD q_ (fun _ _ _ => False)) (fun j f v => ∃ s, (fun q_ => ([fun f v s => v = (.slice (some ⟨b, off, none⟩) (x18172.length + 1) c18175 : Value) ∧ s = [], fun f v s => v = (.int .i64 (i : Int) : Value) ∧ s = [], fun f v s => v = (.int .i64 (x18179.length : Int) : Value) ∧ s = [], fun f v s => v = (.int .i64 ((i + 1 : Nat) : Int) : Value) ∧ s = [], fun f v s => v = (.slice (some ⟨b, off + (i + 1) * 2, none⟩) (x18172.length + 1 - (i + 1)) (c18175 - (i + 1)) : Value) ∧ s = [], fun f v s => v = (.slice (some ⟨b, off, none⟩) (x18172.length + 1) c18175 : Value) ∧ s = [], fun f v s => v = (.int .i64 (i : Int) : Value) ∧ s = [], fun f v s => v = (.slice (some ⟨b, off + i * 2, none⟩) (x18172.length + 1 - i) (c18175 - i) : Value) ∧ s = []] : List ((Nat → Value) → Value → Seg → Prop)).getD q_ (fun _ _ _ => False)) j f v s) [] [4, 7] [] (fun _ _ _ s h => ⟨s, h⟩) (by kernel_rfl) (by kernel_rfl) (M0.preNil 8) (by kernel_rfl) (by kernel_rfl) (by kernel_rfl) (by kernel_rfl) (allOb_cons ?_ (allOb_cons ?_ (allOb_cons ?_ (allOb_cons ?_ (allOb_cons ?_ (allOb_cons ?_ (allOb_cons ?_ (allOb_cons ?_ allOb_nil)))))))) ?_
    · intro g f
      intro R wq Mq
      refine W_run 1 [(69, .slice (some ⟨b, off, none⟩) (x18172.length + 1) c18175)] wq (by kernel_rfl) ?_
      exact W_nil (ob_end (.slice (some ⟨b, off, none⟩) (x18172.length + 1) c18175) [] rfl (by kernel_rfl) ⟨(by kernel_rfl), rfl⟩ Mq)
    · intro g f
      intro R wq Mq
      refine W_run 1 [(70, .int .i64 (i : Int))] wq (by kernel_rfl) ?_
      exact W_nil (ob_end (.int .i64 (i : Int)) [] rfl (by kernel_rfl) ⟨(by kernel_rfl), rfl⟩ Mq)
    · intro g f
      intro R wq Mq
      refine W_run 1 [(71, .int .i64 (x18179.length : Int))] wq (by kernel_rfl) ?_
      exact W_nil (ob_end (.int .i64 (x18179.length : Int)) [] rfl (by kernel_rfl) ⟨(by kernel_rfl), rfl⟩ Mq)
    · intro g f
      intro v1 hb1
      obtain ⟨rfl, _⟩ := hb1
      intro v2 hb2
      obtain ⟨rfl, _⟩ := hb2
      intro R wq Mq
      refine W_run 1 [(72, .int .i64 (w64 ((i : Int) + (x18179.length : Int))))] wq (by kernel_rfl) ?_
      refine W_conv 72 (.int .i64 (w64 ((i : Int) + (x18179.length : Int)))) (.int .i64 ((i + 1 : Nat) : Int)) (by kernel_rfl) (by rw [eI]) ?_
      exact W_nil (ob_end (.int .i64 ((i + 1 : Nat) : Int)) [] rfl (by kernel_rfl) ⟨(by kernel_rfl), rfl⟩ Mq)
    · intro g f
      intro v0 hb0
      obtain ⟨rfl, _⟩ := hb0
      intro v3 hb3
      obtain ⟨rfl, _⟩ := hb3
      intro R wq Mq
      refine W_sliceC (p := some ⟨b, off, none⟩) (c := c18175) _ _ _ _ (x18172.length + 1) ((i + 1 : Nat) : Int) ((x18172.length + 1 : Nat) : Int) 2 (by kernel_rfl) rfl (by kernel_rfl) (Or.inr ⟨_, rfl, (by kernel_rfl)⟩) (Or.inl ⟨rfl, rfl⟩) (by kernel_rfl) (by omega) (by omega) (by omega) (by omega) (v := .slice (some ⟨b, off + (i + 1) * 2, none⟩) (x18172.length + 1 - (i + 1)) (c18175 - (i + 1))) (by rw [Int.toNat_natCast, Int.toNat_natCast, subP, if_neg (by omega), Option.map_some, addr_add]) ?_
      exact W_nil (ob_end (.slice (some ⟨b, off + (i + 1) * 2, none⟩) (x18172.length + 1 - (i + 1)) (c18175 - (i + 1))) [] rfl (by kernel_rfl) ⟨(by kernel_rfl), rfl⟩ Mq)
    · intro g f
      intro R wq Mq
      refine W_run 1 [(74, .slice (some ⟨b, off, none⟩) (x18172.length + 1) c18175)] wq (by kernel_rfl) ?_
      exact W_nil (ob_end (.slice (some ⟨b, off, none⟩) (x18172.length + 1) c18175) [] rfl (by kernel_rfl) ⟨(by kernel_rfl), rfl⟩ Mq)
    · intro g f
      intro R wq Mq
      refine W_run 1 [(75, .int .i64 (i : Int))] wq (by kernel_rfl) ?_
      exact W_nil (ob_end (.int .i64 (i : Int)) [] rfl (by kernel_rfl) ⟨(by kernel_rfl), rfl⟩ Mq)
    · intro g f
      intro v5 hb5
      obtain ⟨rfl, _⟩ := hb5
      intro v6 hb6
      obtain ⟨rfl, _⟩ := hb6
      intro R wq Mq
      refine W_sliceC (p := some ⟨b, off, none⟩) (c := c18175) _ _ _ _ (x18172.length + 1) (i : Int) ((x18172.length + 1 : Nat) : Int) 2 (by kernel_rfl) rfl (by kernel_rfl) (Or.inr ⟨_, rfl, (by kernel_rfl)⟩) (Or.inl ⟨rfl, rfl⟩) (by kernel_rfl) (by omega) (by omega) (by omega) (by omega) (v := .slice (some ⟨b, off + i * 2, none⟩) (x18172.length + 1 - i) (c18175 - i)) (by rw [Int.toNat_natCast, Int.toNat_natCast, subP, if_neg (by omega), Option.map_some, addr_add]) ?_
      exact W_nil (ob_end (.slice (some ⟨b, off + i * 2, none⟩) (x18172.length + 1 - i) (c18175 - i)) [] rfl (by kernel_rfl) ⟨(by kernel_rfl), rfl⟩ Mq)
    intro g f
    intro v4 hb4
    obtain ⟨rfl, _⟩ := hb4
    intro v7 hb7
    obtain ⟨rfl, _⟩ := hb7
    intro w13 M13
    refine W_copy _ _ _ 2 16 [.int .i64 0, .int .i64 0] 0 b (off + (i + 1) * 2) (x18172.length + 1 - (i + 1)) (c18175 - (i + 1)) cs e0 ⟨b, off + i * 2, none⟩ (x18172.length + 1 - i) (c18175 - i) (flat (encWaiter) (x18172.drop i)) M13 rfl (by kernel_rfl) rfl (by kernel_rfl) (by kernel_rfl) (by kernel_rfl) (by rw [fd, show Nat.min (x18172.length + 1 - i) (x18172.length + 1 - (i + 1)) = x18172.length - i from (Nat.min_eq_right (by omega)).trans (by omega)]) (fun j v hj => by rw [addr_add, cell_of_heap (M13.blk 0 (b := b) rfl)]; exact hfd j v hj) (by rw [fd]; omega) o2 ?_
    intro w14 M14
    refine W_nil ?_
    refine N_then ?_
    refine G_seq ?_
    refine G_region ?_
    refine W_run 2 [(0, .slice (some ⟨b, off, none⟩) (x18172.length + 1) c18175), (1, .int .i64 (i : Int)), (2, .slice (some ⟨b2, off2, none⟩) x18179.length c18182), (7, .int .i64 (x18179.length : Int)), (8, .int .i64 (x18172.length : Int)), (78, .slice (some ⟨b, off, none⟩) (x18172.length + 1) c18175), (79, .int .i64 (i : Int))] w14 (by kernel_rfl) ?_
    refine W_sliceC (p := (some ⟨b, off, none⟩)) (c := c18175) _ _ _ _ (x18172.length + 1) (i : Int) ((x18172.length + 1 : Nat) : Int) 2 (by kernel_rfl) rfl (by kernel_rfl) (Or.inr ⟨_, rfl, (by kernel_rfl)⟩) (Or.inl ⟨rfl, rfl⟩) (by kernel_rfl) (by omega) (by omega) (by omega) (by omega) (v := .slice (some ⟨b, off + i * 2, none⟩) (x18172.length + 1 - i) (c18175 - i)) (by rw [Int.toNat_natCast, Int.toNat_natCast, subP, if_neg (by omega), Option.map_some, addr_add]) ?_
    refine W_run 1 [(0, .slice (some ⟨b, off, none⟩) (x18172.length + 1) c18175), (1, .int .i64 (i : Int)), (2, .slice (some ⟨b2, off2, none⟩) x18179.length c18182), (7, .int .i64 (x18179.length : Int)), (8, .int .i64 (x18172.length : Int)), (80, .slice (some ⟨b, off + i * 2, none⟩) (x18172.length + 1 - i) (c18175 - i)), (81, .slice (some ⟨b2, off2, none⟩) x18179.length c18182)] w14 (by kernel_rfl) ?_
    have z0 := wr_size cs (off + (i + 1) * 2) (flat (encWaiter) (x18172.drop i)) (by rw [fd]; omega)
    refine W_copy _ _ _ 2 16 [.int .i64 0, .int .i64 0] 0 b (off + i * 2) (x18172.length + 1 - i) (c18175 - i) (wr cs (off + (i + 1) * 2) (flat (encWaiter) (x18172.drop i))) e0 ⟨b2, off2, none⟩ x18179.length c18182 (flat (encWaiter) x18179) M14 rfl (by kernel_rfl) rfl (by kernel_rfl) (by kernel_rfl) (by kernel_rfl) (by rw [fv, h2, show Nat.min 1 (x18172.length + 1 - i) = 1 from Nat.min_eq_left (by omega)]) (fun j v hj => by rw [addr_add, cell_of_heap (M14.blk 1 (b := b2) rfl)]; exact hf2 j v hj) (by rw [z0, fv]; omega) o1 ?_
    intro w15 M15
    refine W_nil ?_
    refine N_then ?_
    refine G_seq ?_
    refine G_region ?_
    refine W_run 2 [(6, .slice (some ⟨b, off, none⟩) (x18172.length + 1) c18175)] w15 (by kernel_rfl) ?_
    refine W_nil ?_
    refine N_then ?_
    refine G_ret ?_
    refine N_then_ret ?_
    refine N_ret [.slice (some ⟨b, off, none⟩) (x18172.length + 1) c18175] (RVs_cons (RV_tmp (by kernel_rfl)) RVs_nil) ?_
    have z1 := wr_size (wr cs (off + (i + 1) * 2) (flat (encWaiter) (x18172.drop i))) (off + i * 2) (flat (encWaiter) x18179) (by rw [z0, fv]; omega)
    have hfin := (ins_holds (cs := cs) (off := off) (A := flat (encWaiter) (x18172.take i)) (V := flat (encWaiter) x18179) (B := flat (encWaiter) (x18172.drop i)) hft (by rw [ft, fv, fd]; omega)).2
    rw [ft, fv, show off + i * 2 + 1 * 2 = off + (i + 1) * 2 by omega] at hfin
    refine ⟨some ⟨b, off, none⟩, c18175, _, by rw [← eL]; rfl, Or.inr ⟨b, off, _, e0, rfl, rfl, by omega, hcm0, by rw [kE, z1, z0]; exact hz0, ?_⟩, M15.pick [0] (by kernel_rfl)⟩
    rw [holds_flat, eF]
    exact hfin
  cases hm
theorem c_i_withWaiter (w : World) (c : List Waiter) (d : Option Addr) (g : Nat) (G : rdS encWaiter w c d g) (b : Waiter) {r : (List Waiter)} (hm : M.i_withWaiter c b = some r) :
  Calls Tryz.prog 229 #[.slice d c.length g, .agg #[iv b.Irq, iv b.Priority]] w fun e w' => ∃ (U : Option Addr) (S : Nat) (W : Seg), e = .returned (.slice U r.length S) ∧ ownS encWaiter r U S W ∧ Mem [] w w' [W] := by
 unfold M.i_withWaiter at hm
 refine cE Tryz.func229 ?_
 have M0 := Mem.refl [] w
 refine QA (wN (.cells ⟨[iv b.Irq, iv b.Priority]⟩ 142 (0, 0)) M0 fun l X aa => MW 1 (NA (wR 1 [(0, .slice d c.length g), (3, pB l 0), (5, iv 0)] X (NE ?_))))
 obtain ⟨y, a3, av⟩ := gx_bind hm
 refine G_meet (fun a w' => Mem [] w w' [[(l, .cells ⟨[iv b.Irq, iv b.Priority]⟩ 142 (0, 0))]] ∧ Sat Tryz.f229.ntmps [(0, .slice d c.length g), (3, pB l 0), (5, iv y)] a) ?_ ?_
 ·refine GB (G_while (σ := Int) (ρ := Int) (fun k a w' => Mem [] w w' [[(l, .cells ⟨[iv b.Irq, iv b.Priority]⟩ 142 (0, 0))]] ∧ Sat Tryz.f229.ntmps [(0, .slice d c.length g), (3, pB l 0), (5, iv k)] a) a3 (fun a ha => ⟨aa.pk [0], ha.s⟩) ?_)
  clear hm
  intro k br hm ay be bh ⟨ab, ao⟩
  refine G_use ao (GS (GS ?_))
  obtain ⟨a4, aw, au⟩ := gx_bind hm
  refine G_meet (fun a w' => Mem [] w w' [[(l, .cells ⟨[iv b.Irq, iv b.Priority]⟩ 142 (0, 0))]] ∧ Sat Tryz.f229.ntmps [(0, .slice d c.length g), (3, pB l 0), (5, iv k), (18, .bool a4)] a) ?_ ?_
  ·have hm := aw
   refine G_quiet (by kernel_rfl) (by kernel_rfl) ab (MS 5 [(0, .slice d c.length g), (3, pB l 0), (5, iv k), (10, .bool (decide (k < (c.length : Int))))] ?_)
   rcases gx_bif hm with ⟨H, hm⟩ | ⟨H, hm⟩
   ·refine zK 10 true H (MS 2 [(0, .slice d c.length g), (3, pB l 0), (5, iv k), (10, .bool true), (11, .slice d c.length g), (12, iv k)] ?_)
    obtain ⟨B, T, hm⟩ := gx_bind hm
    refine zV (elemP d (k.toNat * 2)) (fun w_ M_ => (eI (G.mem0 M_) rfl T)) (zV (.agg #[iv B.Irq, iv B.Priority]) (fun w_ M_ => (eE true 2 0 (k.toNat * 2) (G.mem0 M_) T)) (zV (.agg #[iv b.Irq, iv b.Priority]) (fun w_ M_ => (eL true 2 0 (M_.blk 0 rfl))) ?_))
    obtain ⟨C, az, hm⟩ := gx_bind hm
    refine ZC (iv C) (fun w_ M_ => c_i_compareUrgency w_ B b az) (MS 2 [(0, .slice d c.length g), (3, pB l 0), (5, iv k), (18, .bool (decide (C < 0)))] (Z_end fun bi ac => ?_))
    obtain rfl := HS hm
    exact N_meet fun a ha => ⟨ac.pk [0], ha.s⟩
   refine zK 10 false H (MS 8 [(0, .slice d c.length g), (3, pB l 0), (5, iv k), (18, .bool false)] (Z_end fun bj ad => ?_))
   obtain rfl := HS hm
   exact N_meet fun a ha => ⟨ad.pk [0], ha.s⟩
  intro bf a9 ⟨O, ap⟩
  refine N_use ap ?_
  have hm := au
  refine TN ?_
  rcases gx_bif hm with ⟨I, hm⟩ | ⟨I, hm⟩
  ·refine gT I (GK (TN (GB (GR (wR 3 [(0, .slice d c.length g), (3, pB l 0), (5, iv (w64 (k + 1)))] a9 (WN (BN ?_)))))))
   cases hm
   exact N_loop fun a ha => ⟨_, rfl, O.pk [0], ha.s⟩
  refine gF I (XA ?_)
  obtain rfl := HS hm
  obtain rfl := ay _ rfl
  exact N_meet fun a ha => ⟨O.pk [0], ha.s⟩
 intro bg bk ⟨ae, aq⟩
 refine N_use aq ?_
 have hm := av
 refine TN (GS ?_)
 obtain ⟨z, ar, hm⟩ := gx_bind hm
 refine G_sub [(0, .slice d c.length g), (3, pB l 0), (5, iv y)] (by kernel_rfl) (G_dagL 6 [[], [], [0, 1], [], [], [4]] [[], [], [0], [], [], []] [[], [], [], [], [], []] [[], [], [], [], [], []] [[], [], [], [], [], []] [[], [], [], [], [], []] (fun _ => []) (fun i => ([fun f v s => ∃ (x : Option Addr) (u : Nat), v = (.slice x ([] : List Waiter).length u : Value) ∧ ownS encWaiter ([] : List Waiter) x u s, fun f v s => v = (.slice d c.length g : Value) ∧ s = [], fun f v s => ∃ (o : Option Addr) (m : Nat), v = (.slice o z.length m : Value) ∧ ownS encWaiter z o m s, fun f v s => v = (iv y : Value) ∧ s = [], fun f v s => v = (.agg #[iv b.Irq, iv b.Priority] : Value) ∧ s = [], fun f v s => ∃ (q : Option Addr) (n : Nat), v = (.slice q [b].length n : Value) ∧ ownS encWaiter [b] q n s] : List ((Nat → Value) → Value → Seg → Prop)).getD i (fun _ _ _ => False)) (fun j f v => ∃ s, (fun i => ([fun f v s => ∃ (x : Option Addr) (u : Nat), v = (.slice x ([] : List Waiter).length u : Value) ∧ ownS encWaiter ([] : List Waiter) x u s, fun f v s => v = (.slice d c.length g : Value) ∧ s = [], fun f v s => ∃ (o : Option Addr) (m : Nat), v = (.slice o z.length m : Value) ∧ ownS encWaiter z o m s, fun f v s => v = (iv y : Value) ∧ s = [], fun f v s => v = (.agg #[iv b.Irq, iv b.Priority] : Value) ∧ s = [], fun f v s => ∃ (q : Option Addr) (n : Nat), v = (.slice q [b].length n : Value) ∧ ownS encWaiter [b] q n s] : List ((Nat → Value) → Value → Seg → Prop)).getD i (fun _ _ _ => False)) j f v s) [] [2, 3, 5] [2, 5] (fun _ _ _ s h => ⟨s, h⟩) (by kernel_rfl) (by kernel_rfl) (ae.preNil 6) (by kernel_rfl) (by kernel_rfl) (by kernel_rfl) (by kernel_rfl) (allOb_cons ?_ (allOb_cons ?_ (allOb_cons ?_ (allOb_cons ?_ (allOb_cons ?_ (allOb_cons ?_ allOb_nil)))))) ?_)
 ·intro t A
  intro R bl af
  exact wL (E := encWaiter) ([] : List Waiter) 0 [] 142 af fun x u a5 bm J ag => WN (oE (.slice x ([] : List Waiter).length u) a5 ⟨x, u, rfl, J⟩ (Mem.mid ag))
 ·intro t A
  intro R ba ah
  exact MW 1 (WN (oE (.slice d c.length g) [] ⟨by kernel_rfl, rfl⟩ ah))
 ·intro t A
  intro v0_ hb0_
  obtain ⟨x, u, rfl, J⟩ := hb0_
  intro v1_ hb1_
  obtain ⟨rfl, _⟩ := hb1_
  intro R bn P
  exact wA 16 [iv 0, iv 0] 2 P J (G.mem0 P) ar fun o m a6 bo K ai => WN (oE (.slice o z.length m) a6 ⟨o, m, rfl, K⟩ (Mem.takeOver ai))
 ·intro t A
  intro R bb aj
  exact MW 1 (WN (oE (iv y) [] ⟨by kernel_rfl, rfl⟩ aj))
 ·intro t A
  intro R bc Q
  exact wV (.agg #[iv b.Irq, iv b.Priority]) bc (eL true 2 0 (Q.blk 0 rfl)) (WN (oE (.agg #[iv b.Irq, iv b.Priority]) [] ⟨by kernel_rfl, rfl⟩ Q))
 ·intro t A
  intro v4_ hb4_
  obtain ⟨rfl, _⟩ := hb4_
  intro R bp ak
  exact wL (E := encWaiter) [b] 1 [iv b.Irq, iv b.Priority] 142 ak fun q n a7 bq L al => WN (oE (.slice q [b].length n) a7 ⟨q, n, rfl, L⟩ (Mem.mid al))
 intro t A
 intro v2_ hb2_
 obtain ⟨o, m, rfl, K⟩ := hb2_
 intro v3_ hb3_
 obtain ⟨rfl, _⟩ := hb3_
 intro v5_ hb5_
 obtain ⟨q, n, rfl, L⟩ := hb5_
 intro Y am
 have D : Mem [] w Y [[(l, .cells ⟨[iv b.Irq, iv b.Priority]⟩ 142 (0, 0))], (t 2), (t 5)] := am
 obtain ⟨V, a0, hm⟩ := gx_bind hm
 refine WC ((c_slices_Insert_252 Y z o m (t 2) K y [b] q n (t 5) L (D.hasPick [1, 2]) (D.nodupPick [1, 2] (by kernel_rfl)) a0).mono ?_)
 rintro e_ bd ⟨N, F, a8, rfl, ax, Z⟩
 have an := D.callF' [1, 2] [0] (by kernel_rfl) Z
 refine ⟨_, rfl, ?_⟩
 refine wR 1 [(4, .slice N V.length F)] bd (NC ?_)
 obtain rfl := HS hm
 exact RA [.slice N V.length F] (⟨N, F, a8, rfl, ax, an.pk [1]⟩)
theorem c_i_settled (w : World) (C : Queue) (W : Option Addr) (U : Nat) (cf : rdS encSlot w C.Slots W U) (X : Option Addr) (V : Nat) (cg : rdS encWaiter w C.Waiting X V) {r : Queue} (hm : M.i_settled C = some r) :
  Calls Tryz.prog 182 #[.agg #[.slice W C.Slots.length U, .slice X C.Waiting.length V]] w fun e w' => ∃ (bg : Option Addr) (bb : Nat) (bj : Seg), ∃ (bh : Option Addr) (bc : Nat) (bk : Seg), e = .returned (.agg #[.slice bg r.Slots.length bb, .slice bh r.Waiting.length bc]) ∧ ownS encSlot r.Slots bg bb bj ∧ ownS encWaiter r.Waiting bh bc bk ∧ Mem [] w w' [bj, bk] := by
 unfold M.i_settled at hm
 refine cE Tryz.func182 ?_
 have M0 := Mem.refl [] w
 refine QA (wN (.cells ⟨[.slice W C.Slots.length U, .slice X C.Waiting.length V]⟩ 85 (0, 0)) M0 fun dw dx bv => wN (.cells ⟨[.slice none 0 0, .slice none 0 0]⟩ 85 (0, 0)) bv fun x bm ad => NA (wV (.agg #[.slice W C.Slots.length U, .slice X C.Waiting.length V]) bm (eL true 2 0 (ad.blk 0 rfl)) ?_))
 obtain ⟨ai, cw, hm⟩ := gx_bind hm
 refine WC ((c_i_newQueue bm C W U (cf.mem0 ad) X V (cg.mem0 ad) cw).mono ?_)
 rintro e_ dy ⟨c, m, c3, ar, an, c4, rfl, cm, cn, bp⟩
 have bw := ad.call bp
 refine ⟨_, rfl, ?_⟩
 refine wN (.cells ⟨[.slice none 0 0, .slice none 0 0]⟩ 85 (0, 0)) bw fun l dz bx => wS true 2 0 (.agg #[.slice c ai.Slots.length m, .slice ar ai.Waiting.length an]) 4 [.slice c ai.Slots.length m, .slice ar ai.Waiting.length an] bx rfl fun d0 bz => NE ?_
 obtain ⟨y, c2, cl⟩ := gx_bind hm
 refine G_meet (fun a w' => ∃ (F : Option Addr), ∃ (D : Nat), ∃ (aj : Seg), ∃ (ak : Seg), ownS encWaiter y.1 F D aj ∧ ownS encSlot y.2 c m ak ∧ Mem [] w w' [[(x, .cells ⟨[.slice none 0 0, .slice none 0 0]⟩ 85 (0, 0))], [(l, .cells ⟨[.slice c y.2.length m, .slice F y.1.length D]⟩ 85 (0, 0))], aj, ak] ∧ Sat Tryz.f182.ntmps [(2, pB x 0), (3, pB l 0)] a) ?_ ?_
 ·refine GB (G_while (σ := List Waiter × List Slot) (ρ := List Waiter × List Slot) (fun d a w' => ∃ (t : Option Addr), ∃ (n : Nat), ∃ (S : Seg), ∃ (T : Seg), ownS encWaiter d.1 t n S ∧ ownS encSlot d.2 c m T ∧ Mem [] w w' [[(x, .cells ⟨[.slice none 0 0, .slice none 0 0]⟩ 85 (0, 0))], [(l, .cells ⟨[.slice c d.2.length m, .slice t d.1.length n]⟩ 85 (0, 0))], S, T] ∧ Sat Tryz.f182.ntmps [(2, pB x 0), (3, pB l 0)] a) c2 (fun a ha => ⟨ar, an, c4, c3, cn, cm, bz.pk [1, 4, 3, 2], ha.s⟩) ?_)
  clear hm
  intro d d7 hm cv dt bn ⟨t, n, S, T, Q, O, ae, ch⟩
  refine G_use ch (QB (wV (.agg #[.slice c d.2.length m, .slice t d.1.length n]) bn (eL true 2 0 (ae.blk 1 rfl)) ?_))
  obtain ⟨bi, cx, hm⟩ := gx_bind hm
  refine WD (c_i_isSettled bn (⟨d.2, d.1⟩ : Queue) c m (O.r ae 3) t n (Q.r ae 2) cx) ae fun c6 av => wR 1 [(2, pB x 0), (3, pB l 0), (10, .bool (!bi))] c6 (NO ?_)
  rcases gx_bif hm with ⟨ao, hm⟩ | ⟨ao, hm⟩
  ·refine gT ao (GK (TN (GB (GS ?_))))
   obtain ⟨q, bd, hm⟩ := gx_bind hm
   obtain ⟨I, cy, hm⟩ := gx_bind hm
   refine G_sub [(2, pB x 0), (3, pB l 0), (10, .bool (!bi))] (by kernel_rfl) (G_dagL 8 [[], [0], [1], [2], [], [4], [5], []] [[], [], [], [], [], [], [], []] [[], [], [], [], [], [], [], []] [[], [], [], [], [], [], [], []] [[], [], [], [], [], [], [], []] [[], [], [], [], [], [], [], []] (fun _ => []) (fun i => ([fun f v s => v = (pB l 1 : Value) ∧ s = [], fun f v s => v = (.slice t d.1.length n : Value) ∧ s = [], fun f v s => v = (elemP t ((0 : Int).toNat * 2) : Value) ∧ s = [], fun f v s => v = (.agg #[iv q.Irq, iv q.Priority] : Value) ∧ s = [], fun f v s => v = (pB l 0 : Value) ∧ s = [], fun f v s => v = (.slice c d.2.length m : Value) ∧ s = [], fun f v s => v = (iv I : Value) ∧ s = [], fun f v s => ∃ (u : Nat), v = (pB u 0 : Value) ∧ s = [(u, .cells ⟨[iv 0, iv 0]⟩ 142 (0, 0))]] : List ((Nat → Value) → Value → Seg → Prop)).getD i (fun _ _ _ => False)) (fun j f v => ∃ s, (fun i => ([fun f v s => v = (pB l 1 : Value) ∧ s = [], fun f v s => v = (.slice t d.1.length n : Value) ∧ s = [], fun f v s => v = (elemP t ((0 : Int).toNat * 2) : Value) ∧ s = [], fun f v s => v = (.agg #[iv q.Irq, iv q.Priority] : Value) ∧ s = [], fun f v s => v = (pB l 0 : Value) ∧ s = [], fun f v s => v = (.slice c d.2.length m : Value) ∧ s = [], fun f v s => v = (iv I : Value) ∧ s = [], fun f v s => ∃ (u : Nat), v = (pB u 0 : Value) ∧ s = [(u, .cells ⟨[iv 0, iv 0]⟩ 142 (0, 0))]] : List ((Nat → Value) → Value → Seg → Prop)).getD i (fun _ _ _ => False)) j f v s) [] [3, 6, 7] [7] (fun _ _ _ s h => ⟨s, h⟩) (by kernel_rfl) (by kernel_rfl) (av.preNil 8) (by kernel_rfl) (by kernel_rfl) (by kernel_rfl) (by kernel_rfl) (allOb_cons ?_ (allOb_cons ?_ (allOb_cons ?_ (allOb_cons ?_ (allOb_cons ?_ (allOb_cons ?_ (allOb_cons ?_ (allOb_cons ?_ allOb_nil)))))))) ?_)
   ·intro H K
    intro R c7 b0
    exact MW 1 (WN (oE (pB l 1) [] ⟨by kernel_rfl, rfl⟩ b0))
   ·intro H K
    intro v0_ hb0_
    obtain ⟨rfl, _⟩ := hb0_
    intro R c8 aw
    exact wV (.slice t d.1.length n) c8 (eL false 1 1 (aw.blk 1 rfl)) (WN (oE (.slice t d.1.length n) [] ⟨by kernel_rfl, rfl⟩ aw))
   ·intro H K
    intro v1_ hb1_
    obtain ⟨rfl, _⟩ := hb1_
    intro R c9 ax
    exact wV (elemP t ((0 : Int).toNat * 2)) c9 (eI (Q.r ax 2) rfl bd) (WN (oE (elemP t ((0 : Int).toNat * 2)) [] ⟨by kernel_rfl, rfl⟩ ax))
   ·intro H K
    intro v2_ hb2_
    obtain ⟨rfl, _⟩ := hb2_
    intro R da ay
    exact wV (.agg #[iv q.Irq, iv q.Priority]) da (eE true 2 0 ((0 : Int).toNat * 2) (Q.r ay 2) bd) (WN (oE (.agg #[iv q.Irq, iv q.Priority]) [] ⟨by kernel_rfl, rfl⟩ ay))
   ·intro H K
    intro R db b1
    exact MW 1 (WN (oE (pB l 0) [] ⟨by kernel_rfl, rfl⟩ b1))
   ·intro H K
    intro v4_ hb4_
    obtain ⟨rfl, _⟩ := hb4_
    intro R dc az
    exact wV (.slice c d.2.length m) dc (eL false 1 0 (az.blk 1 rfl)) (WN (oE (.slice c d.2.length m) [] ⟨by kernel_rfl, rfl⟩ az))
   ·intro H K
    intro v5_ hb5_
    obtain ⟨rfl, _⟩ := hb5_
    intro R dd a0
    refine WC ((c_i_firstEmpty dd d.2 c m (O.r a0 3) cy).mono ?_)
    rintro e_ d1 ⟨rfl, br⟩
    refine ⟨_, rfl, ?_⟩
    exact WN (oE (iv I) [] ⟨rfl, rfl⟩ (a0.call0 br))
   ·intro H K
    intro R d2 b2
    exact wN (.cells ⟨[iv 0, iv 0]⟩ 142 (0, 0)) b2 fun u d3 b3 => WN (oE (pB u 0) [(u, .cells ⟨[iv 0, iv 0]⟩ 142 (0, 0))] ⟨u, rfl, rfl⟩ (Mem.mid b3))
   intro H K
   intro v3_ hb3_
   obtain ⟨rfl, _⟩ := hb3_
   intro v6_ hb6_
   obtain ⟨rfl, _⟩ := hb6_
   intro v7_ hb7_
   obtain ⟨u, rfl, hs7_⟩ := hb7_
   intro de b4
   have a3 : Mem [] w de [[(x, .cells ⟨[.slice none 0 0, .slice none 0 0]⟩ 85 (0, 0))], [(l, .cells ⟨[.slice c d.2.length m, .slice t d.1.length n]⟩ 85 (0, 0))], S, T, (H 7)] := b4
   rw [hs7_] at a3
   refine wS true 2 0 (.agg #[iv q.Irq, iv q.Priority]) 4 [iv q.Irq, iv q.Priority] a3 rfl fun ac am => MW 1 (NA (wR 1 [(2, pB x 0), (3, pB l 0), (4, pB u 0), (5, iv I), (18, pB l 1)] ac (wV (.slice t d.1.length n) ac (eL false 1 1 (am.blk 1 rfl)) ?_)))
   obtain ⟨G, aq, hm⟩ := gx_bind hm
   refine wV (.slice (subP t (1 : Int).toNat n 2) G.length (n - (1 : Int).toNat)) ac (E_slice (E := encWaiter) _ _ _ _ d.1.length 1 (d.1.length : Int) rfl (by kernel_rfl) (Or.inr ⟨_, rfl, by kernel_rfl⟩) (Or.inl ⟨rfl, rfl⟩) (by kernel_rfl) (Q.r am 2) rfl aq) (wR 1 [(2, pB x 0), (3, pB l 0), (4, pB u 0), (5, iv I), (20, .slice (subP t (1 : Int).toNat n 2) G.length (n - (1 : Int).toNat)), (21, pB l 1)] ac (wS false 1 1 (.slice (subP t (1 : Int).toNat n 2) G.length (n - (1 : Int).toNat)) 1 [.slice c d.2.length m, .slice (subP t (1 : Int).toNat n 2) G.length (n - (1 : Int).toNat)] am rfl fun al af => NB (wR 2 [(2, pB x 0), (3, pB l 0), (4, pB u 0), (5, iv I), (23, .bool (decide (I < 0)))] al (NO ?_))))
   obtain ⟨A, cq, ck⟩ := gx_bind hm
   refine G_meet (fun a w' => ∃ (aa : Option Addr), ∃ (Z : Nat), ∃ (ab : Seg), ownS encWaiter A.2 aa Z ab ∧ Mem [] w w' [[(x, .cells ⟨[.slice none 0 0, .slice none 0 0]⟩ 85 (0, 0))], [(l, .cells ⟨[.slice c d.2.length m, .slice aa A.2.length Z]⟩ 85 (0, 0))], T, [(u, .cells ⟨[iv q.Irq, iv q.Priority]⟩ 142 (0, 0))], ab] ∧ Sat Tryz.f182.ntmps [(2, pB x 0), (3, pB l 0), (4, pB u 0), (5, iv A.1)] a) ?_ ?_
   ·have hm := cq
    rcases gx_bif hm with ⟨ap, hm⟩ | ⟨ap, hm⟩
    ·refine gT ap (QA (wR 1 [(2, pB x 0), (3, pB l 0), (4, pB u 0), (5, iv I), (24, pB l 0)] al (wV (.slice c d.2.length m) al (eL false 1 0 (af.blk 1 rfl)) ?_)))
     obtain ⟨B, cz, hm⟩ := gx_bind hm
     refine WD (c_i_pendingSlot al d.2 c m (O.r af 3) false cz) af fun df b5 => wR 1 [(2, pB x 0), (3, pB l 0), (4, pB u 0), (5, iv B)] df (NO ?_)
     obtain ⟨z, be, hm⟩ := gx_bind hm
     obtain ⟨J, c0, hm⟩ := gx_bind hm
     refine G_sub [(2, pB x 0), (3, pB l 0), (4, pB u 0), (5, iv B)] (by kernel_rfl) (G_dagL 8 [[], [0], [], [2], [], [3, 4], [5], [6]] [[], [], [], [], [], [], [], []] [[], [], [], [], [], [], [], []] [[], [], [], [], [], [], [], []] [[], [], [], [], [], [], [], []] [[], [], [], [], [], [], [], []] (fun _ => []) (fun i => ([fun f v s => v = (pB l 1 : Value) ∧ s = [], fun f v s => v = (.slice (subP t (1 : Int).toNat n 2) G.length (n - (1 : Int).toNat) : Value) ∧ s = [], fun f v s => v = (pB l 0 : Value) ∧ s = [], fun f v s => v = (.slice c d.2.length m : Value) ∧ s = [], fun f v s => v = (iv B : Value) ∧ s = [], fun f v s => v = (elemP c (B.toNat * 3) : Value) ∧ s = [], fun f v s => v = (.agg #[iv z.State, iv z.Irq, iv z.Priority] : Value) ∧ s = [], fun f v s => v = (.agg #[iv J.Irq, iv J.Priority] : Value) ∧ s = []] : List ((Nat → Value) → Value → Seg → Prop)).getD i (fun _ _ _ => False)) (fun j f v => ∃ s, (fun i => ([fun f v s => v = (pB l 1 : Value) ∧ s = [], fun f v s => v = (.slice (subP t (1 : Int).toNat n 2) G.length (n - (1 : Int).toNat) : Value) ∧ s = [], fun f v s => v = (pB l 0 : Value) ∧ s = [], fun f v s => v = (.slice c d.2.length m : Value) ∧ s = [], fun f v s => v = (iv B : Value) ∧ s = [], fun f v s => v = (elemP c (B.toNat * 3) : Value) ∧ s = [], fun f v s => v = (.agg #[iv z.State, iv z.Irq, iv z.Priority] : Value) ∧ s = [], fun f v s => v = (.agg #[iv J.Irq, iv J.Priority] : Value) ∧ s = []] : List ((Nat → Value) → Value → Seg → Prop)).getD i (fun _ _ _ => False)) j f v s) [] [1, 7] [] (fun _ _ _ s h => ⟨s, h⟩) (by kernel_rfl) (by kernel_rfl) (b5.preNil 8) (by kernel_rfl) (by kernel_rfl) (by kernel_rfl) (by kernel_rfl) (allOb_cons ?_ (allOb_cons ?_ (allOb_cons ?_ (allOb_cons ?_ (allOb_cons ?_ (allOb_cons ?_ (allOb_cons ?_ (allOb_cons ?_ allOb_nil)))))))) ?_)
     ·intro N L
      intro R dg b6
      exact MW 1 (WN (oE (pB l 1) [] ⟨by kernel_rfl, rfl⟩ b6))
     ·intro N L
      intro v0_ hb0_
      obtain ⟨rfl, _⟩ := hb0_
      intro R dh a4
      exact wV (.slice (subP t (1 : Int).toNat n 2) G.length (n - (1 : Int).toNat)) dh (eL false 1 1 (a4.blk 1 rfl)) (WN (oE (.slice (subP t (1 : Int).toNat n 2) G.length (n - (1 : Int).toNat)) [] ⟨by kernel_rfl, rfl⟩ a4))
     ·intro N L
      intro R di b7
      exact MW 1 (WN (oE (pB l 0) [] ⟨by kernel_rfl, rfl⟩ b7))
     ·intro N L
      intro v2_ hb2_
      obtain ⟨rfl, _⟩ := hb2_
      intro R dj a5
      exact wV (.slice c d.2.length m) dj (eL false 1 0 (a5.blk 1 rfl)) (WN (oE (.slice c d.2.length m) [] ⟨by kernel_rfl, rfl⟩ a5))
     ·intro N L
      intro R dk b8
      exact MW 1 (WN (oE (iv B) [] ⟨by kernel_rfl, rfl⟩ b8))
     ·intro N L
      intro v3_ hb3_
      obtain ⟨rfl, _⟩ := hb3_
      intro v4_ hb4_
      obtain ⟨rfl, _⟩ := hb4_
      intro R dl a6
      exact wV (elemP c (B.toNat * 3)) dl (eI (O.r a6 3) rfl be) (WN (oE (elemP c (B.toNat * 3)) [] ⟨by kernel_rfl, rfl⟩ a6))
     ·intro N L
      intro v5_ hb5_
      obtain ⟨rfl, _⟩ := hb5_
      intro R dm a7
      exact wV (.agg #[iv z.State, iv z.Irq, iv z.Priority]) dm (eE true 3 0 (B.toNat * 3) (O.r a7 3) be) (WN (oE (.agg #[iv z.State, iv z.Irq, iv z.Priority]) [] ⟨by kernel_rfl, rfl⟩ a7))
     ·intro N L
      intro v6_ hb6_
      obtain ⟨rfl, _⟩ := hb6_
      intro R dn b9
      refine WC ((c_i_waiterOf dn z c0).mono ?_)
      rintro e_ d4 ⟨rfl, bt⟩
      refine ⟨_, rfl, ?_⟩
      exact WN (oE (.agg #[iv J.Irq, iv J.Priority]) [] ⟨rfl, rfl⟩ (b9.call0 bt))
     intro N L
     intro v1_ hb1_
     obtain ⟨rfl, _⟩ := hb1_
     intro v7_ hb7_
     obtain ⟨rfl, _⟩ := hb7_
     intro bo ca
     have a8 : Mem [] w bo [[(x, .cells ⟨[.slice none 0 0, .slice none 0 0]⟩ 85 (0, 0))], [(l, .cells ⟨[.slice c d.2.length m, .slice (subP t (1 : Int).toNat n 2) G.length (n - (1 : Int).toNat)]⟩ 85 (0, 0))], S, T, [(u, .cells ⟨[iv q.Irq, iv q.Priority]⟩ 142 (0, 0))]] := ca
     obtain ⟨au, c1, hm⟩ := gx_bind hm
     refine WC ((c_i_withWaiter bo G (subP t (1 : Int).toNat n 2) (n - (1 : Int).toNat) ((Q.r a8 2).sliceM aq) J c1).mono ?_)
     rintro e_ dp ⟨ah, ag, c5, rfl, ct, bu⟩
     have cb := a8.call bu
     refine ⟨_, rfl, ?_⟩
     refine wR 1 [(2, pB x 0), (3, pB l 0), (4, pB u 0), (5, iv B), (35, .slice ah au.length ag), (36, pB l 1)] dp (wS false 1 1 (.slice ah au.length ag) 1 [.slice c d.2.length m, .slice ah au.length ag] cb rfl fun d5 cc => WN ?_)
     obtain rfl := HS hm
     exact N_meet fun a ha => ⟨ah, ag, c5, ct, cc.pk [0, 1, 3, 4, 5], ha.s⟩
    refine gF ap (GK ?_)
    obtain rfl := HS hm
    exact N_meet fun a ha => ⟨(subP t (1 : Int).toNat n 2), (n - (1 : Int).toNat), S, (Q.partM aq), af.pk [0, 1, 3, 4, 2], ha.s⟩
   intro du P ⟨aa, Z, ab, cr, Y, ci⟩
   refine N_use ci ?_
   have hm := ck
   refine TN (GR (MW 1 (wV (.slice c d.2.length m) P (eL false 1 0 (Y.blk 1 rfl)) (MW 2 (wV (iv q.Irq) P (eL false 1 0 (Y.blk 3 rfl)) (MW 1 (wV (iv q.Priority) P (eL false 1 1 (Y.blk 3 rfl)) (wR 1 [(2, pB x 0), (3, pB l 0), (38, .slice c d.2.length m), (39, iv A.1), (44, .agg #[iv 1, iv q.Irq, iv q.Priority])] P ?_))))))))
   obtain ⟨ds, bf, hm⟩ := gx_bind hm
   refine wV (elemP c (A.1.toNat * 3)) P (eI (O.r Y 2) rfl bf) (wE true 3 A.1.toNat 0 (A.1.toNat * 3) ds (⟨1, q.Irq, q.Priority⟩ : Slot) (.agg #[iv 1, iv q.Irq, iv q.Priority]) 2 Y O (gxIdx_spec bf).2 fun dq bl cu cd => LX 38 c m d.2 A.1.toNat (⟨1, q.Irq, q.Priority⟩ : Slot) ?_)
   have ce : Mem [] w dq [[(x, .cells ⟨[.slice none 0 0, .slice none 0 0]⟩ 85 (0, 0))], [(l, .cells ⟨[.slice c (d.2.set A.1.toNat (⟨1, q.Irq, q.Priority⟩ : Slot)).length m, .slice aa A.2.length Z]⟩ 85 (0, 0))], bl, [(u, .cells ⟨[iv q.Irq, iv q.Priority]⟩ 142 (0, 0))], ab] := by rw [@List.length_set _ d.2 A.1.toNat (⟨1, q.Irq, q.Priority⟩ : Slot)]; exact cd
   refine WN (BN ?_)
   cases hm
   exact N_loop fun a ha => ⟨_, rfl, aa, Z, ab, bl, cr, cu, ce.pk [0, 1, 4, 2], ha.s⟩
  refine gF ao (XA ?_)
  obtain rfl := HS hm
  obtain rfl := cv _ rfl
  exact N_meet fun a ha => ⟨t, n, S, T, Q, O, av.pk [0, 1, 2, 3], ha.s⟩
 intro dv dr ⟨F, D, aj, ak, co, cp, a9, cj⟩
 refine N_use cj ?_
 have hm := cl
 refine NF (wV (.agg #[.slice c y.2.length m, .slice F y.1.length D]) dr (eL true 2 0 (a9.blk 1 rfl)) (wS true 2 0 (.agg #[.slice c y.2.length m, .slice F y.1.length D]) 0 [.slice c y.2.length m, .slice F y.1.length D] a9 rfl fun d6 ba => NC ?_))
 obtain rfl := HS hm
 exact N_ret [.agg #[.slice c y.2.length m, .slice F y.1.length D]] (RX true 2 0 (ba.blk 0 rfl) RVs_nil) (⟨c, m, ak, F, D, aj, rfl, cp, co, ba.pk [3, 2]⟩)
theorem c_i_offerIrq (w : World) (c : Queue) (m : Option Addr) (j : Nat) (aa : rdS encSlot w c.Slots m j) (n : Option Addr) (l : Nat) (ab : rdS encWaiter w c.Waiting n l) (d : Int) (i : Int) {r : Queue} (hm : M.i_offerIrq c d i = some r) :
  Calls Tryz.prog 179 #[.agg #[.slice m c.Slots.length j, .slice n c.Waiting.length l], iv d, iv i] w fun e w' => ∃ (an : Option Addr) (aj : Nat) (ap : Seg), ∃ (ao : Option Addr) (ak : Nat) (aq : Seg), e = .returned (.agg #[.slice an r.Slots.length aj, .slice ao r.Waiting.length ak]) ∧ ownS encSlot r.Slots an aj ap ∧ ownS encWaiter r.Waiting ao ak aq ∧ Mem [] w w' [ap, aq] := by
 unfold M.i_offerIrq at hm
 refine cE Tryz.func179 ?_
 have M0 := Mem.refl [] w
 refine QA (wN (.cells ⟨[.slice m c.Slots.length j, .slice n c.Waiting.length l]⟩ 85 (0, 0)) M0 fun t b9 a5 => wN (.cells ⟨[.slice none 0 0, .slice none 0 0]⟩ 85 (0, 0)) a5 fun f av O => NA (wV (.agg #[.slice m c.Slots.length j, .slice n c.Waiting.length l]) av (eL true 2 0 (O.blk 0 rfl)) ?_))
 obtain ⟨C, bs, hm⟩ := gx_bind hm
 refine WC ((c_i_newQueue av c m j (aa.mem0 O) n l (ab.mem0 O) bs).mono ?_)
 rintro e_ ca ⟨K, I, ar, L, J, au, rfl, bi, al, ax⟩
 have a6 := O.call ax
 refine ⟨_, rfl, ?_⟩
 refine wN (.cells ⟨[.slice none 0 0, .slice none 0 0]⟩ 85 (0, 0)) a6 fun h cb a7 => wS true 2 0 (.agg #[.slice K C.Slots.length I, .slice L C.Waiting.length J]) 4 [.slice K C.Slots.length I, .slice L C.Waiting.length J] a7 rfl fun Y Z => NE (GB (QA (MW 1 (wV (.slice m c.Slots.length j) Y (eL false 1 0 (Z.blk 0 rfl)) (wR 1 [(1, iv d), (2, iv i), (3, pB t 0), (6, pB f 0), (7, pB h 0), (12, .slice m c.Slots.length j), (13, iv d)] Y ?_)))))
 obtain ⟨bz, bt, hm⟩ := gx_bind hm
 refine WD (c_i_findSlot Y c.Slots m j (aa.mem0 Z) d bt) Z fun x D => wR 2 [(1, iv d), (2, iv i), (3, pB t 0), (6, pB f 0), (7, pB h 0), (10, .bool (decide (bz ≥ 0)))] x (NO ?_)
 obtain ⟨u, bj, bg⟩ := gx_bind hm
 refine G_meet (fun a w' => ∃ (G : Option Addr), ∃ (E : Nat), ∃ (ag : Seg), ∃ (H : Option Addr), ∃ (F : Nat), ∃ (ah : Seg), ownS encSlot u.1 G E ag ∧ ownS encWaiter u.2 H F ah ∧ Mem [] w w' [[(f, .cells ⟨[.slice none 0 0, .slice none 0 0]⟩ 85 (0, 0))], [(h, .cells ⟨[.slice G u.1.length E, .slice H u.2.length F]⟩ 85 (0, 0))], ag, ah] ∧ Sat Tryz.f179.ntmps [(6, pB f 0), (7, pB h 0)] a) ?_ ?_
 ·have hm := bj
  rcases gx_bif hm with ⟨ac, hm⟩ | ⟨ac, hm⟩
  ·refine gT ac (GR (MW 1 (wV (.slice m c.Slots.length j) x (eL false 1 0 (D.blk 0 rfl)) (wR 2 [(6, pB f 0), (7, pB h 0), (18, .slice m c.Slots.length j), (19, iv d), (20, iv i)] x ?_))))
   obtain ⟨ae, bu, hm⟩ := gx_bind hm
   refine WC ((c_i_putIrq x c.Slots m j (aa.mem0 D) d i bu).mono ?_)
   rintro e_ b5 ⟨U, R, b1, rfl, bm, az⟩
   have a8 := D.call az
   refine ⟨_, rfl, ?_⟩
   refine wR 4 [(6, pB f 0), (7, pB h 0), (22, .slice U ae.1.length R), (24, pB h 0)] b5 (wS false 1 0 (.slice U ae.1.length R) 4 [.slice U ae.1.length R, .slice L C.Waiting.length J] a8 rfl fun cc a9 => WN ?_)
   obtain rfl := HS hm
   exact N_meet fun a ha => ⟨U, R, b1, L, J, au, bm, al, a9.pk [1, 4, 5, 3], ha.s⟩
  refine gF ac (QA (MW 1 (wV (.slice n c.Waiting.length l) x (eL false 1 1 (D.blk 0 rfl)) (wR 1 [(1, iv d), (2, iv i), (3, pB t 0), (6, pB f 0), (7, pB h 0), (27, .slice n c.Waiting.length l), (28, iv d)] x ?_))))
  obtain ⟨b0, bv, hm⟩ := gx_bind hm
  refine WD (c_i_waiterIndex x c.Waiting n l (ab.mem0 D) d bv) D fun N P => wR 2 [(1, iv d), (2, iv i), (3, pB t 0), (6, pB f 0), (7, pB h 0), (25, .bool (decide (b0 < 0)))] N (NO ?_)
  obtain ⟨am, bn, bh⟩ := gx_bind hm
  refine G_meet (fun a w' => ∃ (V : Option Addr), ∃ (S : Nat), ∃ (X : Seg), ownS encWaiter am V S X ∧ Mem [] w w' [[(f, .cells ⟨[.slice none 0 0, .slice none 0 0]⟩ 85 (0, 0))], ar, [(h, .cells ⟨[.slice K C.Slots.length I, .slice V am.length S]⟩ 85 (0, 0))], X] ∧ Sat Tryz.f179.ntmps [(6, pB f 0), (7, pB h 0)] a) ?_ ?_
  ·have hm := bn
   rcases gx_bif hm with ⟨ad, hm⟩ | ⟨ad, hm⟩
   ·refine gT ad (GR (MW 1 (wV (.slice n c.Waiting.length l) N (eL false 1 1 (P.blk 0 rfl)) (wR 3 [(6, pB f 0), (7, pB h 0), (32, .slice n c.Waiting.length l), (35, .agg #[iv d, iv i])] N ?_))))
    obtain ⟨af, bw, hm⟩ := gx_bind hm
    refine WC ((c_i_withWaiter N c.Waiting n l (ab.mem0 P) (⟨d, i⟩ : Waiter) bw).mono ?_)
    rintro e_ b6 ⟨W, T, b2, rfl, bp, a3⟩
    have ba := P.call a3
    refine ⟨_, rfl, ?_⟩
    refine wR 1 [(6, pB f 0), (7, pB h 0), (36, .slice W af.length T), (37, pB h 1)] b6 (wS false 1 1 (.slice W af.length T) 4 [.slice K C.Slots.length I, .slice W af.length T] ba rfl fun cd bb => WN ?_)
    obtain rfl := HS hm
    exact N_meet fun a ha => ⟨W, T, b2, bp, bb.pk [1, 2, 4, 5], ha.s⟩
   refine gF ad (GK ?_)
   obtain rfl := HS hm
   exact N_meet fun a ha => ⟨L, J, au, al, P.pk [1, 2, 4, 3], ha.s⟩
  intro b7 ce ⟨V, S, X, bo, bc, be⟩
  refine N_use be ?_
  have hm := bh
  obtain rfl := HS hm
  exact N_meet fun a ha => ⟨K, I, ar, V, S, X, bi, bo, bc.pk [0, 2, 1, 3], ha.s⟩
 intro b8 aw ⟨G, E, ag, H, F, ah, bk, bl, Q, bf⟩
 refine N_use bf ?_
 have hm := bg
 refine BN (NF (wV (.agg #[.slice G u.1.length E, .slice H u.2.length F]) aw (eL true 2 0 (Q.blk 1 rfl)) ?_))
 obtain ⟨q, bx, hm⟩ := gx_bind hm
 refine WC ((c_i_settled aw (⟨u.1, u.2⟩ : Queue) G E (bk.r Q 2) H F (bl.r Q 3) bx).mono ?_)
 rintro e_ cf ⟨A, y, b3, B, z, b4, rfl, bq, br, a4⟩
 have bd := Q.call a4
 refine ⟨_, rfl, ?_⟩
 refine wS true 2 0 (.agg #[.slice A q.Slots.length y, .slice B q.Waiting.length z]) 0 [.slice A q.Slots.length y, .slice B q.Waiting.length z] bd rfl fun cg ai => NC ?_
 obtain rfl := HS hm
 exact N_ret [.agg #[.slice A q.Slots.length y, .slice B q.Waiting.length z]] (RX true 2 0 (ai.blk 0 rfl) RVs_nil) (⟨A, y, b3, B, z, b4, rfl, bq, br, ai.pk [4, 5]⟩)
theorem c_i_raiseIrq (w : World) (a : Interface) (y : Option Addr) (x : Nat) (ag : rdS Gx.encI w a.Stack y x) (t : Option Addr) (n : Nat) (O : rdS encSlot w a.Queue.Slots t n) (u : Option Addr) (q : Nat) (P : rdS encWaiter w a.Queue.Waiting u q) (z : Int) (A : Int) {r : Interface} (hm : M.i_raiseIrq a z A = some r) :
  Calls Tryz.prog 137 #[.agg #[iv a.Mask, .slice y a.Stack.length x, .slice t a.Queue.Slots.length n, .slice u a.Queue.Waiting.length q], iv z, iv A] w fun e w' => ∃ (Q : Option Addr) (I : Nat) (V : Seg), ∃ (R : Option Addr) (J : Nat) (W : Seg), ∃ (S : Option Addr) (K : Nat) (X : Seg), e = .returned (.agg #[iv r.Mask, .slice Q r.Stack.length I, .slice R r.Queue.Slots.length J, .slice S r.Queue.Waiting.length K]) ∧ ownS Gx.encI r.Stack Q I V ∧ ownS encSlot r.Queue.Slots R J W ∧ ownS encWaiter r.Queue.Waiting S K X ∧ Mem [] w w' [V, W, X] := by
 unfold M.i_raiseIrq at hm
 refine cE Tryz.func137 ?_
 have M0 := Mem.refl [] w
 refine QA (wN (.cells ⟨[iv a.Mask, .slice y a.Stack.length x, .slice t a.Queue.Slots.length n, .slice u a.Queue.Waiting.length q]⟩ 87 (0, 0)) M0 fun af ax ab => wN (.cells ⟨[iv 0, .slice none 0 0, .slice none 0 0, .slice none 0 0]⟩ 87 (0, 0)) ab fun C Y B => NA (wV (.agg #[iv a.Mask, .slice y a.Stack.length x, .slice t a.Queue.Slots.length n, .slice u a.Queue.Waiting.length q]) Y (eL true 4 0 (B.blk 0 rfl)) ?_))
 obtain ⟨c, ak, hm⟩ := gx_bind hm
 refine WC ((c_i_newInterface Y a y x (ag.mem0 B) t n (O.mem0 B) u q (P.mem0 B) ak).mono ?_)
 rintro e_ ay ⟨j, f, am, T, L, av, U, N, aw, rfl, ah, ar, au, Z⟩
 have ac := B.call Z
 refine ⟨_, rfl, ?_⟩
 refine wN (.cells ⟨[iv 0, .slice none 0 0, .slice none 0 0, .slice none 0 0]⟩ 87 (0, 0)) ac fun E az ad => wS true 4 0 (.agg #[iv c.Mask, .slice j c.Stack.length f, .slice T c.Queue.Slots.length L, .slice U c.Queue.Waiting.length N]) 5 [iv c.Mask, .slice j c.Stack.length f, .slice T c.Queue.Slots.length L, .slice U c.Queue.Waiting.length N] ad rfl fun F D => NA (MW 1 (wV (.agg #[.slice t a.Queue.Slots.length n, .slice u a.Queue.Waiting.length q]) F (eL true 2 2 (D.blk 0 rfl)) (wR 2 [(6, pB C 0), (7, pB E 0), (11, .agg #[.slice t a.Queue.Slots.length n, .slice u a.Queue.Waiting.length q]), (12, iv z), (13, iv A)] F ?_)))
 obtain ⟨d, al, hm⟩ := gx_bind hm
 refine WC ((c_i_offerIrq F a.Queue t n (O.mem0 D) u q (P.mem0 D) z A al).mono ?_)
 rintro e_ ap ⟨l, h, an, m, i, ao, rfl, ai, aj, aa⟩
 have ae := D.call aa
 refine ⟨_, rfl, ?_⟩
 refine wR 1 [(6, pB C 0), (7, pB E 0), (14, .agg #[.slice l d.Slots.length h, .slice m d.Waiting.length i]), (15, pB E 2)] ap (wS true 2 2 (.agg #[.slice l d.Slots.length h, .slice m d.Waiting.length i]) 5 [iv c.Mask, .slice j c.Stack.length f, .slice l d.Slots.length h, .slice m d.Waiting.length i] ae rfl fun aq G => NA (wV (.agg #[iv c.Mask, .slice j c.Stack.length f, .slice l d.Slots.length h, .slice m d.Waiting.length i]) aq (eL true 4 0 (G.blk 5 rfl)) (wS true 4 0 (.agg #[iv c.Mask, .slice j c.Stack.length f, .slice l d.Slots.length h, .slice m d.Waiting.length i]) 1 [iv c.Mask, .slice j c.Stack.length f, .slice l d.Slots.length h, .slice m d.Waiting.length i] G rfl fun a0 H => NC ?_)))
 obtain rfl := HS hm
 exact N_ret [.agg #[iv c.Mask, .slice j c.Stack.length f, .slice l d.Slots.length h, .slice m d.Waiting.length i]] (RX true 4 0 (H.blk 1 rfl) RVs_nil) (⟨j, f, am, l, h, an, m, i, ao, rfl, ah, ai, aj, H.pk [2, 6, 7]⟩)
theorem c_i_Machine_sync (w : World) (b : Machine) (m : Option Addr) (n : Nat) (C : Seg) (a5 : ownS encRoute b.Routes m n C) (A : Option Addr) (B : Nat) (D : Seg) (a6 : ownS Gx.encB b.Enabled A B D) (t : Option Addr) (u : Nat) (G : Seg) (cq : ownS Gx.encB b.Raised t u G) (g : Option Addr) (z : Nat) (H : Seg) (I : Seg) (cr : ownD deepInterface b.Cpus g z H I) (k : Nat) (hA : ∀ q ∈ List.flatten [[(k, .cells ⟨[.slice m b.Routes.length n, .slice A b.Enabled.length B, .slice t b.Raised.length u, .slice g b.Cpus.length z]⟩ 32 (0, 0))], C, D, G, H, I], w.heap[q.1]? = some q.2) (hN : (idsOf [[(k, .cells ⟨[.slice m b.Routes.length n, .slice A b.Enabled.length B, .slice t b.Raised.length u, .slice g b.Cpus.length z]⟩ 32 (0, 0))], C, D, G, H, I]).Nodup) {r : (List Route) × (List Bool) × (List Bool) × (List Interface)} (hm : M.i_Machine_sync b = some r) :
  Calls Tryz.prog 79 #[pB k 0] w fun e w' => ∃ (bo : Option Addr) (bg : Nat) (bs : Seg), ∃ (bp : Option Addr) (bh : Nat) (bt : Seg), ∃ (bq : Option Addr) (bi : Nat) (bu : Seg), ∃ (br : Option Addr) (bj : Nat) (bv : Seg) (bw : Seg), e = .returned (.tuple #[]) ∧ ownS encRoute r.1 bo bg bs ∧ ownS Gx.encB r.2.1 bp bh bt ∧ ownS Gx.encB r.2.2.1 bq bi bu ∧ ownD deepInterface r.2.2.2 br bj bv bw ∧ Mem (idsOf [[(k, .cells ⟨[.slice m b.Routes.length n, .slice A b.Enabled.length B, .slice t b.Raised.length u, .slice g b.Cpus.length z]⟩ 32 (0, 0))], C, D, G, H, I]) w w' [[(k, .cells ⟨[.slice bo r.1.length bg, .slice bp r.2.1.length bh, .slice bq r.2.2.1.length bi, .slice br r.2.2.2.length bj]⟩ 32 (0, 0))], bs, bt, bu, bv, bw] := by
 unfold M.i_Machine_sync at hm
 refine cE Tryz.func79 ?_
 have M0 := Mem.start' w [[(k, .cells ⟨[.slice m b.Routes.length n, .slice A b.Enabled.length B, .slice t b.Raised.length u, .slice g b.Cpus.length z]⟩ 32 (0, 0))], C, D, G, H, I] hA hN
 refine QA (MW 3 (wV (.slice m b.Routes.length n) w (eL false 1 0 (M0.blk 0 rfl)) (wR 2 [(0, pB k 0), (8, .slice m b.Routes.length n), (9, iv (b.Routes.length : Int)), (10, iv 0)] w (NO ?_))))
 obtain ⟨ao, c6, cp⟩ := gx_bind hm
 refine G_meet (fun a w' => ∃ (ap : Seg), ∃ (aq : Seg), ∃ (ar : Seg), ownS Gx.encB ao.1 t u ap ∧ ownD deepInterface ao.2 g z aq ar ∧ Mem (idsOf [[(k, .cells ⟨[.slice m b.Routes.length n, .slice A b.Enabled.length B, .slice t b.Raised.length u, .slice g b.Cpus.length z]⟩ 32 (0, 0))], C, D, G, H, I]) w w' [[(k, .cells ⟨[.slice m b.Routes.length n, .slice A b.Enabled.length B, .slice t ao.1.length u, .slice g ao.2.length z]⟩ 32 (0, 0))], C, D, ap, aq, ar] ∧ Sat Tryz.f79.ntmps [] a) ?_ ?_
 ·refine GB (G_while (σ := Int × List Bool × List Interface) (ρ := List Bool × List Interface) (fun c a w' => ∃ (af : Seg), ∃ (X : Seg), ∃ (Y : Seg), ownS Gx.encB c.2.1 t u af ∧ ownD deepInterface c.2.2 g z X Y ∧ Mem (idsOf [[(k, .cells ⟨[.slice m b.Routes.length n, .slice A b.Enabled.length B, .slice t b.Raised.length u, .slice g b.Cpus.length z]⟩ 32 (0, 0))], C, D, G, H, I]) w w' [[(k, .cells ⟨[.slice m b.Routes.length n, .slice A b.Enabled.length B, .slice t c.2.1.length u, .slice g c.2.2.length z]⟩ 32 (0, 0))], C, D, af, X, Y] ∧ Sat Tryz.f79.ntmps [(0, pB k 0), (8, .slice m b.Routes.length n), (9, iv (b.Routes.length : Int)), (10, iv c.1)] a) c6 (fun a ha => ⟨G, H, I, cq, cr, M0.pk [0, 1, 2, 3, 4, 5], ha.s⟩) ?_)
  clear hm
  intro c dy hm c1 dp ax ⟨af, X, Y, ac, a7, aj, cj⟩
  refine G_use cj (QA (wR 1 [(0, pB k 0), (8, .slice m b.Routes.length n), (9, iv (b.Routes.length : Int)), (10, iv c.1), (11, .bool (decide (c.1 < (b.Routes.length : Int))))] ax (NE ?_)))
  rcases gx_bif hm with ⟨az, hm⟩ | ⟨az, hm⟩
  ·refine gT az (KD (wR 1 [(0, pB k 0), (8, .slice m b.Routes.length n), (9, iv (b.Routes.length : Int)), (10, iv c.1), (12, iv c.1)] ax ?_))
   obtain ⟨d, bk, hm⟩ := gx_bind hm
   refine wV (elemP m (c.1.toNat * 2)) ax (eI (a5.r aj 1) rfl bk) (wV (.agg #[iv d.Priority, iv d.Target]) ax (eE true 2 0 (c.1.toNat * 2) (a5.r aj 1) bk) (wN (.cells ⟨[iv 0, iv 0]⟩ 129 (0, 0)) aj fun y db b2 => wR 1 [(0, pB k 0), (2, iv c.1), (3, pB y 0), (8, .slice m b.Routes.length n), (9, iv (b.Routes.length : Int)), (10, iv c.1), (14, .agg #[iv d.Priority, iv d.Target])] db (wS true 2 0 (.agg #[iv d.Priority, iv d.Target]) 6 [iv d.Priority, iv d.Target] b2 rfl fun dv b3 => NE (G_quiet (by kernel_rfl) (by kernel_rfl) b3 (MZ 3 (zV (.slice g c.2.2.length z) (fun w_ M_ => (eL false 1 3 (M_.blk 0 rfl))) (MS 1 [(0, pB k 0), (2, iv c.1), (3, pB y 0), (8, .slice m b.Routes.length n), (9, iv (b.Routes.length : Int)), (10, iv c.1), (18, .slice g c.2.2.length z), (19, pB y 1)] (zV (iv d.Target) (fun w_ M_ => (eL false 1 1 (M_.blk 6 rfl))) ?_))))))))
   obtain ⟨x, c7, hm⟩ := gx_bind hm
   obtain ⟨dz, am, aa, ah⟩ := id a7
   obtain ⟨l, N⟩ := gxIdx_fst am c7
   refine zV (elemP g (d.Target.toNat * 4)) (fun w_ M_ => (eI (aa.r M_ 4) (len_fst am) N)) (MS 1 [(0, pB k 0), (2, iv c.1), (3, pB y 0), (4, elemP g (d.Target.toNat * 4)), (8, .slice m b.Routes.length n), (9, iv (b.Routes.length : Int)), (10, iv c.1)] (Z_end fun F O => (TN (GS ?_))))
   obtain ⟨c8, cu, cn⟩ := gx_bind hm
   refine G_meet (fun a w' => Mem (idsOf [[(k, .cells ⟨[.slice m b.Routes.length n, .slice A b.Enabled.length B, .slice t b.Raised.length u, .slice g b.Cpus.length z]⟩ 32 (0, 0))], C, D, G, H, I]) w w' [[(k, .cells ⟨[.slice m b.Routes.length n, .slice A b.Enabled.length B, .slice t c.2.1.length u, .slice g c.2.2.length z]⟩ 32 (0, 0))], C, D, af, X, Y, [(y, .cells ⟨[iv d.Priority, iv d.Target]⟩ 129 (0, 0))]] ∧ Sat Tryz.f79.ntmps [(0, pB k 0), (2, iv c.1), (3, pB y 0), (4, elemP g (d.Target.toNat * 4)), (8, .slice m b.Routes.length n), (9, iv (b.Routes.length : Int)), (10, iv c.1), (46, .bool c8)] a) ?_ ?_
   ·have hm := cu
    refine GR (MW 3 (wV (.slice A b.Enabled.length B) F (eL false 1 1 (O.blk 0 rfl)) (wR 1 [(0, pB k 0), (2, iv c.1), (3, pB y 0), (4, elemP g (d.Target.toNat * 4)), (8, .slice m b.Routes.length n), (9, iv (b.Routes.length : Int)), (10, iv c.1), (25, .slice A b.Enabled.length B), (26, iv c.1)] F ?_)))
    obtain ⟨bx, bl, hm⟩ := gx_bind hm
    refine wV (elemP A (c.1.toNat * 1)) F (eI (a6.r O 2) rfl bl) (wV (.bool bx) F (eE false 1 0 (c.1.toNat * 1) (a6.r O 2) bl) (wR 1 [(0, pB k 0), (2, iv c.1), (3, pB y 0), (4, elemP g (d.Target.toNat * 4)), (8, .slice m b.Routes.length n), (9, iv (b.Routes.length : Int)), (10, iv c.1), (29, .bool bx)] F ?_))
    rcases gx_bif hm with ⟨a0, hm⟩ | ⟨a0, hm⟩
    ·refine wK 29 true a0 (MW 3 (wV (.slice t c.2.1.length u) F (eL false 1 2 (O.blk 0 rfl)) (wR 1 [(0, pB k 0), (2, iv c.1), (3, pB y 0), (4, elemP g (d.Target.toNat * 4)), (8, .slice m b.Routes.length n), (9, iv (b.Routes.length : Int)), (10, iv c.1), (29, .bool true), (33, .slice t c.2.1.length u), (34, iv c.1)] F ?_)))
     obtain ⟨bz, bm, hm⟩ := gx_bind hm
     refine wV (elemP t (c.1.toNat * 1)) F (eI (ac.r O 3) rfl bm) (wV (.bool bz) F (eE false 1 0 (c.1.toNat * 1) (ac.r O 3) bm) (wR 2 [(0, pB k 0), (2, iv c.1), (3, pB y 0), (4, elemP g (d.Target.toNat * 4)), (8, .slice m b.Routes.length n), (9, iv (b.Routes.length : Int)), (10, iv c.1), (38, .bool bz)] F ?_))
     rcases gx_bif hm with ⟨a3, hm⟩ | ⟨a3, hm⟩
     ·refine wK 38 true a3 (MW 1 (wV (elemP g (d.Target.toNat * 4)) F (E_nilE (E := deepInterface.E) _ (d.Target.toNat * 4) rfl (by kernel_rfl) (aa.r O 4) N) (wV (elemP g (d.Target.toNat * 4 + 1)) F (eF 1 (d.Target.toNat * 4) 1 (aa.r O 4) N) (wV (.slice ((l 0).1) x.Stack.length ((l 0).2)) F (eE false 1 1 (d.Target.toNat * 4 + 1) (aa.r O 4) N) (wR 1 [(0, pB k 0), (2, iv c.1), (3, pB y 0), (4, elemP g (d.Target.toNat * 4)), (8, .slice m b.Routes.length n), (9, iv (b.Routes.length : Int)), (10, iv c.1), (38, .bool true), (42, .slice ((l 0).1) x.Stack.length ((l 0).2)), (43, iv c.1)] F ?_)))))
      obtain ⟨c9, c3, hm⟩ := gx_bind hm
      refine WD (c_slices_Contains_136 F x.Stack ((l 0).1) ((l 0).2) ((ah.r O 5).at_ N 0 ⟨Int, Gx.encI, x.Stack, (l 0).1, (l 0).2⟩ (by kernel_rfl)) c.1 c3) O fun dc b4 => wR 2 [(0, pB k 0), (2, iv c.1), (3, pB y 0), (4, elemP g (d.Target.toNat * 4)), (8, .slice m b.Routes.length n), (9, iv (b.Routes.length : Int)), (10, iv c.1), (46, .bool (!c9))] dc (WN ?_)
      obtain rfl := HS hm
      exact N_meet fun a ha => ⟨b4.pk [0, 1, 2, 3, 4, 5, 6], ha.s⟩
     refine wK 38 false a3 (wR 8 [(0, pB k 0), (2, iv c.1), (3, pB y 0), (4, elemP g (d.Target.toNat * 4)), (8, .slice m b.Routes.length n), (9, iv (b.Routes.length : Int)), (10, iv c.1), (46, .bool false)] F (WN ?_))
     obtain rfl := HS hm
     exact N_meet fun a ha => ⟨O.pk [0, 1, 2, 3, 4, 5, 6], ha.s⟩
    refine wK 29 false a0 (wR 17 [(0, pB k 0), (2, iv c.1), (3, pB y 0), (4, elemP g (d.Target.toNat * 4)), (8, .slice m b.Routes.length n), (9, iv (b.Routes.length : Int)), (10, iv c.1), (46, .bool false)] F (WN ?_))
    obtain rfl := HS hm
    exact N_meet fun a ha => ⟨O.pk [0, 1, 2, 3, 4, 5, 6], ha.s⟩
   intro dq ay ⟨ak, ck⟩
   refine N_use ck ?_
   have hm := cn
   refine TN ?_
   obtain ⟨an, cv, co⟩ := gx_bind hm
   refine G_meet (fun a w' => ∃ (au : Seg), ∃ (av : Seg), ∃ (aw : Seg), ownS Gx.encB an.1 t u au ∧ ownD deepInterface an.2 g z av aw ∧ Mem (idsOf [[(k, .cells ⟨[.slice m b.Routes.length n, .slice A b.Enabled.length B, .slice t b.Raised.length u, .slice g b.Cpus.length z]⟩ 32 (0, 0))], C, D, G, H, I]) w w' [[(k, .cells ⟨[.slice m b.Routes.length n, .slice A b.Enabled.length B, .slice t an.1.length u, .slice g an.2.length z]⟩ 32 (0, 0))], C, D, au, av, aw] ∧ Sat Tryz.f79.ntmps [(0, pB k 0), (8, .slice m b.Routes.length n), (9, iv (b.Routes.length : Int)), (10, iv c.1)] a) ?_ ?_
   ·have hm := cv
    rcases gx_bif hm with ⟨a4, hm⟩ | ⟨a4, hm⟩
    ·refine gT a4 (QA (MW 3 (wV (.slice t c.2.1.length u) ay (eL false 1 2 (ak.blk 0 rfl)) (wR 1 [(0, pB k 0), (2, iv c.1), (3, pB y 0), (4, elemP g (d.Target.toNat * 4)), (8, .slice m b.Routes.length n), (9, iv (b.Routes.length : Int)), (10, iv c.1), (50, .slice t c.2.1.length u), (51, iv c.1)] ay ?_))))
     obtain ⟨dn, bn, hm⟩ := gx_bind hm
     refine wV (elemP t (c.1.toNat * 1)) ay (eI (ac.r ak 3) rfl bn) (wE false 1 c.1.toNat 0 (c.1.toNat * 1) dn false (.bool false) 3 ak ac (gxIdx_spec bn).2 fun dd ab cy b5 => LX 50 t u c.2.1 c.1.toNat false ?_)
     have b6 : Mem (idsOf [[(k, .cells ⟨[.slice m b.Routes.length n, .slice A b.Enabled.length B, .slice t b.Raised.length u, .slice g b.Cpus.length z]⟩ 32 (0, 0))], C, D, G, H, I]) w dd [[(k, .cells ⟨[.slice m b.Routes.length n, .slice A b.Enabled.length B, .slice t (c.2.1.set c.1.toNat false).length u, .slice g c.2.2.length z]⟩ 32 (0, 0))], C, D, ab, X, Y, [(y, .cells ⟨[iv d.Priority, iv d.Target]⟩ 129 (0, 0))]] := by rw [@List.length_set _ c.2.1 c.1.toNat false]; exact b5
     refine NO ?_
     obtain ⟨o, c4, hm⟩ := gx_bind hm
     refine G_sub [(0, pB k 0), (2, iv c.1), (3, pB y 0), (4, elemP g (d.Target.toNat * 4)), (8, .slice m b.Routes.length n), (9, iv (b.Routes.length : Int)), (10, iv c.1), (50, .slice t (c.2.1.set c.1.toNat false).length u), (51, iv c.1), (52, elemP t (c.1.toNat * 1))] (by kernel_rfl) (G_dagL 8 [[], [], [1], [2], [], [], [5], [3, 4, 6]] [[], [], [], [], [], [], [], []] [[], [], [], [], [], [], [], []] [[], [], [], [], [], [], [], []] [[], [], [], [], [], [], [], []] [[], [], [], [], [], [], [], []] (fun _ => []) (fun i => ([fun f v s => v = (elemP g (d.Target.toNat * 4) : Value) ∧ s = [], fun f v s => v = (elemP g (d.Target.toNat * 4) : Value) ∧ s = [], fun f v s => v = (elemP g (d.Target.toNat * 4) : Value) ∧ s = [], fun f v s => v = (.agg #[iv x.Mask, .slice ((l 0).1) x.Stack.length ((l 0).2), .slice ((l 1).1) x.Queue.Slots.length ((l 1).2), .slice ((l 2).1) x.Queue.Waiting.length ((l 2).2)] : Value) ∧ s = [], fun f v s => v = (iv c.1 : Value) ∧ s = [], fun f v s => v = (pB y 0 : Value) ∧ s = [], fun f v s => v = (iv d.Priority : Value) ∧ s = [], fun f v s => ∃ (T : Option Addr) (P : Nat) (J : Seg), ∃ (U : Option Addr) (Q : Nat) (K : Seg), ∃ (V : Option Addr) (S : Nat) (L : Seg), v = (.agg #[iv o.Mask, .slice T o.Stack.length P, .slice U o.Queue.Slots.length Q, .slice V o.Queue.Waiting.length S] : Value) ∧ s = (J ++ (K ++ L)) ∧ ownS Gx.encI o.Stack T P J ∧ ownS encSlot o.Queue.Slots U Q K ∧ ownS encWaiter o.Queue.Waiting V S L] : List ((Nat → Value) → Value → Seg → Prop)).getD i (fun _ _ _ => False)) (fun j f v => ∃ s, (fun i => ([fun f v s => v = (elemP g (d.Target.toNat * 4) : Value) ∧ s = [], fun f v s => v = (elemP g (d.Target.toNat * 4) : Value) ∧ s = [], fun f v s => v = (elemP g (d.Target.toNat * 4) : Value) ∧ s = [], fun f v s => v = (.agg #[iv x.Mask, .slice ((l 0).1) x.Stack.length ((l 0).2), .slice ((l 1).1) x.Queue.Slots.length ((l 1).2), .slice ((l 2).1) x.Queue.Waiting.length ((l 2).2)] : Value) ∧ s = [], fun f v s => v = (iv c.1 : Value) ∧ s = [], fun f v s => v = (pB y 0 : Value) ∧ s = [], fun f v s => v = (iv d.Priority : Value) ∧ s = [], fun f v s => ∃ (T : Option Addr) (P : Nat) (J : Seg), ∃ (U : Option Addr) (Q : Nat) (K : Seg), ∃ (V : Option Addr) (S : Nat) (L : Seg), v = (.agg #[iv o.Mask, .slice T o.Stack.length P, .slice U o.Queue.Slots.length Q, .slice V o.Queue.Waiting.length S] : Value) ∧ s = (J ++ (K ++ L)) ∧ ownS Gx.encI o.Stack T P J ∧ ownS encSlot o.Queue.Slots U Q K ∧ ownS encWaiter o.Queue.Waiting V S L] : List ((Nat → Value) → Value → Seg → Prop)).getD i (fun _ _ _ => False)) j f v s) [] [0, 7] [7] (fun _ _ _ s h => ⟨s, h⟩) (by kernel_rfl) (by kernel_rfl) (b6.preNil 8) (by kernel_rfl) (by kernel_rfl) (by kernel_rfl) (by kernel_rfl) (allOb_cons ?_ (allOb_cons ?_ (allOb_cons ?_ (allOb_cons ?_ (allOb_cons ?_ (allOb_cons ?_ (allOb_cons ?_ (allOb_cons ?_ allOb_nil)))))))) ?_)
     ·intro W Z
      intro R de b7
      exact MW 1 (WN (oE (elemP g (d.Target.toNat * 4)) [] ⟨by kernel_rfl, rfl⟩ b7))
     ·intro W Z
      intro R df b8
      exact MW 1 (WN (oE (elemP g (d.Target.toNat * 4)) [] ⟨by kernel_rfl, rfl⟩ b8))
     ·intro W Z
      intro v1_ hb1_
      obtain ⟨rfl, _⟩ := hb1_
      intro R dg bd
      exact wV (elemP g (d.Target.toNat * 4)) dg (E_nilE (E := deepInterface.E) _ (d.Target.toNat * 4) rfl (by kernel_rfl) (aa.r bd 4) N) (WN (oE (elemP g (d.Target.toNat * 4)) [] ⟨by kernel_rfl, rfl⟩ bd))
     ·intro W Z
      intro v2_ hb2_
      obtain ⟨rfl, _⟩ := hb2_
      intro R dh be
      exact wV (.agg #[iv x.Mask, .slice ((l 0).1) x.Stack.length ((l 0).2), .slice ((l 1).1) x.Queue.Slots.length ((l 1).2), .slice ((l 2).1) x.Queue.Waiting.length ((l 2).2)]) dh (eE true 4 0 (d.Target.toNat * 4) (aa.r be 4) N) (WN (oE (.agg #[iv x.Mask, .slice ((l 0).1) x.Stack.length ((l 0).2), .slice ((l 1).1) x.Queue.Slots.length ((l 1).2), .slice ((l 2).1) x.Queue.Waiting.length ((l 2).2)]) [] ⟨by kernel_rfl, rfl⟩ be))
     ·intro W Z
      intro R di b9
      exact MW 1 (WN (oE (iv c.1) [] ⟨by kernel_rfl, rfl⟩ b9))
     ·intro W Z
      intro R dj ca
      exact MW 1 (WN (oE (pB y 0) [] ⟨by kernel_rfl, rfl⟩ ca))
     ·intro W Z
      intro v5_ hb5_
      obtain ⟨rfl, _⟩ := hb5_
      intro R dk bf
      exact wV (iv d.Priority) dk (eL false 1 0 (bf.blk 6 rfl)) (WN (oE (iv d.Priority) [] ⟨by kernel_rfl, rfl⟩ bf))
     ·intro W Z
      intro v3_ hb3_
      obtain ⟨rfl, _⟩ := hb3_
      intro v4_ hb4_
      obtain ⟨rfl, _⟩ := hb4_
      intro v6_ hb6_
      obtain ⟨rfl, _⟩ := hb6_
      intro R dl al
      refine WC ((c_i_raiseIrq dl x ((l 0).1) ((l 0).2) ((ah.r al 5).at_ N 0 ⟨Int, Gx.encI, x.Stack, (l 0).1, (l 0).2⟩ (by kernel_rfl)) ((l 1).1) ((l 1).2) ((ah.r al 5).at_ N 1 ⟨Slot, encSlot, x.Queue.Slots, (l 1).1, (l 1).2⟩ (by kernel_rfl)) ((l 2).1) ((l 2).2) ((ah.r al 5).at_ N 2 ⟨Waiter, encWaiter, x.Queue.Waiting, (l 2).1, (l 2).2⟩ (by kernel_rfl)) c.1 d.Priority c4).mono ?_)
      rintro e_ dw ⟨T, P, J, U, Q, K, V, S, L, rfl, a8, a9, ba, b1⟩
      refine ⟨_, rfl, ?_⟩
      exact WN (oE (.agg #[iv o.Mask, .slice T o.Stack.length P, .slice U o.Queue.Slots.length Q, .slice V o.Queue.Waiting.length S]) (J ++ (K ++ L)) ⟨T, P, J, U, Q, K, V, S, L, rfl, rfl, a8, a9, ba⟩ (Mem.callMid al (b1.permF (by simp))))
     intro W Z
     intro v0_ hb0_
     obtain ⟨rfl, _⟩ := hb0_
     intro v7_ hb7_
     obtain ⟨T, P, J, U, Q, K, V, S, L, rfl, hs7_, a8, a9, ba⟩ := hb7_
     intro bb cb
     have ag : Mem (idsOf [[(k, .cells ⟨[.slice m b.Routes.length n, .slice A b.Enabled.length B, .slice t b.Raised.length u, .slice g b.Cpus.length z]⟩ 32 (0, 0))], C, D, G, H, I]) w bb [[(k, .cells ⟨[.slice m b.Routes.length n, .slice A b.Enabled.length B, .slice t (c.2.1.set c.1.toNat false).length u, .slice g c.2.2.length z]⟩ 32 (0, 0))], C, D, ab, X, Y, [(y, .cells ⟨[iv d.Priority, iv d.Target]⟩ 129 (0, 0))], (W 7)] := cb
     rw [hs7_] at ag
     replace ag : Mem (idsOf [[(k, .cells ⟨[.slice m b.Routes.length n, .slice A b.Enabled.length B, .slice t b.Raised.length u, .slice g b.Cpus.length z]⟩ 32 (0, 0))], C, D, G, H, I]) w bb [[(k, .cells ⟨[.slice m b.Routes.length n, .slice A b.Enabled.length B, .slice t (c.2.1.set c.1.toNat false).length u, .slice g c.2.2.length z]⟩ 32 (0, 0))], C, D, ab, X, Y, [(y, .cells ⟨[iv d.Priority, iv d.Target]⟩ 129 (0, 0))], J, K, L] := ag.permF (by simp)
     refine wV (elemP g (d.Target.toNat * 4)) bb (E_nilE (E := deepInterface.E) _ (d.Target.toNat * 4) rfl (by kernel_rfl) (aa.r ag 4) N) ?_
     obtain ⟨ad, da, ae, c5, dt, c2⟩ := ah.lens (gxIdx_spec N).2
     have cc := ag.cut 5 (sa := ad) (sb := da) (sc := ae) c5 (by kernel_rfl)
     refine wE true 4 d.Target.toNat 0 (d.Target.toNat * 4) (x, l) (o, (plOf [(T, P), (U, Q), (V, S)])) (.agg #[iv o.Mask, .slice T o.Stack.length P, .slice U o.Queue.Slots.length Q, .slice V o.Queue.Waiting.length S]) 4 cc aa (gxIdx_spec N).2 ?_
     intro bc ai cz cd
     have ce : Mem (idsOf [[(k, .cells ⟨[.slice m b.Routes.length n, .slice A b.Enabled.length B, .slice t b.Raised.length u, .slice g b.Cpus.length z]⟩ 32 (0, 0))], C, D, G, H, I]) w bc [[(k, .cells ⟨[.slice m b.Routes.length n, .slice A b.Enabled.length B, .slice t (c.2.1.set c.1.toNat false).length u, .slice g c.2.2.length z]⟩ 32 (0, 0))], C, D, ab, ai, [(y, .cells ⟨[iv d.Priority, iv d.Target]⟩ 129 (0, 0))], ad, J, K, L, ae] := cd.pk [0, 1, 2, 3, 4, 6, 5, 7, 8, 9, 11]
     have cf : Mem (idsOf [[(k, .cells ⟨[.slice m b.Routes.length n, .slice A b.Enabled.length B, .slice t b.Raised.length u, .slice g b.Cpus.length z]⟩ 32 (0, 0))], C, D, G, H, I]) w bc [[(k, .cells ⟨[.slice m b.Routes.length n, .slice A b.Enabled.length B, .slice t (c.2.1.set c.1.toNat false).length u, .slice g c.2.2.length z]⟩ 32 (0, 0))], C, D, ab, ai, [(y, .cells ⟨[iv d.Priority, iv d.Target]⟩ 129 (0, 0))], (ad ++ ((J ++ (K ++ (L ++ []))) ++ ae))] := ce.regroup (by simp)
     have c0 : ownD deepInterface (c.2.2.set d.Target.toNat o) g z ai (ad ++ ((J ++ (K ++ (L ++ []))) ++ ae)) := ⟨_, set_fst am d.Target.toNat (o, (plOf [(T, P), (U, Q), (V, S)])), cz, (c2 (o, (plOf [(T, P), (U, Q), (V, S)])) _ (ownI_cons (i := ⟨Int, Gx.encI, _, _, _⟩) a8 (ownI_cons (i := ⟨Slot, encSlot, _, _, _⟩) a9 (ownI_cons (i := ⟨Waiter, encWaiter, _, _, _⟩) ba ownI_nil))))⟩
     have du := gxIdx_put o (gxIdx_down am N)
     have cg : Mem (idsOf [[(k, .cells ⟨[.slice m b.Routes.length n, .slice A b.Enabled.length B, .slice t b.Raised.length u, .slice g b.Cpus.length z]⟩ 32 (0, 0))], C, D, G, H, I]) w bc [[(k, .cells ⟨[.slice m b.Routes.length n, .slice A b.Enabled.length B, .slice t (c.2.1.set c.1.toNat false).length u, .slice g (c.2.2.set d.Target.toNat o).length z]⟩ 32 (0, 0))], C, D, ab, ai, [(y, .cells ⟨[iv d.Priority, iv d.Target]⟩ 129 (0, 0))], (ad ++ ((J ++ (K ++ (L ++ []))) ++ ae))] := by rw [@List.length_set _ c.2.2 d.Target.toNat o]; exact cf
     refine WN ?_
     obtain rfl := HS hm
     exact N_meet fun a ha => ⟨ab, ai, (ad ++ ((J ++ (K ++ (L ++ []))) ++ ae)), cy, c0, cg.pk [0, 1, 2, 3, 4, 6], ha.s⟩
    refine gF a4 (GK ?_)
    obtain rfl := HS hm
    exact N_meet fun a ha => ⟨af, X, Y, ac, a7, ak.pk [0, 1, 2, 3, 4, 5], ha.s⟩
   intro dr dm ⟨au, av, aw, cw, cx, ch, cl⟩
   refine N_use cl ?_
   have hm := co
   refine BN (TN (GR (wR 2 [(0, pB k 0), (8, .slice m b.Routes.length n), (9, iv (b.Routes.length : Int)), (10, iv (w64 (c.1 + 1)))] dm (WN ?_))))
   cases hm
   exact N_loop fun a ha => ⟨_, rfl, au, av, aw, cw, cx, ch.pk [0, 1, 2, 3, 4, 5], ha.s⟩
  refine gF az (XA ?_)
  obtain rfl := HS hm
  obtain rfl := c1 _ rfl
  exact N_meet fun a ha => ⟨af, X, Y, ac, a7, aj.pk [0, 1, 2, 3, 4, 5], ha.s⟩
 intro ds dx ⟨ap, aq, ar, cs, ct, ci, cm⟩
 refine N_use cm ?_
 have hm := cp
 obtain rfl := HS hm
 exact N_end [] (RVs_nil) (⟨m, n, C, A, B, D, t, u, ap, g, z, aq, ar, rfl, a5, a6, cs, ct, ci.pk [0, 1, 2, 3, 4, 5]⟩)
theorem c_i_runningPriority (w : World) (a : Interface) (d : Option Addr) (g : Nat) (o : rdS Gx.encI w a.Stack d g) (f : Option Addr) (c : Nat) (u : rdS encSlot w a.Queue.Slots f c) (m : Option Addr) (k : Nat) (x : rdS encWaiter w a.Queue.Waiting m k) {r : Int} (hm : M.i_runningPriority a = some r) :
  Calls Tryz.prog 139 #[.agg #[iv a.Mask, .slice d a.Stack.length g, .slice f a.Queue.Slots.length c, .slice m a.Queue.Waiting.length k]] w fun e w' => e = .returned (iv r) ∧ Mem [] w w' [] := by
 unfold M.i_runningPriority at hm
 refine cE Tryz.func139 ?_
 have M0 := Mem.refl [] w
 refine QA (wN (.cells ⟨[iv a.Mask, .slice d a.Stack.length g, .slice f a.Queue.Slots.length c, .slice m a.Queue.Waiting.length k]⟩ 87 (0, 0)) M0 fun b h j => MW 1 (NB (MW 1 (wV (.slice d a.Stack.length g) h (eL false 1 1 (j.blk 0 rfl)) (wR 2 [(1, pB b 0), (6, .bool ((a.Stack.length : Int) == 0))] h (NO ?_))))))
 rcases gx_bif hm with ⟨l, hm⟩ | ⟨l, hm⟩
 ·refine gT l (QA (wR 1 [(2, iv 16)] h (ND ?_)))
  obtain rfl := HS hm
  exact RA [iv 16] (⟨rfl, j.pk []⟩)
 refine gF l (GK (TN (GS (G_quiet (by kernel_rfl) (by kernel_rfl) j (MZ 2 (zV (.slice f a.Queue.Slots.length c) (fun w_ M_ => (eL false 1 2 (M_.blk 0 rfl))) (MZ 1 (zV (.slice d a.Stack.length g) (fun w_ M_ => (eL false 1 1 (M_.blk 0 rfl))) (MZ 1 (zV (.slice d a.Stack.length g) (fun w_ M_ => (eL false 1 1 (M_.blk 0 rfl))) (MS 2 [(9, .slice f a.Queue.Slots.length c), (11, .slice d a.Stack.length g), (15, iv (w64 ((a.Stack.length : Int) - 1)))] ?_)))))))))))
 obtain ⟨n, q, hm⟩ := gx_bind hm
 refine zV (elemP d ((w64 ((a.Stack.length : Int) - 1)).toNat * 1)) (fun w_ M_ => (eI (o.mem0 M_) rfl q)) (zV (iv n) (fun w_ M_ => (eE false 1 0 ((w64 ((a.Stack.length : Int) - 1)).toNat * 1) (o.mem0 M_) q)) ?_)
 obtain ⟨i, v, hm⟩ := gx_bind hm
 refine ZC (iv i) (fun w_ M_ => c_i_priorityIn w_ a.Queue.Slots f c (u.mem0 M_) n v) (MS 1 [(2, iv i)] (Z_end fun y t => (TN (G_ret ?_))))
 obtain rfl := HS hm
 exact RA [iv i] (⟨rfl, t.pk []⟩)
end Go.Proofs.YtllhajkgkghhdaaGreat
