/- Part of a proof: what its last text rests on. -/
import Derived.Test.YtllhajkgkghhdaaGreatProg
import Derived.Test.YtllhajkgkghhdaaGreatSh
import Derived.Test.YtllhajkgkghhdaaGreatqd
set_option linter.unusedVariables false
set_option linter.unusedSimpArgs false
set_option maxRecDepth 100000
set_option maxHeartbeats 4000000
namespace Go.Proofs.YtllhajkgkghhdaaGreat
open Go.Gx
theorem c_s_l1Cur_pick (w : World) (b : l1Cur) (f g) (k : rdS Gx.encU8 w b.code f g) (c : Nat) (d : Int) (hA : ∀ q ∈ List.flatten [(BK c 110 [SL f b.code g, iv b.at_, .int .u64 b.seed])], w.heap[q.1]? = some q.2) (hN : (idsOf [(BK c 110 [SL f b.code g, iv b.at_, .int .u64 b.seed])]).Nodup) (l : apartX (idsOf [(BK c 110 [SL f b.code g, iv b.at_, .int .u64 b.seed])]) b.code f) {r : Int × Int × Int} (hm : M.s_l1Cur_pick b d = some r) :
  Calls Tryz.prog 100 #[pB c 0, iv d] w fun e w' => e = .returned (iv r.1) ∧ Mem (idsOf [(BK c 110 [SL f b.code g, iv b.at_, .int .u64 b.seed])]) w w' [(BK c 110 [SL f b.code g, iv r.2.1, .int .u64 r.2.2])] := by
 unfold M.s_l1Cur_pick at hm
 refine cE Tryz.func100 ?_
 have M0 := Mem.start' w [(BK c 110 [SL f b.code g, iv b.at_, .int .u64 b.seed])] hA hN
 refine QA (MW 1 (NB (MW 2 (NO (GT hm (fun o hm => ?_) fun o hm => ?_)))))
 ·refine QA (MW 1 (ND ?_))
  obtain rfl := HS hm
  exact RA [iv 0] (⟨rfl, M0.pk [0]⟩)
 refine KA (MW 1 (GD hm fun h E hm => WC ((c_s_l1Cur_next w b f g (k.memX l M0) c (M0.hasPick [0]) (M0.nodupPick [0] (by kernel_rfl)) (apartX.old k l M0 [0]) E).mono ?_)))
 rintro e_ n ⟨rfl, v⟩
 have i := M0.callF' [0] [] (by kernel_rfl) v
 refine ⟨_, rfl, ?_⟩
 refine MW 1 (NB (MW 2 (NO (GD hm fun j C B => G_meet (fun a w' => Mem (idsOf [(BK c 110 [SL f b.code g, iv b.at_, .int .u64 b.seed])]) w w' [(BK c 110 [SL f b.code g, iv j.2.1, .int .u64 j.2.2])] ∧ Sat Tryz.f100.ntmps [(1, iv d), (5, iv j.1)] a) ?_ ?_))))
 ·have hm := C
  refine GT hm (fun t hm => ?_) fun t hm => ?_
  ·refine GR (MW 3 (GD hm fun G F hm => WC ((c_s_l1Cur_next n (⟨b.code, h.2.1, h.2.2⟩ : l1Cur) f g (k.memX l i) c (i.hasPick [0]) (i.nodupPick [0] (by kernel_rfl)) (apartX.old k l i [0]) F).mono ?_)))
   rintro e_ H ⟨rfl, x⟩
   have y := i.callF' [0] [] (by kernel_rfl) x
   refine ⟨_, rfl, ?_⟩
   refine MW 2 (WN ?_)
   obtain rfl := HS hm
   exact NM fun a ha => ⟨y.pk [0], ha.s⟩
  refine GK ?_
  obtain rfl := HS hm
  exact NM fun a ha => ⟨i.pk [0], ha.s⟩
 intro I u ⟨z, A⟩
 refine N_use A ?_
 have hm := B
 refine NF (MW 2 (GD hm fun m D hm => wV (iv m) u (E_rem _ _ _ _ j.1 d m rfl (by kernel_rfl) (by kernel_rfl) D) (wR 1 [(4, iv m)] u (NC ?_))))
 obtain rfl := HS hm
 exact RA [iv m] (⟨rfl, z.pk [0]⟩)
theorem c_s_NewMachine (w : World) (H : List Route) (J I) (bf : rdS encRoute w H J I) (C : Int) {r : Machine × Bool} (hm : M.s_NewMachine H C = some r) :
  Calls Tryz.prog 46 #[SL J H I, iv C] w fun e w' => ∃ bh bb bm bi bc bn bj bd bo bk be bp bq, e = .returned (.tuple #[.agg #[SL bh r.1.Routes bb, SL bi r.1.Enabled bc, SL bj r.1.Raised bd, SL bk r.1.Cpus be], .bool r.2]) ∧ ownS encRoute r.1.Routes bh bb bm ∧ ownS Gx.encB r.1.Enabled bi bc bn ∧ ownS Gx.encB r.1.Raised bj bd bo ∧ ownD deepInterface r.1.Cpus bk be bp bq ∧ Mem [] w w' [bm, bn, bo, bp, bq] := by
 unfold M.s_NewMachine at hm
 refine cE Tryz.func46 ?_
 have M0 := Mem.refl [] w
 refine QA (wN (CE 32 [SN, SN, SN, SN]) M0 fun u ay a4 => MW 1 (NB (MW 2 (GD hm fun bl c1 hm => WD (c_s_l21Routes ay H J I (bf.mem0 a4) C c1) a4 fun bs a5 => MW 1 (NO (GT hm (fun am hm => ?_) fun am hm => ?_))))))
 ·refine QA (MW 1 (wS true 4 0 (.agg #[SN, SN, SN, SN]) 0 [SN, SN, SN, SN] a5 rfl fun c9 a6 => MW 1 (ND ?_)))
  obtain rfl := HS hm
  exact N_ret [.agg #[SN, SN, SN, SN], .bool false] (RX true 4 0 (a6.blk 0 rfl) (rC RVs_nil)) (⟨none, 0, [], none, 0, [], none, 0, [], none, 0, [], [], rfl, ownS_nil, ownS_nil, ownS_nil, ownD_nil, a6.pk [100000, 100001, 100002, 100003, 100004]⟩)
 refine GK (TN (GS (GD hm fun y cn hm => GD hm fun z cq hm => GD hm fun A cr hm => GU [(0, SL J H I), (1, iv C), (4, pB u 0), (11, .bool (!bl))] (DL 8 [[],[],[0,1],[],[],[],[],[]] [[],[],[0],[],[],[],[],[]] (EM 8) [[],[],[],[],[],[],[2,3,4,5],[]] [[],[],[],[],[],[],[2,3,4,5],[]] (EM 8) (fun _ => []) [fun f v s => ∃ T Q, v = (.slice T ([] : List Route).length Q : Value) ∧ ownS encRoute ([] : List Route) T Q s, QV (.slice J H.length I), fun f v s => ∃ n d, v = (.slice n y.length d : Value) ∧ ownS encRoute y n d s, fun f v s => ∃ q l, v = (.slice q z.length l : Value) ∧ ownS Gx.encB z q l s, fun f v s => ∃ t m, v = (.slice t A.length m : Value) ∧ ownS Gx.encB A t m s, fun f v s => ∃ G F P W, v = (.slice G ([] : List Interface).length F : Value) ∧ s = (P ++ W) ∧ ownD deepInterface ([] : List Interface) G F P W, fun f v s => v = (.agg #[(atPath (f 2) []), (atPath (f 3) []), (atPath (f 4) []), (atPath (f 5) [])] : Value) ∧ s = [], fun f v s => ∃ x, v = (pB x 0 : Value) ∧ s = (BK x 32 [SN, SN, SN, SN])] [] [2, 3, 4, 5, 6, 7] [2, 3, 4, 5, 7] (a5.preNil 8) (AC ?_ (AC ?_ (AC ?_ (AC ?_ (AC ?_ (AC ?_ (AC ?_ (AC ?_ AN)))))))) ?_))))
 ·intro c V R dl bv
  exact wL (E := encRoute) ([] : List Route) 0 [] 129 bv fun T Q c5 dm ao bw => WN (oE (SL T ([] : List Route) Q) c5 ⟨T, Q, rfl, ao⟩ (Mem.mid bw))
 ·intro c V R da bx
  exact OM ⟨rfl, rfl⟩ bx
 ·intro c V v0_ hb0_
  obtain ⟨T, Q, rfl, ao⟩ := hb0_
  rintro v1_ ⟨rfl, _⟩ R dn a7
  exact wA 16 [iv 0, iv 0] 2 a7 ao (bf.mem0 a7) cn fun n d c6 dp ap bz => WN (oE (SL n y d) c6 ⟨n, d, rfl, ap⟩ (Mem.takeOver bz))
 ·intro c V R dq b0
  exact W_make (E := Gx.encB) _ _ _ 8 1 [.bool false] (false : Bool) b0 (by kernel_rfl) rfl (by kernel_rfl) (by kernel_rfl) (by kernel_rfl) (by kernel_rfl) (by kernel_rfl) cq fun q l c7 dr aq b1 => WN (oE (SL q z l) c7 ⟨q, l, rfl, aq⟩ (Mem.mid b1))
 ·intro c V R ds b2
  exact W_make (E := Gx.encB) _ _ _ 8 1 [.bool false] (false : Bool) b2 (by kernel_rfl) rfl (by kernel_rfl) (by kernel_rfl) (by kernel_rfl) (by kernel_rfl) (by kernel_rfl) cr fun t m c8 dt ar b3 => WN (oE (SL t A m) c8 ⟨t, m, rfl, ar⟩ (Mem.mid b3))
 ·intro c V R du b4
  exact W_litD (D := deepInterface) (s1 := []) [] ([] : List Interface) rfl 0 [] 87 b4 (by kernel_rfl) (by kernel_rfl) (by kernel_rfl) (by kernel_rfl) (by kernel_rfl) ownI_nil fun G F P dv au b5 => WN (oE (.slice G ([] : List Interface).length F) (P ++ []) ⟨G, F, P, [], rfl, rfl, au⟩ (Mem.mid (by rw [List.append_nil]; exact b5)))
 ·intro c V v2_ hb2_
  obtain ⟨_, n, d, rfl, _⟩ := hb2_
  intro v3_ hb3_
  obtain ⟨_, q, l, rfl, _⟩ := hb3_
  intro v4_ hb4_
  obtain ⟨_, t, m, rfl, _⟩ := hb4_
  intro v5_ hb5_
  obtain ⟨_, G, F, _, _, rfl, _⟩ := hb5_
  intro R db b6
  exact OM ⟨rfl, rfl⟩ b6
 ·intro c V R dw b7
  exact wN (CE 32 [SN, SN, SN, SN]) b7 fun x dx b8 => WN (oE (pB x 0) (BK x 32 [SN, SN, SN, SN]) ⟨x, rfl, rfl⟩ (Mem.mid b8))
 intro c V v2_ hb2_
 obtain ⟨n, d, rfl, ap⟩ := hb2_
 intro v3_ hb3_
 obtain ⟨q, l, rfl, aq⟩ := hb3_
 intro v4_ hb4_
 obtain ⟨t, m, rfl, ar⟩ := hb4_
 intro v5_ hb5_
 obtain ⟨G, F, P, W, rfl, hs5_, au⟩ := hb5_
 intro v6_ hb6_
 obtain ⟨hv6_, _⟩ := hb6_
 obtain rfl : v6_ = (.agg #[SL n y d, SL q z l, SL t A m, SL G ([] : List Interface) F] : Value) := hv6_.trans (by kernel_rfl)
 intro v7_ hb7_
 obtain ⟨x, rfl, hs7_⟩ := hb7_
 intro bt b9
 have ab : Mem [] w bt [(BK u 32 [SN, SN, SN, SN]), (c 2), (c 3), (c 4), P, W, (BK x 32 [SN, SN, SN, SN])] := b9.permF (by simp [hs5_, hs7_, SL])
 refine wS true 4 0 (.agg #[SL n y d, SL q z l, SL t A m, SL G ([] : List Interface) F]) 6 [SL n y d, SL q z l, SL t A m, SL G ([] : List Interface) F] ab rfl fun dc ca => NB (MW 1 (NO (GD hm fun S c3 ct => G_meet (fun a w' => ∃ O L ag ah, ownD deepInterface S O L ag ah ∧ Mem [] w w' [(BK u 32 [SN, SN, SN, SN]), (c 2), (c 3), (c 4), (BK x 32 [SL n y d, SL q z l, SL t A m, SL O S L]), ag, ah] ∧ Sat Tryz.f46.ntmps [(4, pB u 0), (6, pB x 0)] a) ?_ ?_)))
 ·refine GB (G_while (σ := Int × List Interface) (ρ := List Interface) (fun B a w' => ∃ N K X U, ownD deepInterface B.2 N K X U ∧ Mem [] w w' [(BK u 32 [SN, SN, SN, SN]), (c 2), (c 3), (c 4), (BK x 32 [SL n y d, SL q z l, SL t A m, SL N B.2 K]), X, U] ∧ Sat Tryz.f46.ntmps [(1, iv C), (4, pB u 0), (6, pB x 0), (7, iv B.1)] a) c3 (fun a ha => ⟨G, F, P, W, au, ca.pk [0, 1, 2, 3, 6, 4, 5], ha.s⟩) ?_)
  clear hm
  intro B d0 hm c0 di az ⟨N, K, X, U, bg, ai, cl⟩
  refine G_use cl (QB (MW 3 (NO (GT hm (fun an hm => ?_) fun an hm => ?_))))
  ·refine GK (TN (GS (GB (GR (MW 1 (wV (SL N B.2 K) az (eL false 1 3 (ai.blk 4 rfl)) (wL (E := Gx.encI) ([] : List Int) 0 [] 3 ai fun ae ac Y dd cv cb => MW 4 (wL (E := encSlot) [(⟨0, 0, 0⟩ : Slot), (⟨0, 0, 0⟩ : Slot), (⟨0, 0, 0⟩ : Slot), (⟨0, 0, 0⟩ : Slot)] 4 [iv 0, iv 0, iv 0, iv 0, iv 0, iv 0, iv 0, iv 0, iv 0, iv 0, iv 0, iv 0] 117 cb fun av ak Z dy cw cc => wL (E := encWaiter) ([] : List Waiter) 0 [] 142 cc fun aw al aa a0 cx cd => wR 2 [(1, iv C), (4, pB u 0), (6, pB x 0), (7, iv B.1), (26, SL N B.2 K), (35, .agg #[iv 16, SL ae ([] : List Int) ac, SL av [(⟨0, 0, 0⟩ : Slot), (⟨0, 0, 0⟩ : Slot), (⟨0, 0, 0⟩ : Slot), (⟨0, 0, 0⟩ : Slot)] ak, SL aw ([] : List Waiter) al])] a0 ?_))))))))
   have ce : Mem [] w a0 [(BK u 32 [SN, SN, SN, SN]), (c 2), (c 3), (c 4), (BK x 32 [SL n y d, SL q z l, SL t A m, SL N B.2 K]), X, U, Y, Z, aa] := cd.pk [0, 1, 2, 3, 4, 5, 6, 7, 8, 9]
   have cf : Mem [] w a0 [(BK u 32 [SN, SN, SN, SN]), (c 2), (c 3), (c 4), (BK x 32 [SL n y d, SL q z l, SL t A m, SL N B.2 K]), X, U, (Y ++ (Z ++ (aa ++ [])))] := ce.regroup (by simp)
   refine W_litD (D := deepInterface) [((⟨16, ([] : List Int), (⟨[(⟨0, 0, 0⟩ : Slot), (⟨0, 0, 0⟩ : Slot), (⟨0, 0, 0⟩ : Slot), (⟨0, 0, 0⟩ : Slot)], ([] : List Waiter)⟩ : Queue)⟩ : Interface), plOf [(ae, ac), (av, ak), (aw, al)])] [(⟨16, ([] : List Int), (⟨[(⟨0, 0, 0⟩ : Slot), (⟨0, 0, 0⟩ : Slot), (⟨0, 0, 0⟩ : Slot), (⟨0, 0, 0⟩ : Slot)], ([] : List Waiter)⟩ : Queue)⟩ : Interface)] rfl 1 [iv 16, SL ae ([] : List Int) ac, SL av [(⟨0, 0, 0⟩ : Slot), (⟨0, 0, 0⟩ : Slot), (⟨0, 0, 0⟩ : Slot), (⟨0, 0, 0⟩ : Slot)] ak, SL aw ([] : List Waiter) al] 87 cf (by kernel_rfl) (by kernel_rfl) (by kernel_rfl) (by kernel_rfl) (by kernel_rfl) (ownI_cons (i := ⟨Int, Gx.encI, _, _, _⟩) cv (ownI_cons (i := ⟨Slot, encSlot, _, _, _⟩) cw (ownI_cons (i := ⟨Waiter, encWaiter, _, _, _⟩) cx ownI_nil))) fun dk ck br dz cy a8 => GD hm fun aj co hm => ?_
   obtain ⟨dh, c4, c2, cp⟩ := id cy
   refine W_appendD (D := deepInterface) (us := dh) (s2 := (Y ++ (Z ++ (aa ++ [])))) _ _ _ 80 [iv 0, SN, SN, SN] 5 ck a8 bg (by kernel_rfl) (by kernel_rfl) (by kernel_rfl) rfl (by kernel_rfl) (by kernel_rfl) (by kernel_rfl) (by kernel_rfl) (by kernel_rfl) (by kernel_rfl) (c2.r a8 8) c4 cp co ?_
   intro af ad ax a3 cz cg
   have ch : Mem [] w a3 [(BK u 32 [SN, SN, SN, SN]), (c 2), (c 3), (c 4), (BK x 32 [SL n y d, SL q z l, SL t A m, SL N B.2 K]), ax, br, U, (Y ++ (Z ++ (aa ++ [])))] := cg.pk [0, 1, 2, 3, 4, 5, 8, 6, 7]
   have ci : Mem [] w a3 [(BK u 32 [SN, SN, SN, SN]), (c 2), (c 3), (c 4), (BK x 32 [SL n y d, SL q z l, SL t A m, SL N B.2 K]), ax, br, (U ++ (Y ++ (Z ++ (aa ++ []))))] := ch.regroup (by simp)
   refine MW 1 (wS false 1 3 (SL af aj ad) 4 [SL n y d, SL q z l, SL t A m, SL af aj ad] ci rfl fun de cj => NG (MW 3 (WN ?_)))
   cases hm
   exact N_loop fun a ha => ⟨_, rfl, af, ad, ax, (U ++ (Y ++ (Z ++ (aa ++ [])))), cz, cj.pk [0, 1, 2, 3, 4, 5, 7], ha.s⟩
  refine XA ?_
  obtain rfl := HS hm
  obtain rfl := c0 _ rfl
  exact NM fun a ha => ⟨N, K, X, U, bg, ai.pk [0, 1, 2, 3, 4, 5, 6], ha.s⟩
 intro dj df ⟨O, L, ag, ah, cu, a9, cm⟩
 refine N_use cm ?_
 have hm := ct
 refine NF (wV (.agg #[SL n y d, SL q z l, SL t A m, SL O S L]) df (eL true 4 0 (a9.blk 4 rfl)) (wS true 4 0 (.agg #[SL n y d, SL q z l, SL t A m, SL O S L]) 0 [SL n y d, SL q z l, SL t A m, SL O S L] a9 rfl fun dg ba => MW 1 (NC ?_)))
 obtain rfl := HS hm
 exact N_ret [.agg #[SL n y d, SL q z l, SL t A m, SL O S L], .bool true] (RX true 4 0 (ba.blk 0 rfl) (rC RVs_nil)) (⟨n, d, (c 2), q, l, (c 3), t, m, (c 4), O, L, ag, ah, rfl, ap, aq, ar, cu, ba.pk [1, 2, 3, 5, 6]⟩)
theorem c_s_l1Cur_one (w : World) (a : l1Cur) (c d) (g : rdS Gx.encU8 w a.code c d) (b : Nat) (f : Int) (hA : ∀ q ∈ List.flatten [(BK b 110 [SL c a.code d, iv a.at_, .int .u64 a.seed])], w.heap[q.1]? = some q.2) (hN : (idsOf [(BK b 110 [SL c a.code d, iv a.at_, .int .u64 a.seed])]).Nodup) (h : apartX (idsOf [(BK b 110 [SL c a.code d, iv a.at_, .int .u64 a.seed])]) a.code c) {r : Bool × Int × Int} (hm : M.s_l1Cur_one a f = some r) :
  Calls Tryz.prog 101 #[pB b 0, iv f] w fun e w' => e = .returned (.bool r.1) ∧ Mem (idsOf [(BK b 110 [SL c a.code d, iv a.at_, .int .u64 a.seed])]) w w' [(BK b 110 [SL c a.code d, iv r.2.1, .int .u64 r.2.2])] := by
 unfold M.s_l1Cur_one at hm
 refine cE Tryz.func101 ?_
 have M0 := Mem.start' w [(BK b 110 [SL c a.code d, iv a.at_, .int .u64 a.seed])] hA hN
 refine QA (MW 1 (NA (MW 2 (GD hm fun i l hm => WC ((c_s_l1Cur_pick w a c d (g.memX h M0) b f (M0.hasPick [0]) (M0.nodupPick [0] (by kernel_rfl)) (apartX.old g h M0 [0]) l).mono ?_)))))
 rintro e_ m ⟨rfl, j⟩
 have k := M0.callF' [0] [] (by kernel_rfl) j
 refine ⟨_, rfl, ?_⟩
 refine MW 2 (NC ?_)
 cases hm
 exact RA [.bool (i.1 == 0)] (⟨rfl, k.pk [0]⟩)
theorem c_s_l1Most (w : World) (a : Int) (b : Int) {r : Int} (hm : M.s_l1Most a b = some r) :
  Calls Tryz.prog 148 #[iv a, iv b] w fun e w' => e = .returned (iv r) ∧ Mem [] w w' [] := by
 unfold M.s_l1Most at hm
 refine cE Tryz.func148 ?_
 have M0 := Mem.refl [] w
 refine QA (MW 1 (NB (MW 3 (NO (GT hm (fun c hm => ?_) fun c hm => ?_)))))
 ·refine QA (MW 2 (ND ?_))
  obtain rfl := HS hm
  exact RA [iv a] (⟨rfl, M0.pk []⟩)
 refine KA (MW 2 (NC ?_))
 obtain rfl := HS hm
 exact RA [iv b] (⟨rfl, M0.pk []⟩)
theorem c_s_l1Cur_among (w : World) (a : l1Cur) (c d) (l : rdS Gx.encU8 w a.code c d) (b : Nat) (f : List Int) (g h) (m : rdS Gx.encI w f g h) (hA : ∀ q ∈ List.flatten [(BK b 110 [SL c a.code d, iv a.at_, .int .u64 a.seed])], w.heap[q.1]? = some q.2) (hN : (idsOf [(BK b 110 [SL c a.code d, iv a.at_, .int .u64 a.seed])]).Nodup) (n : apartX (idsOf [(BK b 110 [SL c a.code d, iv a.at_, .int .u64 a.seed])]) a.code c) (o : apartX (idsOf [(BK b 110 [SL c a.code d, iv a.at_, .int .u64 a.seed])]) f g) {r : Int × Int × Int} (hm : M.s_l1Cur_among a f = some r) :
  Calls Tryz.prog 97 #[pB b 0, SL g f h] w fun e w' => e = .returned (iv r.1) ∧ Mem (idsOf [(BK b 110 [SL c a.code d, iv a.at_, .int .u64 a.seed])]) w w' [(BK b 110 [SL c a.code d, iv r.2.1, .int .u64 r.2.2])] := by
 unfold M.s_l1Cur_among at hm
 refine cE Tryz.func97 ?_
 have M0 := Mem.start' w [(BK b 110 [SL c a.code d, iv a.at_, .int .u64 a.seed])] hA hN
 refine QA (MW 1 (NA (MW 4 (GD hm fun u x hm => WC ((c_s_l1Cur_pick w a c d (l.memX n M0) b (f.length : Int) (M0.hasPick [0]) (M0.nodupPick [0] (by kernel_rfl)) (apartX.old l n M0 [0]) x).mono ?_)))))
 rintro e_ j ⟨rfl, v⟩
 have i := M0.callF' [0] [] (by kernel_rfl) v
 refine ⟨_, rfl, ?_⟩
 refine GD hm fun k t hm => wV (elemP g (u.1.toNat * 1)) j (eI (m.memX o i) rfl t) (wV (iv k) j (eE false 1 0 (u.1.toNat * 1) (m.memX o i) t) (MW 1 (NC ?_)))
 obtain rfl := HS hm
 exact RA [iv k] (⟨rfl, i.pk [0]⟩)
theorem c_s_l1Cur_machStep (w : World) (d : l1Cur) (j l) (m : rdS Gx.encU8 w d.code j l) (c : Nat) (t : Machine) (T ab) (dy : rdS encRoute w t.Routes T ab) (U ac) (dz : rdS Gx.encB w t.Enabled U ac) (V ad) (d0 : rdS Gx.encB w t.Raised V ad) (W S) (hA : ∀ q ∈ List.flatten [(BK c 110 [SL j d.code l, iv d.at_, .int .u64 d.seed])], w.heap[q.1]? = some q.2) (hN : (idsOf [(BK c 110 [SL j d.code l, iv d.at_, .int .u64 d.seed])]).Nodup) (n : apartX (idsOf [(BK c 110 [SL j d.code l, iv d.at_, .int .u64 d.seed])]) d.code j) (d1 : apartX (idsOf [(BK c 110 [SL j d.code l, iv d.at_, .int .u64 d.seed])]) t.Routes T) (d2 : apartX (idsOf [(BK c 110 [SL j d.code l, iv d.at_, .int .u64 d.seed])]) t.Enabled U) (d3 : apartX (idsOf [(BK c 110 [SL j d.code l, iv d.at_, .int .u64 d.seed])]) t.Raised V) (d4 : rdX (idsOf [(BK c 110 [SL j d.code l, iv d.at_, .int .u64 d.seed])]) deepInterface w t.Cpus W S) {r : MachStep × Int × Int} (hm : M.s_l1Cur_machStep d t = some r) :
  Calls Tryz.prog 93 #[pB c 0, .agg #[SL T t.Routes ab, SL U t.Enabled ac, SL V t.Raised ad, SL W t.Cpus S]] w fun e w' => e = .returned (.agg #[iv r.1.Kind, iv r.1.Irq, iv r.1.Cpu, iv r.1.Value]) ∧ Mem (idsOf [(BK c 110 [SL j d.code l, iv d.at_, .int .u64 d.seed])]) w w' [(BK c 110 [SL j d.code l, iv r.2.1, .int .u64 r.2.2])] := by
 unfold M.s_l1Cur_machStep at hm
 refine cE Tryz.func93 ?_
 have M0 := Mem.start' w [(BK c 110 [SL j d.code l, iv d.at_, .int .u64 d.seed])] hA hN
 refine QA (wN (CE 32 [SL T t.Routes ab, SL U t.Enabled ac, SL V t.Raised ad, SL W t.Cpus S]) M0 fun cf eb b4 => wN (CE 51 [iv 0, iv 0, iv 0, iv 0]) b4 fun f X au => NA (MW 2 (wV (SL W t.Cpus S) X (eL false 1 3 (au.blk 1 rfl)) (MW 1 (GD hm fun bo cw hm => WD (c_s_l1Most X 1 (t.Cpus.length : Int) cw) au fun dd P => GD hm fun i cx hm => WC ((c_s_l1Cur_pick dd d j l (m.memX n P) c bo (P.hasPick [0]) (P.nodupPick [0] (by kernel_rfl)) (apartX.old m n P [0]) cx).mono ?_))))))
 rintro e_ aq ⟨rfl, bs⟩
 have Q := P.callF' [0] [1, 2] (by kernel_rfl) bs
 refine ⟨_, rfl, ?_⟩
 refine MW 1 (NB (MW 1 (GD hm fun h cy hm => WC ((c_s_l1Cur_pick aq (⟨d.code, i.2.1, i.2.2⟩ : l1Cur) j l (m.memX n Q) c 12 (Q.hasPick [2]) (Q.nodupPick [2] (by kernel_rfl)) (apartX.old m n Q [2]) cy).mono ?_))))
 rintro e_ ar ⟨rfl, bt⟩
 have aa := Q.callF' [2] [0, 1] (by kernel_rfl) bt
 refine ⟨_, rfl, ?_⟩
 refine NO (GB (QB (MW 2 (NO (GD hm fun c8 cq cl => G_meet (fun a w' => Mem (idsOf [(BK c 110 [SL j d.code l, iv d.at_, .int .u64 d.seed])]) w w' [(BK f 51 [iv 0, iv 0, iv 0, iv 0]), (BK c 110 [SL j d.code l, iv h.2.1, .int .u64 h.2.2])] ∧ Sat Tryz.f93.ntmps [(0, pB c 0), (4, pB f 0), (5, iv i.1), (13, iv h.1), (14, .bool c8)] a) ?_ ?_)))))
 ·have hm := cq
  refine GT hm (fun ae hm => ?_) fun ae hm => ?_
  ·refine GK ?_
   obtain rfl := HS hm
   exact NM fun a ha => ⟨aa.pk [1, 2], ha.s⟩
  refine QA (MW 2 (NO (GD hm fun c9 cr cm => G_meet (fun a w' => Mem (idsOf [(BK c 110 [SL j d.code l, iv d.at_, .int .u64 d.seed])]) w w' [(BK f 51 [iv 0, iv 0, iv 0, iv 0]), (BK c 110 [SL j d.code l, iv h.2.1, .int .u64 h.2.2])] ∧ Sat Tryz.f93.ntmps [(0, pB c 0), (4, pB f 0), (5, iv i.1), (13, iv h.1), (14, .bool c9)] a) ?_ ?_)))
  ·have hm := cr
   refine GT hm (fun af hm => ?_) fun af hm => ?_
   ·refine GK ?_
    obtain rfl := HS hm
    exact NM fun a ha => ⟨aa.pk [1, 2], ha.s⟩
   refine GR (MW 2 (WN ?_))
   obtain rfl := HS hm
   exact NM fun a ha => ⟨aa.pk [1, 2], ha.s⟩
  intro dt ec ⟨b5, cg⟩
  refine N_use cg ?_
  have hm := cm
  obtain rfl := HS hm
  exact NM fun a ha => ⟨b5.pk [0, 1], ha.s⟩
 intro du Y ⟨C, ch⟩
 refine N_use ch ?_
 have hm := cl
 refine TN (GT hm (fun ag hm => ?_) fun ag hm => ?_)
 ·refine QA (MW 1 (GD hm fun K cz hm => WC ((c_s_l1Cur_pick Y (⟨d.code, h.2.1, h.2.2⟩ : l1Cur) j l (m.memX n C) c 8 (C.hasPick [1]) (C.nodupPick [1] (by kernel_rfl)) (apartX.old m n C [1]) cz).mono ?_)))
  rintro e_ de ⟨rfl, bu⟩
  have b6 := C.callF' [1] [0] (by kernel_rfl) bu
  refine ⟨_, rfl, ?_⟩
  refine MW 1 (wS true 4 0 (.agg #[iv 1, iv K.1, iv 0, iv 0]) 0 [iv 1, iv K.1, iv 0, iv 0] b6 rfl fun ed av => NC (BR (TR ?_)))
  obtain rfl := HS hm
  exact N_ret [.agg #[iv 1, iv K.1, iv 0, iv 0]] (RX true 4 0 (av.blk 0 rfl) RVs_nil) (⟨rfl, av.pk [1]⟩)
 refine QB (MW 2 (NO (GD hm fun da ct cn => G_meet (fun a w' => Mem (idsOf [(BK c 110 [SL j d.code l, iv d.at_, .int .u64 d.seed])]) w w' [(BK f 51 [iv 0, iv 0, iv 0, iv 0]), (BK c 110 [SL j d.code l, iv h.2.1, .int .u64 h.2.2])] ∧ Sat Tryz.f93.ntmps [(0, pB c 0), (4, pB f 0), (5, iv i.1), (13, iv h.1), (21, .bool da)] a) ?_ ?_)))
 ·have hm := ct
  refine GT hm (fun ah hm => ?_) fun ah hm => ?_
  ·refine GK ?_
   obtain rfl := HS hm
   exact NM fun a ha => ⟨C.pk [0, 1], ha.s⟩
  refine GR (wR 2 [(0, pB c 0), (4, pB f 0), (5, iv i.1), (13, iv h.1), (21, .bool (h.1 == 4))] Y (WN ?_))
  obtain rfl := HS hm
  exact NM fun a ha => ⟨C.pk [0, 1], ha.s⟩
 intro dv Z ⟨R, ci⟩
 refine N_use ci ?_
 have hm := cn
 refine TN (GT hm (fun ai hm => ?_) fun ai hm => ?_)
 ·refine QA (MW 1 (wS true 4 0 (.agg #[iv 2, iv 0, iv 0, iv 0]) 0 [iv 2, iv 0, iv 0, iv 0] R rfl fun ee aw => NC (BR (TR ?_))))
  obtain rfl := HS hm
  exact N_ret [.agg #[iv 2, iv 0, iv 0, iv 0]] (RX true 4 0 (aw.blk 0 rfl) RVs_nil) (⟨rfl, aw.pk [1]⟩)
 refine QB (MW 2 (NO (GD hm fun db cu co => G_meet (fun a w' => Mem (idsOf [(BK c 110 [SL j d.code l, iv d.at_, .int .u64 d.seed])]) w w' [(BK f 51 [iv 0, iv 0, iv 0, iv 0]), (BK c 110 [SL j d.code l, iv h.2.1, .int .u64 h.2.2])] ∧ Sat Tryz.f93.ntmps [(0, pB c 0), (4, pB f 0), (5, iv i.1), (13, iv h.1), (25, .bool db)] a) ?_ ?_)))
 ·have hm := cu
  refine GT hm (fun aj hm => ?_) fun aj hm => ?_
  ·refine GK ?_
   obtain rfl := HS hm
   exact NM fun a ha => ⟨R.pk [0, 1], ha.s⟩
  refine QA (MW 2 (NO (GD hm fun dc cv cp => G_meet (fun a w' => Mem (idsOf [(BK c 110 [SL j d.code l, iv d.at_, .int .u64 d.seed])]) w w' [(BK f 51 [iv 0, iv 0, iv 0, iv 0]), (BK c 110 [SL j d.code l, iv h.2.1, .int .u64 h.2.2])] ∧ Sat Tryz.f93.ntmps [(0, pB c 0), (4, pB f 0), (5, iv i.1), (13, iv h.1), (25, .bool dc)] a) ?_ ?_)))
  ·have hm := cv
   refine GT hm (fun ak hm => ?_) fun ak hm => ?_
   ·refine GK ?_
    obtain rfl := HS hm
    exact NM fun a ha => ⟨R.pk [0, 1], ha.s⟩
   refine GR (MW 2 (WN ?_))
   obtain rfl := HS hm
   exact NM fun a ha => ⟨R.pk [0, 1], ha.s⟩
  intro dw ef ⟨b7, cj⟩
  refine N_use cj ?_
  have hm := cp
  obtain rfl := HS hm
  exact NM fun a ha => ⟨b7.pk [0, 1], ha.s⟩
 intro dx B ⟨u, ck⟩
 refine N_use ck ?_
 have hm := co
 refine TN (GT hm (fun al hm => ?_) fun al hm => ?_)
 ·refine QA (MW 2 (wS true 4 0 (.agg #[iv 3, iv 0, iv i.1, iv 0]) 0 [iv 3, iv 0, iv i.1, iv 0] u rfl fun eg ax => NC (BR (TR ?_))))
  obtain rfl := HS hm
  exact N_ret [.agg #[iv 3, iv 0, iv i.1, iv 0]] (RX true 4 0 (ax.blk 0 rfl) RVs_nil) (⟨rfl, ax.pk [1]⟩)
 refine QA (MW 2 (NO (GT hm (fun am hm => ?_) fun am hm => ?_)))
 ·refine QA (MW 2 (wS true 4 0 (.agg #[iv 4, iv 0, iv i.1, iv 0]) 0 [iv 4, iv 0, iv i.1, iv 0] u rfl fun eh ay => NC (BR (TR ?_))))
  obtain rfl := HS hm
  exact N_ret [.agg #[iv 4, iv 0, iv i.1, iv 0]] (RX true 4 0 (ay.blk 0 rfl) RVs_nil) (⟨rfl, ay.pk [1]⟩)
 refine QA (MW 2 (NO (GT hm (fun an hm => ?_) fun an hm => ?_)))
 ·refine QA (wR 2 [(4, pB f 0), (37, iv i.1), (38, pB c 0)] B (wL (E := Gx.encI) [16, 16, 8, 4, 0] 5 [iv 16, iv 16, iv 8, iv 4, iv 0] 3 u fun bi a6 d5 df bc D => GD hm fun L c0 hm => WC ((c_s_l1Cur_among df (⟨d.code, h.2.1, h.2.2⟩ : l1Cur) j l (m.memX n D) c [16, 16, 8, 4, 0] bi a6 (bc.r D 2) (D.hasPick [1]) (D.nodupPick [1] (by kernel_rfl)) (apartX.old m n D [1]) (apartX.own bc D 2 (by kernel_rfl) [1] (by kernel_rfl)) c0).mono ?_)))
  rintro e_ dg ⟨rfl, bv⟩
  have b8 := D.callF' [1] [0, 2] (by kernel_rfl) bv
  refine ⟨_, rfl, ?_⟩
  refine MW 1 (wS true 4 0 (.agg #[iv 5, iv 0, iv i.1, iv L.1]) 0 [iv 5, iv 0, iv i.1, iv L.1] b8 rfl fun ei az => NC (BR (TR ?_)))
  obtain rfl := HS hm
  exact N_ret [.agg #[iv 5, iv 0, iv i.1, iv L.1]] (RX true 4 0 (az.blk 0 rfl) RVs_nil) (⟨rfl, az.pk [2]⟩)
 refine QA (MW 2 (NO (GT hm (fun ao hm => ?_) fun ao hm => ?_)))
 ·refine QA (MW 1 (GD hm fun z c1 hm => WC ((c_s_l1Cur_pick B (⟨d.code, h.2.1, h.2.2⟩ : l1Cur) j l (m.memX n u) c 8 (u.hasPick [1]) (u.nodupPick [1] (by kernel_rfl)) (apartX.old m n u [1]) c1).mono ?_)))
  rintro e_ dh ⟨rfl, bw⟩
  have b9 := u.callF' [1] [0] (by kernel_rfl) bw
  refine ⟨_, rfl, ?_⟩
  refine MW 1 (wL (E := Gx.encI) [1, 1, 0] 3 [iv 1, iv 1, iv 0] 3 b9 fun bj a7 d6 di bd F => GD hm fun N c2 hm => WC ((c_s_l1Cur_among di (⟨d.code, z.2.1, z.2.2⟩ : l1Cur) j l (m.memX n F) c [1, 1, 0] bj a7 (bd.r F 2) (F.hasPick [1]) (F.nodupPick [1] (by kernel_rfl)) (apartX.old m n F [1]) (apartX.own bd F 2 (by kernel_rfl) [1] (by kernel_rfl)) c2).mono ?_))
  rintro e_ dj ⟨rfl, bx⟩
  have ca := F.callF' [1] [0, 2] (by kernel_rfl) bx
  refine ⟨_, rfl, ?_⟩
  refine MW 1 (wS true 4 0 (.agg #[iv 6, iv z.1, iv 0, iv N.1]) 0 [iv 6, iv z.1, iv 0, iv N.1] ca rfl fun ej a0 => NC (BR (TR ?_)))
  obtain rfl := HS hm
  exact N_ret [.agg #[iv 6, iv z.1, iv 0, iv N.1]] (RX true 4 0 (a0.blk 0 rfl) RVs_nil) (⟨rfl, a0.pk [2]⟩)
 refine GK (BN (TN (QB (MW 1 (GD hm fun bp c3 hm => WC ((c_s_l1Cur_one B (⟨d.code, h.2.1, h.2.2⟩ : l1Cur) j l (m.memX n u) c 4 (u.hasPick [1]) (u.nodupPick [1] (by kernel_rfl)) (apartX.old m n u [1]) c3).mono ?_))))))
 rintro e_ bq ⟨rfl, bz⟩
 have a3 := u.callF' [1] [0] (by kernel_rfl) bz
 refine ⟨_, rfl, ?_⟩
 refine NO (GT hm (fun ap hm => ?_) fun ap hm => ?_)
 ·refine QA (MW 1 (wL (E := Gx.encI) [0, 7, 1, 5] 4 [iv 0, iv 7, iv 1, iv 5] 3 a3 fun bk a8 d7 dk be G => GD hm fun x c4 hm => WC ((c_s_l1Cur_among dk (⟨d.code, bp.2.1, bp.2.2⟩ : l1Cur) j l (m.memX n G) c [0, 7, 1, 5] bk a8 (be.r G 2) (G.hasPick [1]) (G.nodupPick [1] (by kernel_rfl)) (apartX.old m n G [1]) (apartX.own be G 2 (by kernel_rfl) [1] (by kernel_rfl)) c4).mono ?_)))
  rintro e_ dl ⟨rfl, b0⟩
  have cb := G.callF' [1] [0, 2] (by kernel_rfl) b0
  refine ⟨_, rfl, ?_⟩
  refine MW 1 (wL (E := Gx.encI) [0, 8, (-1)] 3 [iv 0, iv 8, iv (-1)] 3 cb fun bl a9 d8 dm bf H => GD hm fun y c5 hm => WC ((c_s_l1Cur_among dm (⟨d.code, x.2.1, x.2.2⟩ : l1Cur) j l (m.memX n H) c [0, 8, (-1)] bl a9 (bf.r H 3) (H.hasPick [2]) (H.nodupPick [2] (by kernel_rfl)) (apartX.old m n H [2]) (apartX.own bf H 3 (by kernel_rfl) [2] (by kernel_rfl)) c5).mono ?_))
  rintro e_ dn ⟨rfl, b1⟩
  have cc := H.callF' [2] [0, 1, 3] (by kernel_rfl) b1
  refine ⟨_, rfl, ?_⟩
  refine MW 1 (wL (E := Gx.encI) [0, 2] 2 [iv 0, iv 2] 3 cc fun bm ba d9 dp bg I => GD hm fun A c6 hm => WC ((c_s_l1Cur_among dp (⟨d.code, y.2.1, y.2.2⟩ : l1Cur) j l (m.memX n I) c [0, 2] bm ba (bg.r I 4) (I.hasPick [3]) (I.nodupPick [3] (by kernel_rfl)) (apartX.old m n I [3]) (apartX.own bg I 4 (by kernel_rfl) [3] (by kernel_rfl)) c6).mono ?_))
  rintro e_ dq ⟨rfl, b2⟩
  have cd := I.callF' [3] [0, 1, 2, 4] (by kernel_rfl) b2
  refine ⟨_, rfl, ?_⟩
  refine MW 1 (wL (E := Gx.encI) [0, 17] 2 [iv 0, iv 17] 3 cd fun bn bb ea dr bh J => GD hm fun O c7 hm => WC ((c_s_l1Cur_among dr (⟨d.code, A.2.1, A.2.2⟩ : l1Cur) j l (m.memX n J) c [0, 17] bn bb (bh.r J 5) (J.hasPick [4]) (J.nodupPick [4] (by kernel_rfl)) (apartX.old m n J [4]) (apartX.own bh J 5 (by kernel_rfl) [4] (by kernel_rfl)) c7).mono ?_))
  rintro e_ ds ⟨rfl, b3⟩
  have ce := J.callF' [4] [0, 1, 2, 3, 5] (by kernel_rfl) b3
  refine ⟨_, rfl, ?_⟩
  refine MW 1 (wS true 4 0 (.agg #[iv x.1, iv y.1, iv A.1, iv O.1]) 0 [iv x.1, iv y.1, iv A.1, iv O.1] ce rfl fun ek a4 => ND ?_)
  obtain rfl := HS hm
  exact N_ret [.agg #[iv x.1, iv y.1, iv A.1, iv O.1]] (RX true 4 0 (a4.blk 0 rfl) RVs_nil) (⟨rfl, a4.pk [5]⟩)
 refine KA (MW 1 (wS true 4 0 (.agg #[iv 2, iv 0, iv 0, iv 0]) 0 [iv 2, iv 0, iv 0, iv 0] a3 rfl fun el a5 => NC ?_))
 obtain rfl := HS hm
 exact N_ret [.agg #[iv 2, iv 0, iv 0, iv 0]] (RX true 4 0 (a5.blk 0 rfl) RVs_nil) (⟨rfl, a5.pk [1]⟩)
theorem c_s_l1Cur_slots (w : World) (c : l1Cur) (f g) (m : rdS Gx.encU8 w c.code f g) (b : Nat) (hA : ∀ q ∈ List.flatten [(BK b 110 [SL f c.code g, iv c.at_, .int .u64 c.seed])], w.heap[q.1]? = some q.2) (hN : (idsOf [(BK b 110 [SL f c.code g, iv c.at_, .int .u64 c.seed])]).Nodup) (n : apartX (idsOf [(BK b 110 [SL f c.code g, iv c.at_, .int .u64 c.seed])]) c.code f) {r : (List Slot) × Int × Int} (hm : M.s_l1Cur_slots c = some r) :
  Calls Tryz.prog 231 #[pB b 0] w fun e w' => ∃ ca bt cg, e = .returned (SL ca r.1 bt) ∧ ownS encSlot r.1 ca bt cg ∧ Mem (idsOf [(BK b 110 [SL f c.code g, iv c.at_, .int .u64 c.seed])]) w w' [(BK b 110 [SL f c.code g, iv r.2.1, .int .u64 r.2.2]), cg] := by
 unfold M.s_l1Cur_slots at hm
 refine cE Tryz.func231 ?_
 have M0 := Mem.start' w [(BK b 110 [SL f c.code g, iv c.at_, .int .u64 c.seed])] hA hN
 refine QA (MW 1 (NA (MW 4 (wL (E := encSlot) [(⟨0, 0, 0⟩ : Slot), (⟨0, 0, 0⟩ : Slot), (⟨0, 0, 0⟩ : Slot), (⟨0, 0, 0⟩ : Slot)] 4 [iv 0, iv 0, iv 0, iv 0, iv 0, iv 0, iv 0, iv 0, iv 0, iv 0, iv 0, iv 0] 117 M0 fun an ae fm bj eb T => MW 1 (NB (MW 1 (GD hm fun fj e2 hm => WC ((c_s_l1Cur_pick bj c f g (m.memX n T) b 9 (T.hasPick [0]) (T.nodupPick [0] (by kernel_rfl)) (apartX.old m n T [0]) e2).mono ?_))))))))
 rintro e_ fr ⟨rfl, co⟩
 have c3 := T.callF' [0] [1] (by kernel_rfl) co
 refine ⟨_, rfl, ?_⟩
 refine MW 1 (NO (GD hm fun j fh ea => G_meet (fun a w' => ∃ k l ac, ownS encSlot j.1 k l ac ∧ Mem (idsOf [(BK b 110 [SL f c.code g, iv c.at_, .int .u64 c.seed])]) w w' [(BK b 110 [SL f c.code g, iv j.2.1, .int .u64 j.2.2]), ac] ∧ Sat Tryz.f231.ntmps [(0, pB b 0), (3, SL k j.1 l)] a) ?_ ?_))
 ·refine GB (G_while (σ := List Slot × Int × Int × Int) (ρ := List Slot × Int × Int) (fun d a w' => ∃ i h z, ownS encSlot d.1 i h z ∧ Mem (idsOf [(BK b 110 [SL f c.code g, iv c.at_, .int .u64 c.seed])]) w w' [(BK b 110 [SL f c.code g, iv d.2.2.1, .int .u64 d.2.2.2]), z] ∧ Sat Tryz.f231.ntmps [(0, pB b 0), (3, SL i d.1 h), (4, iv d.2.1)] a) fh (fun a ha => ⟨an, ae, fm, eb, c3.pk [1, 0], ha.s⟩) ?_)
  clear hm
  intro d g2 hm e1 f9 bk ⟨i, h, z, B, P, dm⟩
  refine G_use dm (QB (MW 2 (NO (GT hm (fun a8 hm => ?_) fun a8 hm => ?_))))
  ·refine KD (MW 1 (GD hm fun t e3 hm => WC ((c_s_l1Cur_pick bk (⟨c.code, d.2.2.1, d.2.2.2⟩ : l1Cur) f g (m.memX n P) b 4 (P.hasPick [0]) (P.nodupPick [0] (by kernel_rfl)) (apartX.old m n P [0]) e3).mono ?_)))
   rintro e_ ck ⟨rfl, cp⟩
   have bm := P.callF' [0] [1] (by kernel_rfl) cp
   refine ⟨_, rfl, ?_⟩
   refine NO (GB (QB (MW 2 (NO (GD hm fun fi ec d0 => G_meet (fun a w' => Mem (idsOf [(BK b 110 [SL f c.code g, iv c.at_, .int .u64 c.seed])]) w w' [z, (BK b 110 [SL f c.code g, iv t.2.1, .int .u64 t.2.2])] ∧ Sat Tryz.f231.ntmps [(0, pB b 0), (3, SL i d.1 h), (4, iv d.2.1), (21, iv t.1), (22, .bool fi)] a) ?_ ?_)))))
   ·have hm := ec
    refine GT hm (fun a9 hm => ?_) fun a9 hm => ?_
    ·refine GK ?_
     obtain rfl := HS hm
     exact NM fun a ha => ⟨bm.pk [0, 1], ha.s⟩
    refine GR (MW 2 (WN ?_))
    obtain rfl := HS hm
    exact NM fun a ha => ⟨bm.pk [0, 1], ha.s⟩
   intro ga D ⟨o, dn⟩
   refine N_use dn ?_
   have hm := d0
   refine TN (GD hm fun X ed d1 => G_meet (fun a w' => ∃ Z W ay, ownS encSlot X.1 Z W ay ∧ Mem (idsOf [(BK b 110 [SL f c.code g, iv c.at_, .int .u64 c.seed])]) w w' [(BK b 110 [SL f c.code g, iv X.2.1, .int .u64 X.2.2]), ay] ∧ Sat Tryz.f231.ntmps [(0, pB b 0), (3, SL Z X.1 W), (4, iv d.2.1)] a) ?_ ?_)
   ·have hm := ed
    refine GT hm (fun ba hm => ?_) fun ba hm => ?_
    ·refine QA (wR 2 [(0, pB b 0), (3, SL i d.1 h), (4, iv d.2.1), (26, SL i d.1 h), (27, pB b 0)] D (GD hm fun aa e4 hm => WC ((c_s_l1Cur_pick D (⟨c.code, t.2.1, t.2.2⟩ : l1Cur) f g (m.memX n o) b 8 (o.hasPick [1]) (o.nodupPick [1] (by kernel_rfl)) (apartX.old m n o [1]) e4).mono ?_)))
     rintro e_ cl ⟨rfl, cq⟩
     have U := o.callF' [1] [0] (by kernel_rfl) cq
     refine ⟨_, rfl, ?_⟩
     refine MW 1 (GD hm fun aw e5 hm => WC ((c_s_l1Cur_pick cl (⟨c.code, aa.2.1, aa.2.2⟩ : l1Cur) f g (m.memX n U) b 8 (U.hasPick [1]) (U.nodupPick [1] (by kernel_rfl)) (apartX.old m n U [1]) e5).mono ?_))
     rintro e_ fs ⟨rfl, cr⟩
     have bn := U.callF' [1] [0] (by kernel_rfl) cr
     refine ⟨_, rfl, ?_⟩
     refine GD hm fun ab e6 hm => WC ((c_s_l8Put fs d.1 i h (B.r bn 0) aa.1 aw.1 e6).mono ?_)
     rintro e_ bl ⟨ao, af, fn, rfl, ef, cs⟩
     have bo := bn.call cs
     refine ⟨_, rfl, ?_⟩
     refine MW 5 (NA (MW 1 (NO (GD hm fun b6 eg d2 => G_meet (fun a w' => ∃ ap ag az, ownS encSlot b6 ap ag az ∧ Mem (idsOf [(BK b 110 [SL f c.code g, iv c.at_, .int .u64 c.seed])]) w w' [(BK b 110 [SL f c.code g, iv aw.2.1, .int .u64 aw.2.2]), az] ∧ Sat Tryz.f231.ntmps [(0, pB b 0), (3, SL ap b6 ag), (4, iv d.2.1)] a) ?_ ?_))))
     ·have hm := eg
      refine GT hm (fun bb hm => ?_) fun bb hm => ?_
      ·refine GR (MW 2 (WN ?_))
       obtain rfl := HS hm
       exact NM fun a ha => ⟨ao, af, fn, ef, bo.pk [1, 2], ha.s⟩
      refine GK ?_
      obtain rfl := HS hm
      exact NM fun a ha => ⟨i, h, z, B, bo.pk [1, 0], ha.s⟩
     intro gb gt ⟨ap, ag, az, eh, c4, dp⟩
     refine N_use dp ?_
     have hm := d2
     obtain rfl := HS hm
     exact NM fun a ha => ⟨ap, ag, az, eh, c4.pk [0, 1], ha.s⟩
    refine QA (MW 2 (NO (GD hm fun al ei d3 => G_meet (fun a w' => ∃ aq ah a0, ownS encSlot al.1 aq ah a0 ∧ Mem (idsOf [(BK b 110 [SL f c.code g, iv c.at_, .int .u64 c.seed])]) w w' [(BK b 110 [SL f c.code g, iv al.2.1, .int .u64 al.2.2]), a0] ∧ Sat Tryz.f231.ntmps [(0, pB b 0), (3, SL aq al.1 ah), (4, iv d.2.1)] a) ?_ ?_)))
    ·have hm := ei
     refine GT hm (fun bc hm => ?_) fun bc hm => ?_
     ·refine GR (wR 1 [(0, pB b 0), (3, SL i d.1 h), (4, iv d.2.1), (39, SL i d.1 h)] D ?_)
      rcases gx_alt hm with ⟨go, e7, hm⟩ | hm
      ·refine WD (c_s_l8Take__k D d.1 i h (B.r o 0) 16 e7) o fun ft c5 => MW 4 (WN ?_)
       obtain rfl := HS hm
       exact NM fun a ha => ⟨i, h, z, B, c5.pk [1, 0], ha.s⟩
      refine GD hm fun fk e8 hm => WC ((c_s_l8Take D d.1 i h (B.r o 0) 16 e8).mono ?_)
      rintro e_ fu ⟨cb, bu, fo, rfl, ek, cu⟩
      have c6 := o.call cu
      refine ⟨_, rfl, ?_⟩
      refine MW 4 (WN ?_)
      obtain rfl := HS hm
      exact NM fun a ha => ⟨cb, bu, fo, ek, c6.pk [1, 2], ha.s⟩
     refine QA (MW 2 (NO (GD hm fun am el d4 => G_meet (fun a w' => ∃ ar ai a3, ownS encSlot am.1 ar ai a3 ∧ Mem (idsOf [(BK b 110 [SL f c.code g, iv c.at_, .int .u64 c.seed])]) w w' [(BK b 110 [SL f c.code g, iv am.2.1, .int .u64 am.2.2]), a3] ∧ Sat Tryz.f231.ntmps [(0, pB b 0), (3, SL ar am.1 ai), (4, iv d.2.1)] a) ?_ ?_)))
     ·have hm := el
      refine GT hm (fun bd hm => ?_) fun bd hm => ?_
      ·refine QA (MW 2 (GD hm fun ax e9 hm => WC ((c_s_l1Cur_pick D (⟨c.code, t.2.1, t.2.2⟩ : l1Cur) f g (m.memX n o) b 8 (o.hasPick [1]) (o.nodupPick [1] (by kernel_rfl)) (apartX.old m n o [1]) e9).mono ?_)))
       rintro e_ fv ⟨rfl, cv⟩
       have bp := o.callF' [1] [0] (by kernel_rfl) cv
       refine ⟨_, rfl, ?_⟩
       refine GD hm fun C fa hm => WC ((c_s_l8End fv d.1 i h (B.r bp 0) ax.1 fa).mono ?_)
       rintro e_ ad ⟨G, F, ch, rfl, en, cw⟩
       have Q := bp.call cw
       refine ⟨_, rfl, ?_⟩
       refine wR 5 [(0, pB b 0), (3, SL i d.1 h), (4, iv d.2.1), (7, SL G C.1 F), (8, .bool C.2)] ad (NE (GD hm fun Y eo d5 => G_meet (fun a w' => Mem (idsOf [(BK b 110 [SL f c.code g, iv c.at_, .int .u64 c.seed])]) w w' [z, (BK b 110 [SL f c.code g, iv Y.2.1, .int .u64 Y.2.2]), ch] ∧ Sat Tryz.f231.ntmps [(0, pB b 0), (3, SL i d.1 h), (4, iv d.2.1), (7, SL G C.1 F), (56, .bool Y.1)] a) ?_ ?_))
       ·have hm := eo
        refine GR (wR 2 [(0, pB b 0), (3, SL i d.1 h), (4, iv d.2.1), (7, SL G C.1 F), (53, .bool C.2)] ad ?_)
        rcases gx_bif hm with ⟨be, hm⟩ | ⟨be, hm⟩
        ·refine wK 53 true be (MW 1 (GD hm fun fl fb hm => WC ((c_s_l1Cur_one ad (⟨c.code, ax.2.1, ax.2.2⟩ : l1Cur) f g (m.memX n Q) b 2 (Q.hasPick [1]) (Q.nodupPick [1] (by kernel_rfl)) (apartX.old m n Q [1]) fb).mono ?_)))
         rintro e_ fw ⟨rfl, cx⟩
         have c7 := Q.callF' [1] [0, 2] (by kernel_rfl) cx
         refine ⟨_, rfl, ?_⟩
         refine MW 1 (WN ?_)
         obtain rfl := HS hm
         exact NM fun a ha => ⟨c7.pk [0, 2, 1], ha.s⟩
        refine wK 53 false be (MW 3 (WN ?_))
        obtain rfl := HS hm
        exact NM fun a ha => ⟨Q.pk [0, 1, 2], ha.s⟩
       intro gc fx ⟨bq, dq⟩
       refine N_use dq ?_
       have hm := d5
       refine TN (GD hm fun b7 ep d6 => G_meet (fun a w' => ∃ au aj a4, ownS encSlot b7 au aj a4 ∧ Mem (idsOf [(BK b 110 [SL f c.code g, iv c.at_, .int .u64 c.seed])]) w w' [(BK b 110 [SL f c.code g, iv Y.2.1, .int .u64 Y.2.2]), a4] ∧ Sat Tryz.f231.ntmps [(0, pB b 0), (3, SL au b7 aj), (4, iv d.2.1)] a) ?_ ?_)
       ·have hm := ep
        refine GT hm (fun bf hm => ?_) fun bf hm => ?_
        ·refine GR (MW 2 (WN ?_))
         obtain rfl := HS hm
         exact NM fun a ha => ⟨G, F, ch, en, bq.pk [1, 2], ha.s⟩
        refine GK ?_
        obtain rfl := HS hm
        exact NM fun a ha => ⟨i, h, z, B, bq.pk [1, 0], ha.s⟩
       intro gd gu ⟨au, aj, a4, er, c8, dr⟩
       refine N_use dr ?_
       have hm := d6
       obtain rfl := HS hm
       exact NM fun a ha => ⟨au, aj, a4, er, c8.pk [0, 1], ha.s⟩
      refine GK ?_
      obtain rfl := HS hm
      exact NM fun a ha => ⟨i, h, z, B, o.pk [1, 0], ha.s⟩
     intro ge gv ⟨ar, ai, a3, em, c9, ds⟩
     refine N_use ds ?_
     have hm := d4
     obtain rfl := HS hm
     exact NM fun a ha => ⟨ar, ai, a3, em, c9.pk [0, 1], ha.s⟩
    intro gf gw ⟨aq, ah, a0, ej, da, dt⟩
    refine N_use dt ?_
    have hm := d3
    obtain rfl := HS hm
    exact NM fun a ha => ⟨aq, ah, a0, ej, da.pk [0, 1], ha.s⟩
   intro gg fy ⟨Z, W, ay, ee, db, du⟩
   refine N_use du ?_
   have hm := d1
   refine BN (BN (TN (GR (MW 3 (WN ?_)))))
   cases hm
   exact N_loop fun a ha => ⟨_, rfl, Z, W, ay, ee, db.pk [0, 1], ha.s⟩
  refine XA ?_
  obtain rfl := HS hm
  obtain rfl := e1 _ rfl
  exact NM fun a ha => ⟨i, h, z, B, P.pk [0, 1], ha.s⟩
 intro gh cm ⟨k, l, ac, L, V, dv⟩
 refine N_use dv ?_
 have hm := ea
 refine TN (QB (MW 1 (GD hm fun v fc hm => WC ((c_s_l1Cur_pick cm (⟨c.code, j.2.1, j.2.2⟩ : l1Cur) f g (m.memX n V) b 24 (V.hasPick [0]) (V.nodupPick [0] (by kernel_rfl)) (apartX.old m n V [0]) fc).mono ?_))))
 rintro e_ H ⟨rfl, cy⟩
 have A := V.callF' [0] [1] (by kernel_rfl) cy
 refine ⟨_, rfl, ?_⟩
 refine NO (GB (QA (MW 2 (NO (GD hm fun N es d7 => G_meet (fun a w' => ∃ S R a5 ci, ownS encSlot N.1 S R a5 ∧ ownS encSlot N.2.2.2 k l ci ∧ Mem (idsOf [(BK b 110 [SL f c.code g, iv c.at_, .int .u64 c.seed])]) w w' [(BK b 110 [SL f c.code g, iv N.2.1, .int .u64 N.2.2.1]), a5] ∧ Sat Tryz.f231.ntmps [(3, SL S N.1 R)] a) ?_ ?_)))))
 ·have hm := es
  refine GT hm (fun bg hm => ?_) fun bg hm => ?_
  ·refine GR (MW 2 (GD hm fun u fd hm => WC ((c_s_l1Cur_pick H (⟨c.code, v.2.1, v.2.2⟩ : l1Cur) f g (m.memX n A) b 4 (A.hasPick [1]) (A.nodupPick [1] (by kernel_rfl)) (apartX.old m n A [1]) fd).mono ?_)))
   rintro e_ fz ⟨rfl, cz⟩
   have dc := A.callF' [1] [0] (by kernel_rfl) cz
   refine ⟨_, rfl, ?_⟩
   refine wR 1 [(0, pB b 0), (3, SL k j.1 l), (62, SL k j.1 l), (64, iv u.1), (65, pB b 0)] fz (wL (E := Gx.encI) [(-1), 4, 1] 3 [iv (-1), iv 4, iv 1] 3 dc fun cc bv gp f0 b0 I => GD hm fun x fe hm => WC ((c_s_l1Cur_among f0 (⟨c.code, u.2.1, u.2.2⟩ : l1Cur) f g (m.memX n I) b [(-1), 4, 1] cc bv (b0.r I 2) (I.hasPick [1]) (I.nodupPick [1] (by kernel_rfl)) (apartX.old m n I [1]) (apartX.own b0 I 2 (by kernel_rfl) [1] (by kernel_rfl)) fe).mono ?_))
   rintro e_ f1 ⟨rfl, c0⟩
   have dd := I.callF' [1] [0, 2] (by kernel_rfl) c0
   refine ⟨_, rfl, ?_⟩
   refine MW 1 (wL (E := Gx.encI) [(-1), 7, 8] 3 [iv (-1), iv 7, iv 8] 3 dd fun cd bw gq f2 b1 J => GD hm fun y ff hm => WC ((c_s_l1Cur_among f2 (⟨c.code, x.2.1, x.2.2⟩ : l1Cur) f g (m.memX n J) b [(-1), 7, 8] cd bw (b1.r J 3) (J.hasPick [2]) (J.nodupPick [2] (by kernel_rfl)) (apartX.old m n J [2]) (apartX.own b1 J 3 (by kernel_rfl) [2] (by kernel_rfl)) ff).mono ?_))
   rintro e_ f3 ⟨rfl, c1⟩
   have de := J.callF' [2] [0, 1, 3] (by kernel_rfl) c1
   refine ⟨_, rfl, ?_⟩
   refine MW 1 (wL (E := Gx.encI) [(-1), 15, 16] 3 [iv (-1), iv 15, iv 16] 3 de fun ce bx gr f4 b2 K => GD hm fun O fg hm => WC ((c_s_l1Cur_among f4 (⟨c.code, y.2.1, y.2.2⟩ : l1Cur) f g (m.memX n K) b [(-1), 15, 16] ce bx (b2.r K 4) (K.hasPick [3]) (K.nodupPick [3] (by kernel_rfl)) (apartX.old m n K [3]) (apartX.own b2 K 4 (by kernel_rfl) [3] (by kernel_rfl)) fg).mono ?_))
   rintro e_ cn ⟨rfl, c2⟩
   have br := K.callF' [3] [0, 1, 2, 4] (by kernel_rfl) c2
   refine ⟨_, rfl, ?_⟩
   refine MW 1 (GD hm fun f7 b4 hm => wV (elemP k (u.1.toNat * 3)) cn (eI (L.r br 0) rfl b4) (wE true 3 u.1.toNat 0 (u.1.toNat * 3) f7 (⟨x.1, y.1, O.1⟩ : Slot) (.agg #[iv x.1, iv y.1, iv O.1]) 0 br L (gxIdx_spec b4).2 fun gx cj b3 df => LX 3 k l j.1 u.1.toNat (⟨x.1, y.1, O.1⟩ : Slot) (LX 62 k l j.1 u.1.toNat (⟨x.1, y.1, O.1⟩ : Slot) (WN ?_))))
   obtain rfl := HS hm
   exact NM fun a ha => ⟨k, l, cj, cj, b3, b3, df.pk [4, 0], ha.s⟩
  refine QA (MW 2 (NO (GD hm fun b8 eu d8 => G_meet (fun a w' => ∃ av ak a6, ownS encSlot b8 av ak a6 ∧ Mem (idsOf [(BK b 110 [SL f c.code g, iv c.at_, .int .u64 c.seed])]) w w' [(BK b 110 [SL f c.code g, iv v.2.1, .int .u64 v.2.2]), a6] ∧ Sat Tryz.f231.ntmps [(3, SL av b8 ak)] a) ?_ ?_)))
  ·have hm := eu
   refine GT hm (fun bh hm => ?_) fun bh hm => ?_
   ·refine GR (MW 2 (wL (E := encSlot) [(⟨0, 0, 0⟩ : Slot)] 1 [iv 0, iv 0, iv 0] 117 A fun gn gl gs gy ew bs => GD hm fun dl dz hm => wA 24 [iv 0, iv 0, iv 0] 0 bs L (ew.r bs 2) dz fun cf bz fp f5 ex dg => MW 1 (WN ?_)))
    obtain rfl := HS hm
    exact NM fun a ha => ⟨cf, bz, fp, ex, dg.pk [1, 0], ha.s⟩
   refine QA (MW 2 (NO (GD hm fun b9 ey d9 => G_meet (fun a w' => ∃ a7, ownS encSlot b9 k l a7 ∧ Mem (idsOf [(BK b 110 [SL f c.code g, iv c.at_, .int .u64 c.seed])]) w w' [(BK b 110 [SL f c.code g, iv v.2.1, .int .u64 v.2.2]), a7] ∧ Sat Tryz.f231.ntmps [(3, SL k b9 l)] a) ?_ ?_)))
   ·have hm := ey
    refine GT hm (fun bi hm => ?_) fun bi hm => ?_
    ·refine GR (MW 2 (GD hm fun f8 b5 hm => wV (elemP k ((3 : Int).toNat * 3)) H (eI (L.r A 0) rfl b5) (wE true 3 (3 : Int).toNat 0 ((3 : Int).toNat * 3) f8 (⟨0, 1, 0⟩ : Slot) (.agg #[iv 0, iv 1, iv 0]) 0 A L (gxIdx_spec b5).2 fun gz fq e0 dh => LX 3 k l j.1 ((3 : Int).toNat) (⟨0, 1, 0⟩ : Slot) (LX 84 k l j.1 ((3 : Int).toNat) (⟨0, 1, 0⟩ : Slot) (WN ?_)))))
     obtain rfl := HS hm
     exact NM fun a ha => ⟨fq, e0, dh.pk [1, 0], ha.s⟩
    refine GK ?_
    obtain rfl := HS hm
    exact NM fun a ha => ⟨ac, L, A.pk [1, 0], ha.s⟩
   intro gi g0 ⟨a7, ez, di, dw⟩
   refine N_use dw ?_
   have hm := d9
   obtain rfl := HS hm
   exact NM fun a ha => ⟨k, l, a7, ez, di.pk [0, 1], ha.s⟩
  intro gj g1 ⟨av, ak, a6, ev, dj, dx⟩
  refine N_use dx ?_
  have hm := d8
  obtain rfl := HS hm
  exact NM fun a ha => ⟨av, ak, a6, ac, ev, L, dj.pk [0, 1], ha.s⟩
 intro gk f6 ⟨S, R, a5, ci, et, gm, dk, dy⟩
 refine N_use dy ?_
 have hm := d7
 refine BN (NF (MW 2 (NC ?_)))
 obtain rfl := HS hm
 exact RA [SL S N.1 R] (⟨S, R, a5, rfl, et, dk.pk [0, 1]⟩)
theorem c_s_l1Cur_irq (w : World) (a : l1Cur) (c d) (h : rdS Gx.encU8 w a.code c d) (b : Nat) (hA : ∀ q ∈ List.flatten [(BK b 110 [SL c a.code d, iv a.at_, .int .u64 a.seed])], w.heap[q.1]? = some q.2) (hN : (idsOf [(BK b 110 [SL c a.code d, iv a.at_, .int .u64 a.seed])]).Nodup) (i : apartX (idsOf [(BK b 110 [SL c a.code d, iv a.at_, .int .u64 a.seed])]) a.code c) {r : Int × Int × Int} (hm : M.s_l1Cur_irq a = some r) :
  Calls Tryz.prog 232 #[pB b 0] w fun e w' => e = .returned (iv r.1) ∧ Mem (idsOf [(BK b 110 [SL c a.code d, iv a.at_, .int .u64 a.seed])]) w w' [(BK b 110 [SL c a.code d, iv r.2.1, .int .u64 r.2.2])] := by
 unfold M.s_l1Cur_irq at hm
 refine cE Tryz.func232 ?_
 have M0 := Mem.start' w [(BK b 110 [SL c a.code d, iv a.at_, .int .u64 a.seed])] hA hN
 refine QA (MW 1 (NB (MW 1 (GD hm fun j B hm => WC ((c_s_l1Cur_one w a c d (h.memX i M0) b 20 (M0.hasPick [0]) (M0.nodupPick [0] (by kernel_rfl)) (apartX.old h i M0 [0]) B).mono ?_)))))
 rintro e_ l ⟨rfl, v⟩
 have g := M0.callF' [0] [] (by kernel_rfl) v
 refine ⟨_, rfl, ?_⟩
 refine NO (GT hm (fun k hm => ?_) fun k hm => ?_)
 ·refine QA (MW 1 (wL (E := Gx.encI) [(-1), 8] 2 [iv (-1), iv 8] 3 g fun o m I F n f => GD hm fun t C hm => WC ((c_s_l1Cur_among F (⟨a.code, j.2.1, j.2.2⟩ : l1Cur) c d (h.memX i f) b [(-1), 8] o m (n.r f 1) (f.hasPick [0]) (f.nodupPick [0] (by kernel_rfl)) (apartX.old h i f [0]) (apartX.own n f 1 (by kernel_rfl) [0] (by kernel_rfl)) C).mono ?_)))
  rintro e_ G ⟨rfl, x⟩
  have z := f.callF' [0] [1] (by kernel_rfl) x
  refine ⟨_, rfl, ?_⟩
  refine MW 1 (ND ?_)
  obtain rfl := HS hm
  exact RA [iv t.1] (⟨rfl, z.pk [1]⟩)
 refine KA (MW 1 (GD hm fun u D hm => WC ((c_s_l1Cur_pick l (⟨a.code, j.2.1, j.2.2⟩ : l1Cur) c d (h.memX i g) b 8 (g.hasPick [0]) (g.nodupPick [0] (by kernel_rfl)) (apartX.old h i g [0]) D).mono ?_)))
 rintro e_ H ⟨rfl, y⟩
 have A := g.callF' [0] [] (by kernel_rfl) y
 refine ⟨_, rfl, ?_⟩
 refine MW 1 (NC ?_)
 obtain rfl := HS hm
 exact RA [iv u.1] (⟨rfl, A.pk [0]⟩)
theorem c_s_l1Cur_prio (w : World) (a : l1Cur) (c d) (h : rdS Gx.encU8 w a.code c d) (b : Nat) (hA : ∀ q ∈ List.flatten [(BK b 110 [SL c a.code d, iv a.at_, .int .u64 a.seed])], w.heap[q.1]? = some q.2) (hN : (idsOf [(BK b 110 [SL c a.code d, iv a.at_, .int .u64 a.seed])]).Nodup) (i : apartX (idsOf [(BK b 110 [SL c a.code d, iv a.at_, .int .u64 a.seed])]) a.code c) {r : Int × Int × Int} (hm : M.s_l1Cur_prio a = some r) :
  Calls Tryz.prog 233 #[pB b 0] w fun e w' => e = .returned (iv r.1) ∧ Mem (idsOf [(BK b 110 [SL c a.code d, iv a.at_, .int .u64 a.seed])]) w w' [(BK b 110 [SL c a.code d, iv r.2.1, .int .u64 r.2.2])] := by
 unfold M.s_l1Cur_prio at hm
 refine cE Tryz.func233 ?_
 have M0 := Mem.start' w [(BK b 110 [SL c a.code d, iv a.at_, .int .u64 a.seed])] hA hN
 refine QA (MW 1 (NA (MW 1 (wL (E := Gx.encI) [0, 1, 2, 3, 5, 8, 15, 4, 4, 7, 12, 16, (-1), 6] 14 [iv 0, iv 1, iv 2, iv 3, iv 5, iv 8, iv 15, iv 4, iv 4, iv 7, iv 12, iv 16, iv (-1), iv 6] 3 M0 fun k g v t j f => GD hm fun l o hm => WC ((c_s_l1Cur_among t a c d (h.memX i f) b [0, 1, 2, 3, 5, 8, 15, 4, 4, 7, 12, 16, (-1), 6] k g (j.r f 1) (f.hasPick [0]) (f.nodupPick [0] (by kernel_rfl)) (apartX.old h i f [0]) (apartX.own j f 1 (by kernel_rfl) [0] (by kernel_rfl)) o).mono ?_)))))
 rintro e_ u ⟨rfl, m⟩
 have n := f.callF' [0] [1] (by kernel_rfl) m
 refine ⟨_, rfl, ?_⟩
 refine MW 1 (NC ?_)
 obtain rfl := HS hm
 exact RA [iv l.1] (⟨rfl, n.pk [1]⟩)
theorem c_s_l1Cur_queue (w : World) (d : l1Cur) (l m) (Q : rdS Gx.encU8 w d.code l m) (c : Nat) (hA : ∀ q ∈ List.flatten [(BK c 110 [SL l d.code m, iv d.at_, .int .u64 d.seed])], w.heap[q.1]? = some q.2) (hN : (idsOf [(BK c 110 [SL l d.code m, iv d.at_, .int .u64 d.seed])]).Nodup) (S : apartX (idsOf [(BK c 110 [SL l d.code m, iv d.at_, .int .u64 d.seed])]) d.code l) {r : Queue × Int × Int} (hm : M.s_l1Cur_queue d = some r) :
  Calls Tryz.prog 184 #[pB c 0] w fun e w' => ∃ d8 d3 ea d9 d4 eb, e = .returned (.agg #[SL d8 r.1.Slots d3, SL d9 r.1.Waiting d4]) ∧ ownS encSlot r.1.Slots d8 d3 ea ∧ ownS encWaiter r.1.Waiting d9 d4 eb ∧ Mem (idsOf [(BK c 110 [SL l d.code m, iv d.at_, .int .u64 d.seed])]) w w' [(BK c 110 [SL l d.code m, iv r.2.1, .int .u64 r.2.2]), ea, eb] := by
 unfold M.s_l1Cur_queue at hm
 refine cE Tryz.func184 ?_
 have M0 := Mem.start' w [(BK c 110 [SL l d.code m, iv d.at_, .int .u64 d.seed])] hA hN
 refine QA (wN (CE 85 [SN, SN]) M0 fun u iw ex => NA (MW 4 (wL (E := encSlot) [(⟨0, 0, 0⟩ : Slot), (⟨0, 0, 0⟩ : Slot), (⟨0, 0, 0⟩ : Slot), (⟨0, 0, 0⟩ : Slot)] 4 [iv 0, iv 0, iv 0, iv 0, iv 0, iv 0, iv 0, iv 0, iv 0, iv 0, iv 0, iv 0] 117 ex fun b9 bq ik j6 g3 ey => wL (E := encWaiter) ([] : List Waiter) 0 [] 142 ey fun ca br il ix g4 ez => MW 1 (wN (CE 85 [SN, SN]) ez fun t j7 e0 => wS true 2 0 (.agg #[SL b9 [(⟨0, 0, 0⟩ : Slot), (⟨0, 0, 0⟩ : Slot), (⟨0, 0, 0⟩ : Slot), (⟨0, 0, 0⟩ : Slot)] bq, SL ca ([] : List Waiter) br]) 4 [SL b9 [(⟨0, 0, 0⟩ : Slot), (⟨0, 0, 0⟩ : Slot), (⟨0, 0, 0⟩ : Slot), (⟨0, 0, 0⟩ : Slot)] bq, SL ca ([] : List Waiter) br] e0 rfl fun ee ba => NB (MW 1 (GD hm fun ij h2 hm => WC ((c_s_l1Cur_pick ee d l m (Q.memX S ba) c 14 (ba.hasPick [0]) (ba.nodupPick [0] (by kernel_rfl)) (apartX.old Q S ba [0]) h2).mono ?_)))))))
 rintro e_ iy ⟨rfl, ej⟩
 have e1 := ba.callF' [0] [1, 2, 3, 4] (by kernel_rfl) ej
 refine ⟨_, rfl, ?_⟩
 refine MW 1 (NO (GD hm fun y ih g2 => G_meet (fun a w' => ∃ J K ad T P ab, ownS encSlot y.2.2.1 J K ad ∧ ownS encWaiter y.2.2.2 T P ab ∧ Mem (idsOf [(BK c 110 [SL l d.code m, iv d.at_, .int .u64 d.seed])]) w w' [(BK u 85 [SN, SN]), (BK t 85 [SL J y.2.2.1 K, SL T y.2.2.2 P]), (BK c 110 [SL l d.code m, iv y.1, .int .u64 y.2.1]), ad, ab] ∧ Sat Tryz.f184.ntmps [(0, pB c 0), (2, pB u 0), (3, pB t 0)] a) ?_ ?_))
 ·refine GB (G_while (σ := Int × Int × Int × List Slot × List Waiter) (ρ := Int × Int × List Slot × List Waiter) (fun n a w' => ∃ B z X C A Y, ownS encSlot n.2.2.2.1 B z X ∧ ownS encWaiter n.2.2.2.2 C A Y ∧ Mem (idsOf [(BK c 110 [SL l d.code m, iv d.at_, .int .u64 d.seed])]) w w' [(BK u 85 [SN, SN]), (BK t 85 [SL B n.2.2.2.1 z, SL C n.2.2.2.2 A]), (BK c 110 [SL l d.code m, iv n.2.1, .int .u64 n.2.2.1]), X, Y] ∧ Sat Tryz.f184.ntmps [(0, pB c 0), (2, pB u 0), (3, pB t 0), (4, iv n.1)] a) ih (fun a ha => ⟨b9, bq, ik, ca, br, il, g3, g4, e1.pk [0, 3, 4, 1, 2], ha.s⟩) ?_)
  clear hm
  intro n ky hm h1 jt dt ⟨B, z, X, C, A, Y, az, a0, ax, gf⟩
  refine G_use gf (QB (MW 2 (NO (GT hm (fun da hm => ?_) fun da hm => ?_))))
  ·refine KD (MW 1 (GD hm fun I h3 hm => WC ((c_s_l1Cur_pick dt (⟨d.code, n.2.1, n.2.2.1⟩ : l1Cur) l m (Q.memX S ax) c 5 (ax.hasPick [2]) (ax.nodupPick [2] (by kernel_rfl)) (apartX.old Q S ax [2]) h3).mono ?_)))
   rintro e_ du ⟨rfl, ek⟩
   have c3 := ax.callF' [2] [0, 1, 3, 4] (by kernel_rfl) ek
   refine ⟨_, rfl, ?_⟩
   refine NO (GB (QB (MW 2 (NO (GD hm fun d7 g5 gs => G_meet (fun a w' => Mem (idsOf [(BK c 110 [SL l d.code m, iv d.at_, .int .u64 d.seed])]) w w' [(BK u 85 [SN, SN]), (BK t 85 [SL B n.2.2.2.1 z, SL C n.2.2.2.2 A]), X, Y, (BK c 110 [SL l d.code m, iv I.2.1, .int .u64 I.2.2])] ∧ Sat Tryz.f184.ntmps [(0, pB c 0), (2, pB u 0), (3, pB t 0), (4, iv n.1), (21, iv I.1), (22, .bool d7)] a) ?_ ?_)))))
   ·have hm := g5
    refine GT hm (fun db hm => ?_) fun db hm => ?_
    ·refine GK ?_
     obtain rfl := HS hm
     exact NM fun a ha => ⟨c3.pk [0, 1, 2, 3, 4], ha.s⟩
    refine QA (MW 2 (NO (GD hm fun ii g6 gt => G_meet (fun a w' => Mem (idsOf [(BK c 110 [SL l d.code m, iv d.at_, .int .u64 d.seed])]) w w' [(BK u 85 [SN, SN]), (BK t 85 [SL B n.2.2.2.1 z, SL C n.2.2.2.2 A]), X, Y, (BK c 110 [SL l d.code m, iv I.2.1, .int .u64 I.2.2])] ∧ Sat Tryz.f184.ntmps [(0, pB c 0), (2, pB u 0), (3, pB t 0), (4, iv n.1), (21, iv I.1), (22, .bool ii)] a) ?_ ?_)))
    ·have hm := g6
     refine GT hm (fun dc hm => ?_) fun dc hm => ?_
     ·refine GK ?_
      obtain rfl := HS hm
      exact NM fun a ha => ⟨c3.pk [0, 1, 2, 3, 4], ha.s⟩
     refine GR (wR 2 [(0, pB c 0), (2, pB u 0), (3, pB t 0), (4, iv n.1), (21, iv I.1), (22, .bool (I.1 == 2))] du (WN ?_))
     obtain rfl := HS hm
     exact NM fun a ha => ⟨c3.pk [0, 1, 2, 3, 4], ha.s⟩
    intro ju j8 ⟨e2, gg⟩
    refine N_use gg ?_
    have hm := gt
    obtain rfl := HS hm
    exact NM fun a ha => ⟨e2.pk [0, 1, 2, 3, 4], ha.s⟩
   intro jv a9 ⟨av, gh⟩
   refine N_use gh ?_
   have hm := gs
   refine TN (GD hm fun a4 g7 gu => G_meet (fun a w' => ∃ cb bs cp cc bt cq, ownS encSlot a4.2.2.1 cb bs cp ∧ ownS encWaiter a4.2.2.2 cc bt cq ∧ Mem (idsOf [(BK c 110 [SL l d.code m, iv d.at_, .int .u64 d.seed])]) w w' [(BK u 85 [SN, SN]), (BK t 85 [SL cb a4.2.2.1 bs, SL cc a4.2.2.2 bt]), (BK c 110 [SL l d.code m, iv a4.1, .int .u64 a4.2.1]), cp, cq] ∧ Sat Tryz.f184.ntmps [(0, pB c 0), (2, pB u 0), (3, pB t 0), (4, iv n.1)] a) ?_ ?_)
   ·have hm := g7
    rcases gx_bif hm with ⟨dd, hm⟩ | ⟨dd, hm⟩
    ·refine gT dd (GD hm fun Z h4 hm => GD hm fun aj h5 hm => ?_)
     have e3 : Mem (idsOf [(BK c 110 [SL l d.code m, iv d.at_, .int .u64 d.seed])]) w a9 ([(BK u 85 [SN, SN]), (BK t 85 [SL B n.2.2.2.1 z, SL C n.2.2.2.2 A]), X, Y] ++ (List.range 5).map (fun i => ([[], [], (BK c 110 [SL l d.code m, iv I.2.1, .int .u64 I.2.2]), [], []] : List Seg).getD i [])) := av.pk [0, 1, 2, 3, 300000, 300001, 4, 300003, 300004]
     refine GU [(0, pB c 0), (2, pB u 0), (3, pB t 0), (4, iv n.1), (21, iv I.1), (22, .bool d7)] (DL 5 [[],[],[1],[],[2,3]] [[],[],[],[],[2]] (EM 5) (EM 5) (EM 5) (EM 5) (fun i => ([[], [], (BK c 110 [SL l d.code m, iv I.2.1, .int .u64 I.2.2]), [], []] : List Seg).getD i []) [QV (.agg #[SL B n.2.2.2.1 z, SL C n.2.2.2.2 A]), QV (pB c 0), fun f v s => v = (iv Z.1 : Value) ∧ s = (BK c 110 [SL l d.code m, iv Z.2.1, .int .u64 Z.2.2]), QV (pB c 0), fun f v s => v = (iv aj.1 : Value) ∧ s = (BK c 110 [SL l d.code m, iv aj.2.1, .int .u64 aj.2.2])] [2] [0, 4] [4] e3 (AC ?_ (AC ?_ (AC ?_ (AC ?_ (AC ?_ AN))))) ?_)
     ·intro aw bi R iz dx
      exact OV ⟨rfl, rfl⟩ (eL true 2 0 (dx.blk 1 rfl)) dx
     ·intro aw bi R i0 e4
      exact OM ⟨rfl, rfl⟩ e4
     ·rintro aw bi v1_ ⟨rfl, _⟩ R i1 bb
      refine WC ((c_s_l1Cur_pick i1 (⟨d.code, I.2.1, I.2.2⟩ : l1Cur) l m (Q.memX S bb) c 8 (bb.hasPick [4]) (bb.nodupPick [4] (by kernel_rfl)) (apartX.old Q S bb [4]) h4).mono ?_)
      rintro e_ j9 ⟨rfl, el⟩
      refine ⟨_, rfl, ?_⟩
      exact WN (oE (iv Z.1) (BK c 110 [SL l d.code m, iv Z.2.1, .int .u64 Z.2.2]) ⟨rfl, rfl⟩ (Mem.callMidF bb el))
     ·intro aw bi R i2 e5
      exact OM ⟨rfl, rfl⟩ e5
     ·intro aw bi v2_ hb2_
      obtain ⟨rfl, hs2_⟩ := hb2_
      rintro v3_ ⟨rfl, _⟩ R dv e6
      have bm : Mem (idsOf [(BK c 110 [SL l d.code m, iv d.at_, .int .u64 d.seed])]) w dv ([(BK u 85 [SN, SN]), (BK t 85 [SL B n.2.2.2.1 z, SL C n.2.2.2.2 A]), X, Y] ++ ([[]] ++ ([(aw 2)] ++ ([] ++ R)))) := e6
      rw [hs2_] at bm
      replace bm : Mem (idsOf [(BK c 110 [SL l d.code m, iv d.at_, .int .u64 d.seed])]) w dv ([(BK u 85 [SN, SN]), (BK t 85 [SL B n.2.2.2.1 z, SL C n.2.2.2.2 A]), X, Y] ++ ([[]] ++ ([(BK c 110 [SL l d.code m, iv Z.2.1, .int .u64 Z.2.2])] ++ ([] ++ R)))) := bm.permF (by simp)
      have bc := Mem.takeOver bm
      refine WC ((c_s_l1Cur_pick dv (⟨d.code, Z.2.1, Z.2.2⟩ : l1Cur) l m (Q.memX S bc) c 8 (bc.hasPick [4]) (bc.nodupPick [4] (by kernel_rfl)) (apartX.old Q S bc [4]) h5).mono ?_)
      rintro e_ ka ⟨rfl, em⟩
      refine ⟨_, rfl, ?_⟩
      exact WN (oE (iv aj.1) (BK c 110 [SL l d.code m, iv aj.2.1, .int .u64 aj.2.2]) ⟨rfl, rfl⟩ (Mem.callMidF bc em))
     intro aw bi v2_ hb2_
     obtain ⟨_, rfl, _⟩ := hb2_
     rintro v0_ ⟨rfl, _⟩ v4_ hb4_
     obtain ⟨rfl, hs4_⟩ := hb4_
     intro ef e7
     have bn : Mem (idsOf [(BK c 110 [SL l d.code m, iv d.at_, .int .u64 d.seed])]) w ef [(BK u 85 [SN, SN]), (BK t 85 [SL B n.2.2.2.1 z, SL C n.2.2.2.2 A]), X, Y, (aw 4)] := e7
     rw [hs4_] at bn
     refine GD hm fun co h6 hm => WC ((c_s_l9Offer ef (⟨n.2.2.2.1, n.2.2.2.2⟩ : Queue) B z (az.r bn 2) C A (a0.r bn 3) Z.1 aj.1 h6).mono ?_)
     rintro e_ kb ⟨dq, c8, im, dr, c9, io, rfl, hb, hc, en⟩
     have e8 := bn.call en
     refine ⟨_, rfl, ?_⟩
     refine wS true 2 0 (.agg #[SL dq co.Slots c8, SL dr co.Waiting c9]) 1 [SL dq co.Slots c8, SL dr co.Waiting c9] e8 rfl fun kc e9 => WN ?_
     obtain rfl := HS hm
     exact NM fun a ha => ⟨dq, c8, im, dr, c9, io, hb, hc, e9.pk [0, 1, 4, 5, 6], ha.s⟩
    refine gF dd (QA (MW 2 (NO (GD hm fun a5 hd gv => G_meet (fun a w' => ∃ cd bu cr ce bv ct, ownS encSlot a5.2.2.1 cd bu cr ∧ ownS encWaiter a5.2.2.2 ce bv ct ∧ Mem (idsOf [(BK c 110 [SL l d.code m, iv d.at_, .int .u64 d.seed])]) w w' [(BK u 85 [SN, SN]), (BK t 85 [SL cd a5.2.2.1 bu, SL ce a5.2.2.2 bv]), (BK c 110 [SL l d.code m, iv a5.1, .int .u64 a5.2.1]), cr, ct] ∧ Sat Tryz.f184.ntmps [(0, pB c 0), (2, pB u 0), (3, pB t 0), (4, iv n.1)] a) ?_ ?_))))
    ·have hm := hd
     refine GT hm (fun de hm => ?_) fun de hm => ?_
     ·refine GR (wV (.agg #[SL B n.2.2.2.1 z, SL C n.2.2.2.2 A]) a9 (eL true 2 0 (av.blk 1 rfl)) (GD hm fun a8 h7 hm => WC ((c_s_l9Take a9 (⟨n.2.2.2.1, n.2.2.2.2⟩ : Queue) B z (az.r av 2) C A (a0.r av 3) 16 h7).mono ?_)))
      rintro e_ i3 ⟨cf, bw, ip, cg, bx, iq, rfl, hg, hh, eo⟩
      have fa := av.call eo
      refine ⟨_, rfl, ?_⟩
      refine MW 3 (wS true 2 0 (.agg #[SL cf a8.1.Slots bw, SL cg a8.1.Waiting bx]) 1 [SL cf a8.1.Slots bw, SL cg a8.1.Waiting bx] fa rfl fun kd fb => WN ?_)
      obtain rfl := HS hm
      exact NM fun a ha => ⟨cf, bw, ip, cg, bx, iq, hg, hh, fb.pk [0, 1, 4, 5, 6], ha.s⟩
     refine QA (MW 2 (NO (GD hm fun a6 hi gw => G_meet (fun a w' => ∃ ch bz cu ci b0 cv, ownS encSlot a6.2.2.1 ch bz cu ∧ ownS encWaiter a6.2.2.2 ci b0 cv ∧ Mem (idsOf [(BK c 110 [SL l d.code m, iv d.at_, .int .u64 d.seed])]) w w' [(BK u 85 [SN, SN]), (BK t 85 [SL ch a6.2.2.1 bz, SL ci a6.2.2.2 b0]), (BK c 110 [SL l d.code m, iv a6.1, .int .u64 a6.2.1]), cu, cv] ∧ Sat Tryz.f184.ntmps [(0, pB c 0), (2, pB u 0), (3, pB t 0), (4, iv n.1)] a) ?_ ?_)))
     ·have hm := hi
      refine GT hm (fun df hm => ?_) fun df hm => ?_
      ·refine GS (GD hm fun aa h8 hm => GD hm fun x h9 hm => ?_)
       have fc : Mem (idsOf [(BK c 110 [SL l d.code m, iv d.at_, .int .u64 d.seed])]) w a9 ([(BK u 85 [SN, SN]), (BK t 85 [SL B n.2.2.2.1 z, SL C n.2.2.2.2 A]), X, Y] ++ (List.range 9).map (fun i => ([[], [], (BK c 110 [SL l d.code m, iv I.2.1, .int .u64 I.2.2]), [], [], [], [], [], []] : List Seg).getD i [])) := av.pk [0, 1, 2, 3, 300000, 300001, 4, 300003, 300004, 300005, 300006, 300007, 300008]
       refine GU [(0, pB c 0), (2, pB u 0), (3, pB t 0), (4, iv n.1), (39, .bool (I.1 == 4))] (DL 9 [[],[],[1],[0],[],[4],[4],[],[5,7]] [[],[],[],[],[],[],[],[],[7]] (EM 9) [[],[],[],[2],[3],[3],[3],[],[3]] [[],[],[],[],[3],[3],[],[],[3,7]] (EM 9) (fun i => ([[], [], (BK c 110 [SL l d.code m, iv I.2.1, .int .u64 I.2.2]), [], [], [], [], [], []] : List Seg).getD i []) [QV (.agg #[SL B n.2.2.2.1 z, SL C n.2.2.2.2 A]), QV (pB c 0), fun f v s => v = (iv aa.1 : Value) ∧ s = (BK c 110 [SL l d.code m, iv aa.2.1, .int .u64 aa.2.2]), fun f v s => ∃ G D ak H F al, v = (.tuple #[.agg #[SL G x.1.Slots D, SL H x.1.Waiting F], .bool x.2] : Value) ∧ s = (ak ++ al) ∧ ownS encSlot x.1.Slots G D ak ∧ ownS encWaiter x.1.Waiting H F al, fun f v s => v = (.tuple #[.agg #[(atPath (f 3) [0, 0]), (atPath (f 3) [0, 1])], .bool x.2] : Value) ∧ s = [], fun f v s => v = (.agg #[(atPath (f 3) [0, 0]), (atPath (f 3) [0, 1])] : Value) ∧ s = [], QV (.bool x.2), fun f v s => ∃ W, v = (pB W 0 : Value) ∧ s = (BK W 85 [SN, SN]), fun f v s => v = undef ∧ s = [((blkOf (f 7)), .cells ⟨[(atPath (f 3) [0, 0]), (atPath (f 3) [0, 1])]⟩ 85 (0, 0))]] [7] [2, 3, 6, 8] [2, 3, 8] fc (AC ?_ (AC ?_ (AC ?_ (AC ?_ (AC ?_ (AC ?_ (AC ?_ (AC ?_ (AC ?_ AN))))))))) ?_)
       ·intro ac ap R i4 dy
        exact OV ⟨rfl, rfl⟩ (eL true 2 0 (dy.blk 1 rfl)) dy
       ·intro ac ap R i5 fd
        exact OM ⟨rfl, rfl⟩ fd
       ·rintro ac ap v1_ ⟨rfl, _⟩ R i6 bd
        refine WC ((c_s_l1Cur_pick i6 (⟨d.code, I.2.1, I.2.2⟩ : l1Cur) l m (Q.memX S bd) c 8 (bd.hasPick [4]) (bd.nodupPick [4] (by kernel_rfl)) (apartX.old Q S bd [4]) h8).mono ?_)
        rintro e_ ke ⟨rfl, ep⟩
        refine ⟨_, rfl, ?_⟩
        exact WN (oE (iv aa.1) (BK c 110 [SL l d.code m, iv aa.2.1, .int .u64 aa.2.2]) ⟨rfl, rfl⟩ (Mem.callMidF bd ep))
       ·intro ac ap v2_ hb2_
        obtain ⟨_, rfl, _⟩ := hb2_
        rintro v0_ ⟨rfl, _⟩ R i7 c4
        refine WC ((c_s_l9End i7 (⟨n.2.2.2.1, n.2.2.2.2⟩ : Queue) B z (az.r c4 2) C A (a0.r c4 3) aa.1 h9).mono ?_)
        rintro e_ kf ⟨G, D, ak, H, F, al, rfl, dm, dn, er⟩
        refine ⟨_, rfl, ?_⟩
        exact WN (oE (.tuple #[.agg #[SL G x.1.Slots D, SL H x.1.Waiting F], .bool x.2]) (ak ++ al) ⟨G, D, ak, H, F, al, rfl, rfl, dm, dn⟩ (Mem.callMid c4 (er.permF (by simp))))
       ·intro ac ap v3_ hb3_
        obtain ⟨_, G, D, _, H, F, _, rfl, _⟩ := hb3_
        intro R i8 fe
        exact OM ⟨rfl, rfl⟩ fe
       ·intro ac ap v3_ hb3_
        obtain ⟨_, G, D, _, H, F, _, rfl, _⟩ := hb3_
        intro v4_ hb4_
        obtain ⟨hv4_, _⟩ := hb4_
        obtain rfl : v4_ = (.tuple #[.agg #[SL G x.1.Slots D, SL H x.1.Waiting F], .bool x.2] : Value) := hv4_.trans (by kernel_rfl)
        intro R i9 ff
        exact OM ⟨rfl, rfl⟩ ff
       ·intro ac ap v3_ hb3_
        obtain ⟨_, G, D, _, H, F, _, rfl, _⟩ := hb3_
        intro v4_ hb4_
        obtain ⟨hv4_, _⟩ := hb4_
        obtain rfl : v4_ = (.tuple #[.agg #[SL G x.1.Slots D, SL H x.1.Waiting F], .bool x.2] : Value) := hv4_.trans (by kernel_rfl)
        intro R ja fg
        exact OM ⟨rfl, rfl⟩ fg
       ·intro ac ap R kg fh
        exact wN (CE 85 [SN, SN]) fh fun W kh fi => WN (oE (pB W 0) (BK W 85 [SN, SN]) ⟨W, rfl, rfl⟩ (Mem.mid fi))
       ·intro ac ap v3_ hb3_
        obtain ⟨_, G, D, _, H, F, _, rfl, _⟩ := hb3_
        intro v5_ hb5_
        obtain ⟨hv5_, _⟩ := hb5_
        obtain rfl : v5_ = (.agg #[SL G x.1.Slots D, SL H x.1.Waiting F] : Value) := hv5_.trans (by kernel_rfl)
        intro v7_ hb7_
        obtain ⟨W, rfl, hs7_⟩ := hb7_
        intro R eg fj
        have bo : Mem (idsOf [(BK c 110 [SL l d.code m, iv d.at_, .int .u64 d.seed])]) w eg ([(BK u 85 [SN, SN]), (BK t 85 [SL B n.2.2.2.1 z, SL C n.2.2.2.2 A]), X, Y] ++ ([[]] ++ ([(ac 7)] ++ ([] ++ R)))) := fj
        rw [hs7_] at bo
        replace bo : Mem (idsOf [(BK c 110 [SL l d.code m, iv d.at_, .int .u64 d.seed])]) w eg ([(BK u 85 [SN, SN]), (BK t 85 [SL B n.2.2.2.1 z, SL C n.2.2.2.2 A]), X, Y] ++ ([[]] ++ ([(BK W 85 [SN, SN])] ++ ([] ++ R)))) := bo.permF (by simp)
        exact wS true 2 0 (.agg #[SL G x.1.Slots D, SL H x.1.Waiting F]) 5 [SL G x.1.Slots D, SL H x.1.Waiting F] bo rfl fun ki fk => WN (ob_none (BK W 85 [SL G x.1.Slots D, SL H x.1.Waiting F]) rfl ⟨rfl, by kernel_rfl⟩ (Mem.takeOver fk))
       intro ac ap v7_ hb7_
       obtain ⟨_, W, rfl, hs7_⟩ := hb7_
       intro v2_ hb2_
       obtain ⟨rfl, hs2_⟩ := hb2_
       intro v3_ hb3_
       obtain ⟨G, D, ak, H, F, al, rfl, hs3_, dm, dn⟩ := hb3_
       rintro v6_ ⟨rfl, _⟩ v8_ hb8_
       obtain ⟨rfl, hs8_⟩ := hb8_
       replace hs8_ := hs8_.trans (show _ = (BK W 85 [SL G x.1.Slots D, SL H x.1.Waiting F]) by kernel_rfl)
       intro bl fl
       have ar : Mem (idsOf [(BK c 110 [SL l d.code m, iv d.at_, .int .u64 d.seed])]) w bl [(BK u 85 [SN, SN]), (BK t 85 [SL B n.2.2.2.1 z, SL C n.2.2.2.2 A]), X, Y, (BK c 110 [SL l d.code m, iv aa.2.1, .int .u64 aa.2.2]), ak, al, (BK W 85 [SL G x.1.Slots D, SL H x.1.Waiting F])] := fl.permF (by simp [hs2_, hs3_, hs8_, SL])
       refine MW 1 (NA (MW 1 (NO (GD hm fun b6 hl gx => G_meet (fun a w' => ∃ cj b1 cw ck b2 cx, ownS encSlot b6.1 cj b1 cw ∧ ownS encWaiter b6.2 ck b2 cx ∧ Mem (idsOf [(BK c 110 [SL l d.code m, iv d.at_, .int .u64 d.seed])]) w w' [(BK u 85 [SN, SN]), (BK t 85 [SL cj b6.1 b1, SL ck b6.2 b2]), (BK c 110 [SL l d.code m, iv aa.2.1, .int .u64 aa.2.2]), cw, cx] ∧ Sat Tryz.f184.ntmps [(0, pB c 0), (2, pB u 0), (3, pB t 0), (4, iv n.1)] a) ?_ ?_))))
       ·have hm := hl
        refine GT hm (fun dg hm => ?_) fun dg hm => ?_
        ·refine GR (wV (.agg #[SL G x.1.Slots D, SL H x.1.Waiting F]) bl (eL true 2 0 (ar.blk 7 rfl)) (wS true 2 0 (.agg #[SL G x.1.Slots D, SL H x.1.Waiting F]) 1 [SL G x.1.Slots D, SL H x.1.Waiting F] ar rfl fun kj fm => WN ?_))
         obtain rfl := HS hm
         exact NM fun a ha => ⟨G, D, ak, H, F, al, dm, dn, fm.pk [0, 1, 4, 5, 6], ha.s⟩
        refine GK ?_
        obtain rfl := HS hm
        exact NM fun a ha => ⟨B, z, X, C, A, Y, az, a0, ar.pk [0, 1, 4, 2, 3], ha.s⟩
       intro jw kk ⟨cj, b1, cw, ck, b2, cx, hn, ho, fn, gi⟩
       refine N_use gi ?_
       have hm := gx
       obtain rfl := HS hm
       exact NM fun a ha => ⟨cj, b1, cw, ck, b2, cx, hn, ho, fn.pk [0, 1, 2, 3, 4], ha.s⟩
      refine GK ?_
      obtain rfl := HS hm
      exact NM fun a ha => ⟨B, z, X, C, A, Y, az, a0, av.pk [0, 1, 4, 2, 3], ha.s⟩
     intro jx kl ⟨ch, bz, cu, ci, b0, cv, hj, hk, fo, gj⟩
     refine N_use gj ?_
     have hm := gw
     obtain rfl := HS hm
     exact NM fun a ha => ⟨ch, bz, cu, ci, b0, cv, hj, hk, fo.pk [0, 1, 2, 3, 4], ha.s⟩
    intro jy km ⟨cd, bu, cr, ce, bv, ct, he, hf, fp, gk⟩
    refine N_use gk ?_
    have hm := gv
    obtain rfl := HS hm
    exact NM fun a ha => ⟨cd, bu, cr, ce, bv, ct, he, hf, fp.pk [0, 1, 2, 3, 4], ha.s⟩
   intro jz jb ⟨cb, bs, cp, cc, bt, cq, g8, g9, fq, gl⟩
   refine N_use gl ?_
   have hm := gu
   refine BN (BN (TN (GR (MW 3 (WN ?_)))))
   cases hm
   exact N_loop fun a ha => ⟨_, rfl, cb, bs, cp, cc, bt, cq, g8, g9, fq.pk [0, 1, 2, 3, 4], ha.s⟩
  refine XA ?_
  obtain rfl := HS hm
  obtain rfl := h1 _ rfl
  exact NM fun a ha => ⟨B, z, X, C, A, Y, az, a0, ax.pk [0, 1, 2, 3, 4], ha.s⟩
 intro j0 eh ⟨J, K, ad, T, P, ab, a3, dl, be, gm⟩
 refine N_use gm ?_
 have hm := g2
 refine TN (QB (MW 1 (GD hm fun O ia hm => WC ((c_s_l1Cur_pick eh (⟨d.code, y.1, y.2.1⟩ : l1Cur) l m (Q.memX S be) c 24 (be.hasPick [2]) (be.nodupPick [2] (by kernel_rfl)) (apartX.old Q S be [2]) ia).mono ?_))))
 rintro e_ an ⟨rfl, es⟩
 have am := be.callF' [2] [0, 1, 3, 4] (by kernel_rfl) es
 refine ⟨_, rfl, ?_⟩
 refine NO (GB (QA (MW 2 (NO (GD hm fun N hp gy => G_meet (fun a w' => ∃ ah ae cy ai af cz ec, ownS encSlot N.2.2.1 ah ae cy ∧ ownS encWaiter N.2.2.2.1 ai af cz ∧ ownS encSlot N.2.2.2.2 J K ec ∧ Mem (idsOf [(BK c 110 [SL l d.code m, iv d.at_, .int .u64 d.seed])]) w w' [(BK u 85 [SN, SN]), (BK t 85 [SL ah N.2.2.1 ae, SL ai N.2.2.2.1 af]), (BK c 110 [SL l d.code m, iv N.1, .int .u64 N.2.1]), cy, cz] ∧ Sat Tryz.f184.ntmps [(2, pB u 0), (3, pB t 0)] a) ?_ ?_)))))
 ·have hm := hp
  refine GT hm (fun dh hm => ?_) fun dh hm => ?_
  ·refine GR (wR 1 [(2, pB u 0), (3, pB t 0), (54, pB c 0)] an (GD hm fun ds ib hm => WC ((c_s_l1Cur_slots an (⟨d.code, O.2.1, O.2.2⟩ : l1Cur) l m (Q.memX S am) c (am.hasPick [4]) (am.nodupPick [4] (by kernel_rfl)) (apartX.old Q S am [4]) ib).mono ?_)))
   rintro e_ jc ⟨cl, b3, ir, rfl, hs, et⟩
   have fs := am.callF' [4] [0, 1, 2, 3] (by kernel_rfl) et
   refine ⟨_, rfl, ?_⟩
   refine MW 1 (wS false 1 0 (SL cl ds.1 b3) 1 [SL cl ds.1 b3, SL T y.2.2.2 P] fs rfl fun kn ft => WN ?_)
   obtain rfl := HS hm
   exact NM fun a ha => ⟨cl, b3, ir, T, P, ab, ad, hs, dl, a3, ft.pk [0, 1, 4, 5, 3], ha.s⟩
  refine QA (MW 2 (NO (GD hm fun a7 ht gz => G_meet (fun a w' => ∃ cm b4 c0 bk, ownS encWaiter a7.2.2.1 cm b4 c0 ∧ ownS encSlot a7.2.2.2 J K bk ∧ Mem (idsOf [(BK c 110 [SL l d.code m, iv d.at_, .int .u64 d.seed])]) w w' [(BK u 85 [SN, SN]), (BK t 85 [SL J a7.2.2.2 K, SL cm a7.2.2.1 b4]), (BK c 110 [SL l d.code m, iv a7.1, .int .u64 a7.2.1]), c0, bk] ∧ Sat Tryz.f184.ntmps [(2, pB u 0), (3, pB t 0)] a) ?_ ?_)))
  ·have hm := ht
   rcases gx_bif hm with ⟨di, hm⟩ | ⟨di, hm⟩
   ·refine gT di (GD hm fun L ic hm => GD hm fun U ie hm => ?_)
    have fu : Mem (idsOf [(BK c 110 [SL l d.code m, iv d.at_, .int .u64 d.seed])]) w an ([(BK u 85 [SN, SN]), (BK t 85 [SL J y.2.2.1 K, SL T y.2.2.2 P]), ad, ab] ++ (List.range 8).map (fun i => ([[], [], [], (BK c 110 [SL l d.code m, iv O.2.1, .int .u64 O.2.2]), [], [], [], []] : List Seg).getD i [])) := am.pk [0, 1, 2, 3, 300000, 300001, 300002, 4, 300004, 300005, 300006, 300007]
    refine GU [(0, pB c 0), (2, pB u 0), (3, pB t 0), (51, iv O.1), (57, .bool (O.1 == 1))] (DL 8 [[],[0],[],[2],[],[3,4],[],[6]] [[],[],[],[],[],[3],[],[]] (EM 8) [[],[],[],[],[],[],[3,5],[]] (EM 8) (EM 8) (fun i => ([[], [], [], (BK c 110 [SL l d.code m, iv O.2.1, .int .u64 O.2.2]), [], [], [], []] : List Seg).getD i []) [QV (pB t 1), QV (.slice T y.2.2.2.length P), QV (pB c 0), fun f v s => v = (iv L.1 : Value) ∧ s = (BK c 110 [SL l d.code m, iv L.2.1, .int .u64 L.2.2]), QV (pB c 0), fun f v s => v = (iv U.1 : Value) ∧ s = (BK c 110 [SL l d.code m, iv U.2.1, .int .u64 U.2.2]), QV (.agg #[iv L.1, iv U.1]), fun f v s => ∃ aq ao, v = (.slice aq [(⟨L.1, U.1⟩ : Waiter)].length ao : Value) ∧ ownS encWaiter [(⟨L.1, U.1⟩ : Waiter)] aq ao s] [] [1, 5, 7] [5, 7] fu (AC ?_ (AC ?_ (AC ?_ (AC ?_ (AC ?_ (AC ?_ (AC ?_ (AC ?_ AN)))))))) ?_)
    ·intro ag au R jd fv
     exact OM ⟨rfl, rfl⟩ fv
    ·rintro ag au v0_ ⟨rfl, _⟩ R je dz
     exact OV ⟨rfl, rfl⟩ (eL false 1 1 (dz.blk 1 rfl)) dz
    ·intro ag au R jf fw
     exact OM ⟨rfl, rfl⟩ fw
    ·rintro ag au v2_ ⟨rfl, _⟩ R jg bf
     refine WC ((c_s_l1Cur_irq jg (⟨d.code, O.2.1, O.2.2⟩ : l1Cur) l m (Q.memX S bf) c (bf.hasPick [4]) (bf.nodupPick [4] (by kernel_rfl)) (apartX.old Q S bf [4]) ic).mono ?_)
     rintro e_ ko ⟨rfl, eu⟩
     refine ⟨_, rfl, ?_⟩
     exact WN (oE (iv L.1) (BK c 110 [SL l d.code m, iv L.2.1, .int .u64 L.2.2]) ⟨rfl, rfl⟩ (Mem.callMidF bf eu))
    ·intro ag au R jh fx
     exact OM ⟨rfl, rfl⟩ fx
    ·intro ag au v3_ hb3_
     obtain ⟨rfl, hs3_⟩ := hb3_
     rintro v4_ ⟨rfl, _⟩ R dw fy
     have bp : Mem (idsOf [(BK c 110 [SL l d.code m, iv d.at_, .int .u64 d.seed])]) w dw ([(BK u 85 [SN, SN]), (BK t 85 [SL J y.2.2.1 K, SL T y.2.2.2 P]), ad, ab] ++ ([[]] ++ ([(ag 3)] ++ ([] ++ R)))) := fy
     rw [hs3_] at bp
     replace bp : Mem (idsOf [(BK c 110 [SL l d.code m, iv d.at_, .int .u64 d.seed])]) w dw ([(BK u 85 [SN, SN]), (BK t 85 [SL J y.2.2.1 K, SL T y.2.2.2 P]), ad, ab] ++ ([[]] ++ ([(BK c 110 [SL l d.code m, iv L.2.1, .int .u64 L.2.2])] ++ ([] ++ R)))) := bp.permF (by simp)
     have bg := Mem.takeOver bp
     refine WC ((c_s_l1Cur_prio dw (⟨d.code, L.2.1, L.2.2⟩ : l1Cur) l m (Q.memX S bg) c (bg.hasPick [4]) (bg.nodupPick [4] (by kernel_rfl)) (apartX.old Q S bg [4]) ie).mono ?_)
     rintro e_ kp ⟨rfl, ev⟩
     refine ⟨_, rfl, ?_⟩
     exact WN (oE (iv U.1) (BK c 110 [SL l d.code m, iv U.2.1, .int .u64 U.2.2]) ⟨rfl, rfl⟩ (Mem.callMidF bg ev))
    ·intro ag au v3_ hb3_
     obtain ⟨_, rfl, _⟩ := hb3_
     intro v5_ hb5_
     obtain ⟨_, rfl, _⟩ := hb5_
     intro R ji fz
     exact OM ⟨rfl, rfl⟩ fz
    ·rintro ag au v6_ ⟨rfl, _⟩ R kq f0
     exact wL (E := encWaiter) [(⟨L.1, U.1⟩ : Waiter)] 1 [iv L.1, iv U.1] 142 f0 fun aq ao it kr dp f1 => WN (oE (SL aq [(⟨L.1, U.1⟩ : Waiter)] ao) it ⟨aq, ao, rfl, dp⟩ (Mem.mid f1))
    rintro ag au v1_ ⟨rfl, _⟩ v5_ hb5_
    obtain ⟨rfl, hs5_⟩ := hb5_
    intro v7_ hb7_
    obtain ⟨aq, ao, rfl, dp⟩ := hb7_
    intro jj f2
    have c5 : Mem (idsOf [(BK c 110 [SL l d.code m, iv d.at_, .int .u64 d.seed])]) w jj [(BK u 85 [SN, SN]), (BK t 85 [SL J y.2.2.1 K, SL T y.2.2.2 P]), ad, ab, (ag 5), (ag 7)] := f2
    rw [hs5_] at c5
    refine GD hm fun c7 gr hm => wA 16 [iv 0, iv 0] 3 c5 dl (dp.r c5 5) gr fun cn b5 iu jk hv f3 => MW 1 (wS false 1 1 (SL cn c7 b5) 1 [SL J y.2.2.1 K, SL cn c7 b5] f3 rfl fun ks f4 => WN ?_)
    obtain rfl := HS hm
    exact NM fun a ha => ⟨cn, b5, iu, ad, hv, a3, f4.pk [0, 1, 4, 3, 2], ha.s⟩
   refine gF di (QA (MW 2 (NO (GD hm fun b7 hw g0 => G_meet (fun a w' => ∃ c1, ownS encSlot b7.2.2 J K c1 ∧ Mem (idsOf [(BK c 110 [SL l d.code m, iv d.at_, .int .u64 d.seed])]) w w' [(BK u 85 [SN, SN]), (BK t 85 [SL J b7.2.2 K, SL T y.2.2.2 P]), ab, (BK c 110 [SL l d.code m, iv b7.1, .int .u64 b7.2.1]), c1] ∧ Sat Tryz.f184.ntmps [(2, pB u 0), (3, pB t 0)] a) ?_ ?_))))
   ·have hm := hw
    refine GT hm (fun dj hm => ?_) fun dj hm => ?_
    ·refine QA (MW 1 (wV (SL T y.2.2.2 P) an (eL false 1 1 (am.blk 1 rfl)) (MW 2 (NO (GD hm fun b8 hy g1 => G_meet (fun a w' => ∃ c2, ownS encSlot b8.2.2 J K c2 ∧ Mem (idsOf [(BK c 110 [SL l d.code m, iv d.at_, .int .u64 d.seed])]) w w' [(BK u 85 [SN, SN]), (BK t 85 [SL J b8.2.2 K, SL T y.2.2.2 P]), ab, (BK c 110 [SL l d.code m, iv b8.1, .int .u64 b8.2.1]), c2] ∧ Sat Tryz.f184.ntmps [(2, pB u 0), (3, pB t 0)] a) ?_ ?_)))))
     ·have hm := hy
      rcases gx_bif hm with ⟨dk, hm⟩ | ⟨dk, hm⟩
      ·refine gT dk (GD hm fun V ig hm => ?_)
       have f5 : Mem (idsOf [(BK c 110 [SL l d.code m, iv d.at_, .int .u64 d.seed])]) w an ([(BK u 85 [SN, SN]), (BK t 85 [SL J y.2.2.1 K, SL T y.2.2.2 P]), ad, ab] ++ (List.range 5).map (fun i => ([[], [], [], (BK c 110 [SL l d.code m, iv O.2.1, .int .u64 O.2.2]), []] : List Seg).getD i [])) := am.pk [0, 1, 2, 3, 300000, 300001, 300002, 4, 300004]
       refine GU [(0, pB c 0), (2, pB u 0), (3, pB t 0), (74, .bool (decide ((y.2.2.2.length : Int) > 0)))] (DL 5 [[],[0],[],[2],[]] (EM 5) (EM 5) (EM 5) (EM 5) (EM 5) (fun i => ([[], [], [], (BK c 110 [SL l d.code m, iv O.2.1, .int .u64 O.2.2]), []] : List Seg).getD i []) [QV (pB t 0), QV (.slice J y.2.2.1.length K), QV (pB c 0), fun f v s => v = (iv V.1 : Value) ∧ s = (BK c 110 [SL l d.code m, iv V.2.1, .int .u64 V.2.2]), QV (.agg #[iv 0, iv 0, iv 0])] [] [1, 3, 4] [3] f5 (AC ?_ (AC ?_ (AC ?_ (AC ?_ (AC ?_ AN))))) ?_)
       ·intro ay bj R jl f6
        exact OM ⟨rfl, rfl⟩ f6
       ·rintro ay bj v0_ ⟨rfl, _⟩ R jm d0
        exact OV ⟨rfl, rfl⟩ (eL false 1 0 (d0.blk 1 rfl)) d0
       ·intro ay bj R jn f7
        exact OM ⟨rfl, rfl⟩ f7
       ·rintro ay bj v2_ ⟨rfl, _⟩ R jo bh
        refine WC ((c_s_l1Cur_pick jo (⟨d.code, O.2.1, O.2.2⟩ : l1Cur) l m (Q.memX S bh) c 4 (bh.hasPick [4]) (bh.nodupPick [4] (by kernel_rfl)) (apartX.old Q S bh [4]) ig).mono ?_)
        rintro e_ kt ⟨rfl, ew⟩
        refine ⟨_, rfl, ?_⟩
        exact WN (oE (iv V.1) (BK c 110 [SL l d.code m, iv V.2.1, .int .u64 V.2.2]) ⟨rfl, rfl⟩ (Mem.callMidF bh ew))
       ·intro ay bj R jp f8
        exact OM ⟨rfl, rfl⟩ f8
       rintro ay bj v1_ ⟨rfl, _⟩ v3_ hb3_
       obtain ⟨rfl, hs3_⟩ := hb3_
       rintro v4_ ⟨rfl, _⟩ ei f9
       have c6 : Mem (idsOf [(BK c 110 [SL l d.code m, iv d.at_, .int .u64 d.seed])]) w ei [(BK u 85 [SN, SN]), (BK t 85 [SL J y.2.2.1 K, SL T y.2.2.2 P]), ad, ab, (ay 3)] := f9
       rw [hs3_] at c6
       refine GD hm fun js d6 hm => wV (elemP J (V.1.toNat * 3)) ei (eI (a3.r c6 2) rfl d6) (wE true 3 V.1.toNat 0 (V.1.toNat * 3) js (⟨0, 0, 0⟩ : Slot) (.agg #[iv 0, iv 0, iv 0]) 2 c6 a3 (gxIdx_spec d6).2 fun jq ed h0 ga => LX 76 J K y.2.2.1 V.1.toNat (⟨0, 0, 0⟩ : Slot) ?_)
       have gb : Mem (idsOf [(BK c 110 [.slice l d.code.length m, iv d.at_, .int .u64 d.seed])]) w jq [(BK u 85 [.slice none 0 0, .slice none 0 0]), (BK t 85 [.slice J (y.2.2.1.set V.1.toNat (⟨0, 0, 0⟩ : Slot)).length K, .slice T y.2.2.2.length P]), ed, ab, (BK c 110 [.slice l d.code.length m, iv V.2.1, .int .u64 V.2.2])] := by rw [@List.length_set _ y.2.2.1 V.1.toNat (⟨0, 0, 0⟩ : Slot)]; exact ga
       refine WN ?_
       obtain rfl := HS hm
       exact NM fun a ha => ⟨ed, h0, gb.pk [0, 1, 3, 4, 2], ha.s⟩
      refine gF dk (GK ?_)
      obtain rfl := HS hm
      exact NM fun a ha => ⟨ad, a3, am.pk [0, 1, 3, 4, 2], ha.s⟩
     intro j1 ku ⟨c2, hz, gc, gn⟩
     refine N_use gn ?_
     have hm := g1
     obtain rfl := HS hm
     exact NM fun a ha => ⟨c2, hz, gc.pk [0, 1, 2, 3, 4], ha.s⟩
    refine GK ?_
    obtain rfl := HS hm
    exact NM fun a ha => ⟨ad, a3, am.pk [0, 1, 3, 4, 2], ha.s⟩
   intro j2 kv ⟨c1, hx, gd, go⟩
   refine N_use go ?_
   have hm := g0
   obtain rfl := HS hm
   exact NM fun a ha => ⟨T, P, ab, c1, dl, hx, gd.pk [0, 1, 3, 2, 4], ha.s⟩
  intro j3 kw ⟨cm, b4, c0, bk, hu, d5, ge, gp⟩
  refine N_use gp ?_
  have hm := gz
  obtain rfl := HS hm
  exact NM fun a ha => ⟨J, K, bk, cm, b4, c0, bk, d5, hu, d5, ge.pk [0, 1, 2, 4, 3], ha.s⟩
 intro j4 jr ⟨ah, ae, cy, ai, af, cz, ec, hq, hr, j5, d1, gq⟩
 refine N_use gq ?_
 have hm := gy
 refine BN (NF (wV (.agg #[SL ah N.2.2.1 ae, SL ai N.2.2.2.1 af]) jr (eL true 2 0 (d1.blk 1 rfl)) (wS true 2 0 (.agg #[SL ah N.2.2.1 ae, SL ai N.2.2.2.1 af]) 0 [SL ah N.2.2.1 ae, SL ai N.2.2.2.1 af] d1 rfl fun kx d2 => NC ?_)))
 obtain rfl := HS hm
 exact N_ret [.agg #[SL ah N.2.2.1 ae, SL ai N.2.2.2.1 af]] (RX true 2 0 (d2.blk 0 rfl) RVs_nil) (⟨ah, ae, cy, ai, af, cz, rfl, hq, hr, d2.pk [2, 3, 4]⟩)
end Go.Proofs.YtllhajkgkghhdaaGreat
set_option linter.unusedVariables false
set_option linter.unusedSimpArgs false
set_option maxRecDepth 100000
set_option maxHeartbeats 4000000
namespace Go.Proofs.YtllhajkgkghhdaaGreat
open Go.Gx
theorem c_s_l1Cur_iface (w : World) (l : l1Cur) (t u) (H : rdS Gx.encU8 w l.code t u) (d : Nat) (hA : ∀ q ∈ List.flatten [(BK d 110 [SL t l.code u, iv l.at_, .int .u64 l.seed])], w.heap[q.1]? = some q.2) (hN : (idsOf [(BK d 110 [SL t l.code u, iv l.at_, .int .u64 l.seed])]).Nodup) (I : apartX (idsOf [(BK d 110 [SL t l.code u, iv l.at_, .int .u64 l.seed])]) l.code t) {r : Interface × Int × Int} (hm : M.s_l1Cur_iface l = some r) :
  Calls Tryz.prog 147 #[pB d 0] w fun e w' => ∃ et ek ez eu el e0 ev em e1, e = .returned (.agg #[iv r.1.Mask, SL et r.1.Stack ek, SL eu r.1.Queue.Slots el, SL ev r.1.Queue.Waiting em]) ∧ ownS Gx.encI r.1.Stack et ek ez ∧ ownS encSlot r.1.Queue.Slots eu el e0 ∧ ownS encWaiter r.1.Queue.Waiting ev em e1 ∧ Mem (idsOf [(BK d 110 [SL t l.code u, iv l.at_, .int .u64 l.seed])]) w w' [(BK d 110 [SL t l.code u, iv r.2.1, .int .u64 r.2.2]), ez, e0, e1] := by
 unfold M.s_l1Cur_iface at hm
 refine cE Tryz.func147 ?_
 have M0 := Mem.start' w [(BK d 110 [SL t l.code u, iv l.at_, .int .u64 l.seed])] hA hN
 refine QA (wN (CE 87 [iv 0, SN, SN, SN]) M0 fun n kq fk => NA (wL (E := Gx.encI) ([] : List Int) 0 [] 3 fk fun bj bg i8 jo hd fl => MW 4 (wL (E := encSlot) [(⟨0, 0, 0⟩ : Slot), (⟨0, 0, 0⟩ : Slot), (⟨0, 0, 0⟩ : Slot), (⟨0, 0, 0⟩ : Slot)] 4 [iv 0, iv 0, iv 0, iv 0, iv 0, iv 0, iv 0, iv 0, iv 0, iv 0, iv 0, iv 0] 117 fl fun cb bl i9 kr he fm => wL (E := encWaiter) ([] : List Waiter) 0 [] 142 fm fun cc bm ja jp hf fn => MW 2 (wN (CE 87 [iv 0, SN, SN, SN]) fn fun m ks fo => wS true 4 0 (.agg #[iv 16, SL bj ([] : List Int) bg, SL cb [(⟨0, 0, 0⟩ : Slot), (⟨0, 0, 0⟩ : Slot), (⟨0, 0, 0⟩ : Slot), (⟨0, 0, 0⟩ : Slot)] bl, SL cc ([] : List Waiter) bm]) 5 [iv 16, SL bj ([] : List Int) bg, SL cb [(⟨0, 0, 0⟩ : Slot), (⟨0, 0, 0⟩ : Slot), (⟨0, 0, 0⟩ : Slot), (⟨0, 0, 0⟩ : Slot)] bl, SL cc ([] : List Waiter) bm] fo rfl fun e2 a9 => NB (MW 1 (GD hm fun i7 io hm => WC ((c_s_l1Cur_pick e2 l t u (H.memX I a9) d 14 (a9.hasPick [0]) (a9.nodupPick [0] (by kernel_rfl)) (apartX.old H I a9 [0]) io).mono ?_)))))))
 rintro e_ jq ⟨rfl, e6⟩
 have fp := a9.callF' [0] [1, 2, 3, 4, 5] (by kernel_rfl) e6
 refine ⟨_, rfl, ?_⟩
 refine MW 1 (NO (GD hm fun y i4 hc => G_meet (fun a w' => ∃ L K al W U am X V an, ownS Gx.encI y.2.2.2.1 L K al ∧ ownS encSlot y.2.2.2.2.1 W U am ∧ ownS encWaiter y.2.2.2.2.2 X V an ∧ Mem (idsOf [(BK d 110 [SL t l.code u, iv l.at_, .int .u64 l.seed])]) w w' [(BK n 87 [iv 0, SN, SN, SN]), (BK m 87 [iv y.2.2.1, SL L y.2.2.2.1 K, SL W y.2.2.2.2.1 U, SL X y.2.2.2.2.2 V]), (BK d 110 [SL t l.code u, iv y.1, .int .u64 y.2.1]), al, am, an] ∧ Sat Tryz.f147.ntmps [(0, pB d 0), (2, pB n 0), (3, pB m 0)] a) ?_ ?_))
 ·refine GB (G_while (σ := Int × Int × Int × Int × List Int × List Slot × List Waiter) (ρ := Int × Int × Int × List Int × List Slot × List Waiter) (fun c a w' => ∃ D A Q F B S G C T, ownS Gx.encI c.2.2.2.2.1 D A Q ∧ ownS encSlot c.2.2.2.2.2.1 F B S ∧ ownS encWaiter c.2.2.2.2.2.2 G C T ∧ Mem (idsOf [(BK d 110 [SL t l.code u, iv l.at_, .int .u64 l.seed])]) w w' [(BK n 87 [iv 0, SN, SN, SN]), (BK m 87 [iv c.2.2.2.1, SL D c.2.2.2.2.1 A, SL F c.2.2.2.2.2.1 B, SL G c.2.2.2.2.2.2 C]), (BK d 110 [SL t l.code u, iv c.2.1, .int .u64 c.2.2.1]), Q, S, T] ∧ Sat Tryz.f147.ntmps [(0, pB d 0), (2, pB n 0), (3, pB m 0), (4, iv c.1)] a) i4 (fun a ha => ⟨bj, bg, i8, cb, bl, i9, cc, bm, ja, hd, he, hf, fp.pk [0, 4, 5, 1, 2, 3], ha.s⟩) ?_)
  clear hm
  intro c ld hm im kc eb ⟨D, A, Q, F, B, S, G, C, T, ax, ay, az, a5, go⟩
  refine G_use go (QB (MW 2 (NO (GT hm (fun dq hm => ?_) fun dq hm => ?_))))
  ·refine KD (MW 1 (GD hm fun z ip hm => WC ((c_s_l1Cur_pick eb (⟨l.code, c.2.1, c.2.2.1⟩ : l1Cur) t u (H.memX I a5) d 6 (a5.hasPick [2]) (a5.nodupPick [2] (by kernel_rfl)) (apartX.old H I a5 [2]) ip).mono ?_)))
   rintro e_ ec ⟨rfl, e7⟩
   have di := a5.callF' [2] [0, 1, 3, 4, 5] (by kernel_rfl) e7
   refine ⟨_, rfl, ?_⟩
   refine NO (GB (QB (MW 2 (NO (GD hm fun es hg g1 => G_meet (fun a w' => Mem (idsOf [(BK d 110 [SL t l.code u, iv l.at_, .int .u64 l.seed])]) w w' [(BK n 87 [iv 0, SN, SN, SN]), (BK m 87 [iv c.2.2.2.1, SL D c.2.2.2.2.1 A, SL F c.2.2.2.2.2.1 B, SL G c.2.2.2.2.2.2 C]), Q, S, T, (BK d 110 [SL t l.code u, iv z.2.1, .int .u64 z.2.2])] ∧ Sat Tryz.f147.ntmps [(0, pB d 0), (2, pB n 0), (3, pB m 0), (4, iv c.1), (21, iv z.1), (22, .bool es)] a) ?_ ?_)))))
   ·have hm := hg
    refine GT hm (fun dr hm => ?_) fun dr hm => ?_
    ·refine GK ?_
     obtain rfl := HS hm
     exact NM fun a ha => ⟨di.pk [0, 1, 2, 3, 4, 5], ha.s⟩
    refine QA (MW 2 (NO (GD hm fun i5 hh g2 => G_meet (fun a w' => Mem (idsOf [(BK d 110 [SL t l.code u, iv l.at_, .int .u64 l.seed])]) w w' [(BK n 87 [iv 0, SN, SN, SN]), (BK m 87 [iv c.2.2.2.1, SL D c.2.2.2.2.1 A, SL F c.2.2.2.2.2.1 B, SL G c.2.2.2.2.2.2 C]), Q, S, T, (BK d 110 [SL t l.code u, iv z.2.1, .int .u64 z.2.2])] ∧ Sat Tryz.f147.ntmps [(0, pB d 0), (2, pB n 0), (3, pB m 0), (4, iv c.1), (21, iv z.1), (22, .bool i5)] a) ?_ ?_)))
    ·have hm := hh
     refine GT hm (fun ds hm => ?_) fun ds hm => ?_
     ·refine GK ?_
      obtain rfl := HS hm
      exact NM fun a ha => ⟨di.pk [0, 1, 2, 3, 4, 5], ha.s⟩
     refine GR (wR 2 [(0, pB d 0), (2, pB n 0), (3, pB m 0), (4, iv c.1), (21, iv z.1), (22, .bool (z.1 == 2))] ec (WN ?_))
     obtain rfl := HS hm
     exact NM fun a ha => ⟨di.pk [0, 1, 2, 3, 4, 5], ha.s⟩
    intro kd kt ⟨fq, gp⟩
    refine N_use gp ?_
    have hm := g2
    obtain rfl := HS hm
    exact NM fun a ha => ⟨fq.pk [0, 1, 2, 3, 4, 5], ha.s⟩
   intro ke ed ⟨dj, gq⟩
   refine N_use gq ?_
   have hm := g1
   refine TN (GD hm fun aj hi g3 => G_meet (fun a w' => ∃ cd bn c1 ce bo c2 cf bp c3, ownS Gx.encI aj.2.2.2.1 cd bn c1 ∧ ownS encSlot aj.2.2.2.2.1 ce bo c2 ∧ ownS encWaiter aj.2.2.2.2.2 cf bp c3 ∧ Mem (idsOf [(BK d 110 [SL t l.code u, iv l.at_, .int .u64 l.seed])]) w w' [(BK n 87 [iv 0, SN, SN, SN]), (BK m 87 [iv aj.2.2.1, SL cd aj.2.2.2.1 bn, SL ce aj.2.2.2.2.1 bo, SL cf aj.2.2.2.2.2 bp]), (BK d 110 [SL t l.code u, iv aj.1, .int .u64 aj.2.1]), c1, c2, c3] ∧ Sat Tryz.f147.ntmps [(0, pB d 0), (2, pB n 0), (3, pB m 0), (4, iv c.1)] a) ?_ ?_)
   ·have hm := hi
    rcases gx_bif hm with ⟨dt, hm⟩ | ⟨dt, hm⟩
    ·refine gT dt (GD hm fun P iq hm => GD hm fun ah ir hm => ?_)
     have fs : Mem (idsOf [(BK d 110 [SL t l.code u, iv l.at_, .int .u64 l.seed])]) w ed ([(BK n 87 [iv 0, SN, SN, SN]), (BK m 87 [iv c.2.2.2.1, SL D c.2.2.2.2.1 A, SL F c.2.2.2.2.2.1 B, SL G c.2.2.2.2.2.2 C]), Q, S, T] ++ (List.range 5).map (fun i => ([[], [], (BK d 110 [SL t l.code u, iv z.2.1, .int .u64 z.2.2]), [], []] : List Seg).getD i [])) := dj.pk [0, 1, 2, 3, 4, 300000, 300001, 5, 300003, 300004]
     refine GU [(0, pB d 0), (2, pB n 0), (3, pB m 0), (4, iv c.1), (21, iv z.1), (22, .bool es)] (DL 5 [[],[],[1],[],[2,3]] [[],[],[],[],[2]] (EM 5) (EM 5) (EM 5) (EM 5) (fun i => ([[], [], (BK d 110 [SL t l.code u, iv z.2.1, .int .u64 z.2.2]), [], []] : List Seg).getD i []) [QV (.agg #[iv c.2.2.2.1, SL D c.2.2.2.2.1 A, SL F c.2.2.2.2.2.1 B, SL G c.2.2.2.2.2.2 C]), QV (pB d 0), fun f v s => v = (iv P.1 : Value) ∧ s = (BK d 110 [SL t l.code u, iv P.2.1, .int .u64 P.2.2]), QV (pB d 0), fun f v s => v = (iv ah.1 : Value) ∧ s = (BK d 110 [SL t l.code u, iv ah.2.1, .int .u64 ah.2.2])] [2] [0, 4] [4] fs (AC ?_ (AC ?_ (AC ?_ (AC ?_ (AC ?_ AN))))) ?_)
     ·intro av bh R jr ef
      exact OV ⟨rfl, rfl⟩ (eL true 4 0 (ef.blk 1 rfl)) ef
     ·intro av bh R js ft
      exact OM ⟨rfl, rfl⟩ ft
     ·rintro av bh v1_ ⟨rfl, _⟩ R jt ba
      refine WC ((c_s_l1Cur_pick jt (⟨l.code, z.2.1, z.2.2⟩ : l1Cur) t u (H.memX I ba) d 8 (ba.hasPick [5]) (ba.nodupPick [5] (by kernel_rfl)) (apartX.old H I ba [5]) iq).mono ?_)
      rintro e_ ku ⟨rfl, e8⟩
      refine ⟨_, rfl, ?_⟩
      exact WN (oE (iv P.1) (BK d 110 [SL t l.code u, iv P.2.1, .int .u64 P.2.2]) ⟨rfl, rfl⟩ (Mem.callMidF ba e8))
     ·intro av bh R ju fu
      exact OM ⟨rfl, rfl⟩ fu
     ·intro av bh v2_ hb2_
      obtain ⟨rfl, hs2_⟩ := hb2_
      rintro v3_ ⟨rfl, _⟩ R ee fv
      have bk : Mem (idsOf [(BK d 110 [SL t l.code u, iv l.at_, .int .u64 l.seed])]) w ee ([(BK n 87 [iv 0, SN, SN, SN]), (BK m 87 [iv c.2.2.2.1, SL D c.2.2.2.2.1 A, SL F c.2.2.2.2.2.1 B, SL G c.2.2.2.2.2.2 C]), Q, S, T] ++ ([[]] ++ ([(av 2)] ++ ([] ++ R)))) := fv
      rw [hs2_] at bk
      replace bk : Mem (idsOf [(BK d 110 [SL t l.code u, iv l.at_, .int .u64 l.seed])]) w ee ([(BK n 87 [iv 0, SN, SN, SN]), (BK m 87 [iv c.2.2.2.1, SL D c.2.2.2.2.1 A, SL F c.2.2.2.2.2.1 B, SL G c.2.2.2.2.2.2 C]), Q, S, T] ++ ([[]] ++ ([(BK d 110 [SL t l.code u, iv P.2.1, .int .u64 P.2.2])] ++ ([] ++ R)))) := bk.permF (by simp)
      have bb := Mem.takeOver bk
      refine WC ((c_s_l1Cur_pick ee (⟨l.code, P.2.1, P.2.2⟩ : l1Cur) t u (H.memX I bb) d 12 (bb.hasPick [5]) (bb.nodupPick [5] (by kernel_rfl)) (apartX.old H I bb [5]) ir).mono ?_)
      rintro e_ kv ⟨rfl, e9⟩
      refine ⟨_, rfl, ?_⟩
      exact WN (oE (iv ah.1) (BK d 110 [SL t l.code u, iv ah.2.1, .int .u64 ah.2.2]) ⟨rfl, rfl⟩ (Mem.callMidF bb e9))
     intro av bh v2_ hb2_
     obtain ⟨_, rfl, _⟩ := hb2_
     rintro v0_ ⟨rfl, _⟩ v4_ hb4_
     obtain ⟨rfl, hs4_⟩ := hb4_
     intro e3 fw
     have bc : Mem (idsOf [(BK d 110 [SL t l.code u, iv l.at_, .int .u64 l.seed])]) w e3 [(BK n 87 [iv 0, SN, SN, SN]), (BK m 87 [iv c.2.2.2.1, SL D c.2.2.2.2.1 A, SL F c.2.2.2.2.2.1 B, SL G c.2.2.2.2.2.2 C]), Q, S, T, (av 4)] := fw
     rw [hs4_] at bc
     refine GD hm fun aq it hm => WC ((c_s_l10Raise e3 (⟨c.2.2.2.1, c.2.2.2.2.1, (⟨c.2.2.2.2.2.1, c.2.2.2.2.2.2⟩ : Queue)⟩ : Interface) D A (ax.r bc 2) F B (ay.r bc 3) G C (az.r bc 4) P.1 ah.1 it).mono ?_)
     rintro e_ kw ⟨d5, dm, jb, d6, dn, jc, d7, dp, jd, rfl, hn, ho, hp, fa⟩
     have fx := bc.call fa
     refine ⟨_, rfl, ?_⟩
     refine wS true 4 0 (.agg #[iv aq.Mask, SL d5 aq.Stack dm, SL d6 aq.Queue.Slots dn, SL d7 aq.Queue.Waiting dp]) 1 [iv aq.Mask, SL d5 aq.Stack dm, SL d6 aq.Queue.Slots dn, SL d7 aq.Queue.Waiting dp] fx rfl fun kx fy => WN ?_
     obtain rfl := HS hm
     exact NM fun a ha => ⟨d5, dm, jb, d6, dn, jc, d7, dp, jd, hn, ho, hp, fy.pk [0, 1, 5, 6, 7, 8], ha.s⟩
    refine gF dt (QB (MW 2 (NO (GD hm fun i6 hq g4 => G_meet (fun a w' => Mem (idsOf [(BK d 110 [SL t l.code u, iv l.at_, .int .u64 l.seed])]) w w' [(BK n 87 [iv 0, SN, SN, SN]), (BK m 87 [iv c.2.2.2.1, SL D c.2.2.2.2.1 A, SL F c.2.2.2.2.2.1 B, SL G c.2.2.2.2.2.2 C]), Q, S, T, (BK d 110 [SL t l.code u, iv z.2.1, .int .u64 z.2.2])] ∧ Sat Tryz.f147.ntmps [(0, pB d 0), (2, pB n 0), (3, pB m 0), (4, iv c.1), (21, iv z.1), (32, .bool i6)] a) ?_ ?_))))
    ·have hm := hq
     refine GT hm (fun du hm => ?_) fun du hm => ?_
     ·refine GK ?_
      obtain rfl := HS hm
      exact NM fun a ha => ⟨dj.pk [0, 1, 2, 3, 4, 5], ha.s⟩
     refine GR (MW 2 (WN ?_))
     obtain rfl := HS hm
     exact NM fun a ha => ⟨dj.pk [0, 1, 2, 3, 4, 5], ha.s⟩
    intro kf a8 ⟨O, gr⟩
    refine N_use gr ?_
    have hm := g4
    refine TN (GD hm fun a0 hr g5 => G_meet (fun a w' => ∃ cg bq c4 ch br c5 ci bs c6, ownS Gx.encI a0.2.1 cg bq c4 ∧ ownS encSlot a0.2.2.1 ch br c5 ∧ ownS encWaiter a0.2.2.2 ci bs c6 ∧ Mem (idsOf [(BK d 110 [SL t l.code u, iv l.at_, .int .u64 l.seed])]) w w' [(BK n 87 [iv 0, SN, SN, SN]), (BK m 87 [iv a0.1, SL cg a0.2.1 bq, SL ch a0.2.2.1 br, SL ci a0.2.2.2 bs]), (BK d 110 [SL t l.code u, iv z.2.1, .int .u64 z.2.2]), c4, c5, c6] ∧ Sat Tryz.f147.ntmps [(0, pB d 0), (2, pB n 0), (3, pB m 0), (4, iv c.1)] a) ?_ ?_)
    ·have hm := hr
     refine GT hm (fun dv hm => ?_) fun dv hm => ?_
     ·refine GR (wV (.agg #[iv c.2.2.2.1, SL D c.2.2.2.2.1 A, SL F c.2.2.2.2.2.1 B, SL G c.2.2.2.2.2.2 C]) a8 (eL true 4 0 (O.blk 1 rfl)) (GD hm fun Y iu hm => WC ((c_s_l10Take a8 (⟨c.2.2.2.1, c.2.2.2.2.1, (⟨c.2.2.2.2.2.1, c.2.2.2.2.2.2⟩ : Queue)⟩ : Interface) D A (ax.r O 2) F B (ay.r O 3) G C (az.r O 4) iu).mono ?_)))
      rintro e_ jv ⟨cj, bt, je, ck, bu, jf, cl, bv, jg, rfl, hv, hw, hx, fb⟩
      have fz := O.call fb
      refine ⟨_, rfl, ?_⟩
      refine MW 3 (wS true 4 0 (.agg #[iv Y.1.Mask, SL cj Y.1.Stack bt, SL ck Y.1.Queue.Slots bu, SL cl Y.1.Queue.Waiting bv]) 1 [iv Y.1.Mask, SL cj Y.1.Stack bt, SL ck Y.1.Queue.Slots bu, SL cl Y.1.Queue.Waiting bv] fz rfl fun ky f0 => WN ?_)
      obtain rfl := HS hm
      exact NM fun a ha => ⟨cj, bt, je, ck, bu, jf, cl, bv, jg, hv, hw, hx, f0.pk [0, 1, 5, 6, 7, 8], ha.s⟩
     refine QA (MW 2 (NO (GD hm fun a3 hy g6 => G_meet (fun a w' => ∃ cm bw c7 cn bx c8 co bz c9, ownS Gx.encI a3.2.1 cm bw c7 ∧ ownS encSlot a3.2.2.1 cn bx c8 ∧ ownS encWaiter a3.2.2.2 co bz c9 ∧ Mem (idsOf [(BK d 110 [SL t l.code u, iv l.at_, .int .u64 l.seed])]) w w' [(BK n 87 [iv 0, SN, SN, SN]), (BK m 87 [iv a3.1, SL cm a3.2.1 bw, SL cn a3.2.2.1 bx, SL co a3.2.2.2 bz]), (BK d 110 [SL t l.code u, iv z.2.1, .int .u64 z.2.2]), c7, c8, c9] ∧ Sat Tryz.f147.ntmps [(0, pB d 0), (2, pB n 0), (3, pB m 0), (4, iv c.1)] a) ?_ ?_)))
     ·have hm := hy
      refine GT hm (fun dw hm => ?_) fun dw hm => ?_
      ·refine GR (wV (.agg #[iv c.2.2.2.1, SL D c.2.2.2.2.1 A, SL F c.2.2.2.2.2.1 B, SL G c.2.2.2.2.2.2 C]) a8 (eL true 4 0 (O.blk 1 rfl)) ?_)
       rcases gx_alt hm with ⟨d8, iw, hm⟩ | hm
       ·refine WD (c_s_l10Leave__k a8 (⟨c.2.2.2.1, c.2.2.2.2.1, (⟨c.2.2.2.2.2.1, c.2.2.2.2.2.2⟩ : Queue)⟩ : Interface) D A (ax.r O 2) F B (ay.r O 3) G C (az.r O 4) iw) O fun jw f1 => MW 3 (wS true 4 0 (.agg #[iv d8.1.Mask, SL D c.2.2.2.2.1 A, SL F c.2.2.2.2.2.1 B, SL G c.2.2.2.2.2.2 C]) 1 [iv d8.1.Mask, SL D c.2.2.2.2.1 A, SL F c.2.2.2.2.2.1 B, SL G c.2.2.2.2.2.2 C] f1 rfl fun kz f2 => WN ?_)
        obtain rfl := HS hm
        exact NM fun a ha => ⟨D, A, Q, F, B, S, G, C, T, ax, ay, az, f2.pk [0, 1, 5, 2, 3, 4], ha.s⟩
       refine GD hm fun Z ix hm => WC ((c_s_l10Leave a8 (⟨c.2.2.2.1, c.2.2.2.2.1, (⟨c.2.2.2.2.2.1, c.2.2.2.2.2.2⟩ : Queue)⟩ : Interface) D A (ax.r O 2) F B (ay.r O 3) G C (az.r O 4) ix).mono ?_)
       rintro e_ jx ⟨cp, b0, jh, cq, b1, ji, cr, b2, jj, rfl, h2, h3, h4, fd⟩
       have f3 := O.call fd
       refine ⟨_, rfl, ?_⟩
       refine MW 3 (wS true 4 0 (.agg #[iv Z.1.Mask, SL cp Z.1.Stack b0, SL cq Z.1.Queue.Slots b1, SL cr Z.1.Queue.Waiting b2]) 1 [iv Z.1.Mask, SL cp Z.1.Stack b0, SL cq Z.1.Queue.Slots b1, SL cr Z.1.Queue.Waiting b2] f3 rfl fun k0 f4 => WN ?_)
       obtain rfl := HS hm
       exact NM fun a ha => ⟨cp, b0, jh, cq, b1, ji, cr, b2, jj, h2, h3, h4, f4.pk [0, 1, 5, 6, 7, 8], ha.s⟩
      refine GK ?_
      obtain rfl := HS hm
      exact NM fun a ha => ⟨D, A, Q, F, B, S, G, C, T, ax, ay, az, O.pk [0, 1, 5, 2, 3, 4], ha.s⟩
     intro kg k1 ⟨cm, bw, c7, cn, bx, c8, co, bz, c9, hz, h0, h1, f5, gs⟩
     refine N_use gs ?_
     have hm := g6
     obtain rfl := HS hm
     exact NM fun a ha => ⟨cm, bw, c7, cn, bx, c8, co, bz, c9, hz, h0, h1, f5.pk [0, 1, 2, 3, 4, 5], ha.s⟩
    intro kh k2 ⟨cg, bq, c4, ch, br, c5, ci, bs, c6, hs, ht, hu, f6, gt⟩
    refine N_use gt ?_
    have hm := g5
    obtain rfl := HS hm
    exact NM fun a ha => ⟨cg, bq, c4, ch, br, c5, ci, bs, c6, hs, ht, hu, f6.pk [0, 1, 2, 3, 4, 5], ha.s⟩
   intro ki jy ⟨cd, bn, c1, ce, bo, c2, cf, bp, c3, hj, hk, hl, f7, gu⟩
   refine N_use gu ?_
   have hm := g3
   refine BN (BN (TN (GR (wR 3 [(0, pB d 0), (2, pB n 0), (3, pB m 0), (4, iv (w64 (c.1 - 1)))] jy (WN ?_)))))
   cases hm
   exact N_loop fun a ha => ⟨_, rfl, cd, bn, c1, ce, bo, c2, cf, bp, c3, hj, hk, hl, f7.pk [0, 1, 2, 3, 4, 5], ha.s⟩
  refine XA ?_
  obtain rfl := HS hm
  obtain rfl := im _ rfl
  exact NM fun a ha => ⟨D, A, Q, F, B, S, G, C, T, ax, ay, az, a5.pk [0, 1, 2, 3, 4, 5], ha.s⟩
 intro kj e4 ⟨L, K, al, W, U, am, X, V, an, d1, d2, d3, bd, gv⟩
 refine N_use gv ?_
 have hm := hc
 refine TN (QB (MW 1 (GD hm fun ey iy hm => WC ((c_s_l1Cur_one e4 (⟨l.code, y.1, y.2.1⟩ : l1Cur) t u (H.memX I bd) d 3 (bd.hasPick [2]) (bd.nodupPick [2] (by kernel_rfl)) (apartX.old H I bd [2]) iy).mono ?_))))
 rintro e_ jz ⟨rfl, fe⟩
 have eg := bd.callF' [2] [0, 1, 3, 4, 5] (by kernel_rfl) fe
 refine ⟨_, rfl, ?_⟩
 refine NO (GD hm fun ad h5 g7 => G_meet (fun a w' => Mem (idsOf [(BK d 110 [SL t l.code u, iv l.at_, .int .u64 l.seed])]) w w' [(BK n 87 [iv 0, SN, SN, SN]), (BK m 87 [iv ad.2.2, SL L y.2.2.2.1 K, SL W y.2.2.2.2.1 U, SL X y.2.2.2.2.2 V]), al, am, an, (BK d 110 [SL t l.code u, iv ad.1, .int .u64 ad.2.1])] ∧ Sat Tryz.f147.ntmps [(0, pB d 0), (2, pB n 0), (3, pB m 0)] a) ?_ ?_)
 ·have hm := h5
  refine GT hm (fun dx hm => ?_) fun dx hm => ?_
  ·refine GR (MW 1 (wL (E := Gx.encI) [0, 4, 8, 15] 4 [iv 0, iv 4, iv 8, iv 15] 3 eg fun ew en ko j0 ep ar => GD hm fun d9 iz hm => WC ((c_s_l1Cur_among j0 (⟨l.code, ey.2.1, ey.2.2⟩ : l1Cur) t u (H.memX I ar) d [0, 4, 8, 15] ew en (ep.r ar 6) (ar.hasPick [5]) (ar.nodupPick [5] (by kernel_rfl)) (apartX.old H I ar [5]) (apartX.own ep ar 6 (by kernel_rfl) [5] (by kernel_rfl)) iz).mono ?_)))
   rintro e_ j1 ⟨rfl, ff⟩
   have f8 := ar.callF' [5] [0, 1, 2, 3, 4, 6] (by kernel_rfl) ff
   refine ⟨_, rfl, ?_⟩
   refine MW 1 (wS false 1 0 (iv d9.1) 1 [iv d9.1, SL L y.2.2.2.1 K, SL W y.2.2.2.2.1 U, SL X y.2.2.2.2.2 V] f8 rfl fun k3 f9 => WN ?_)
   obtain rfl := HS hm
   exact NM fun a ha => ⟨f9.pk [0, 1, 2, 3, 4, 6], ha.s⟩
  refine GK ?_
  obtain rfl := HS hm
  exact NM fun a ha => ⟨eg.pk [0, 1, 2, 3, 4, 5], ha.s⟩
 intro kk e5 ⟨be, gw⟩
 refine N_use gw ?_
 have hm := g7
 refine TN (QB (MW 1 (GD hm fun J i0 hm => WC ((c_s_l1Cur_pick e5 (⟨l.code, ad.1, ad.2.1⟩ : l1Cur) t u (H.memX I be) d 24 (be.hasPick [5]) (be.nodupPick [5] (by kernel_rfl)) (apartX.old H I be [5]) i0).mono ?_))))
 rintro e_ a4 ⟨rfl, fg⟩
 have ao := be.callF' [5] [0, 1, 2, 3, 4] (by kernel_rfl) fg
 refine ⟨_, rfl, ?_⟩
 refine NO (GB (QA (MW 2 (NO (GD hm fun x h6 g8 => G_meet (fun a w' => ∃ ae aa da af ab db ag ac dc, ownS Gx.encI x.2.2.2.1 ae aa da ∧ ownS encSlot x.2.2.2.2.1 af ab db ∧ ownS encWaiter x.2.2.2.2.2 ag ac dc ∧ Mem (idsOf [(BK d 110 [SL t l.code u, iv l.at_, .int .u64 l.seed])]) w w' [(BK n 87 [iv 0, SN, SN, SN]), (BK m 87 [iv x.2.2.1, SL ae x.2.2.2.1 aa, SL af x.2.2.2.2.1 ab, SL ag x.2.2.2.2.2 ac]), (BK d 110 [SL t l.code u, iv x.1, .int .u64 x.2.1]), da, db, dc] ∧ Sat Tryz.f147.ntmps [(2, pB n 0), (3, pB m 0)] a) ?_ ?_)))))
 ·have hm := h6
  refine GT hm (fun dy hm => ?_) fun dy hm => ?_
  ·refine GR (MW 1 (wL (E := Gx.encI) [(-1), 17] 2 [iv (-1), iv 17] 3 ao fun ex eo kp j2 er au => GD hm fun ea i1 hm => WC ((c_s_l1Cur_among j2 (⟨l.code, J.2.1, J.2.2⟩ : l1Cur) t u (H.memX I au) d [(-1), 17] ex eo (er.r au 6) (au.hasPick [5]) (au.nodupPick [5] (by kernel_rfl)) (apartX.old H I au [5]) (apartX.own er au 6 (by kernel_rfl) [5] (by kernel_rfl)) i1).mono ?_)))
   rintro e_ j3 ⟨rfl, fh⟩
   have ga := au.callF' [5] [0, 1, 2, 3, 4, 6] (by kernel_rfl) fh
   refine ⟨_, rfl, ?_⟩
   refine MW 1 (wS false 1 0 (iv ea.1) 1 [iv ea.1, SL L y.2.2.2.1 K, SL W y.2.2.2.2.1 U, SL X y.2.2.2.2.2 V] ga rfl fun k4 gb => WN ?_)
   obtain rfl := HS hm
   exact NM fun a ha => ⟨L, K, al, W, U, am, X, V, an, d1, d2, d3, gb.pk [0, 1, 6, 2, 3, 4], ha.s⟩
  refine QA (MW 2 (NO (GD hm fun ap ia g9 => G_meet (fun a w' => ∃ ct b3 dd cu b4 de cv b5 df, ownS Gx.encI ap.2.2.1 ct b3 dd ∧ ownS encSlot ap.2.2.2.1 cu b4 de ∧ ownS encWaiter ap.2.2.2.2 cv b5 df ∧ Mem (idsOf [(BK d 110 [SL t l.code u, iv l.at_, .int .u64 l.seed])]) w w' [(BK n 87 [iv 0, SN, SN, SN]), (BK m 87 [iv ad.2.2, SL ct ap.2.2.1 b3, SL cu ap.2.2.2.1 b4, SL cv ap.2.2.2.2 b5]), (BK d 110 [SL t l.code u, iv ap.1, .int .u64 ap.2.1]), dd, de, df] ∧ Sat Tryz.f147.ntmps [(2, pB n 0), (3, pB m 0)] a) ?_ ?_)))
  ·have hm := ia
   rcases gx_bif hm with ⟨dz, hm⟩ | ⟨dz, hm⟩
   ·refine gT dz (GD hm fun N i2 hm => ?_)
    have gc : Mem (idsOf [(BK d 110 [SL t l.code u, iv l.at_, .int .u64 l.seed])]) w a4 ([(BK n 87 [iv 0, SN, SN, SN]), (BK m 87 [iv ad.2.2, SL L y.2.2.2.1 K, SL W y.2.2.2.2.1 U, SL X y.2.2.2.2.2 V]), al, am, an] ++ (List.range 5).map (fun i => ([[], [], [], (BK d 110 [SL t l.code u, iv J.2.1, .int .u64 J.2.2]), []] : List Seg).getD i [])) := ao.pk [0, 1, 2, 3, 4, 300000, 300001, 300002, 5, 300004]
    refine GU [(0, pB d 0), (2, pB n 0), (3, pB m 0), (54, iv J.1), (61, .bool (J.1 == 1))] (DL 5 [[],[0],[],[2],[]] (EM 5) (EM 5) [[],[],[],[],[3]] (EM 5) (EM 5) (fun i => ([[], [], [], (BK d 110 [SL t l.code u, iv J.2.1, .int .u64 J.2.2]), []] : List Seg).getD i []) [QV (pB m 1), QV (.slice L y.2.2.2.1.length K), QV (pB d 0), fun f v s => v = (iv N.1 : Value) ∧ s = (BK d 110 [SL t l.code u, iv N.2.1, .int .u64 N.2.2]), fun f v s => ∃ ak ai, v = (.slice ak [N.1].length ai : Value) ∧ ownS Gx.encI [N.1] ak ai s] [] [1, 3, 4] [3, 4] gc (AC ?_ (AC ?_ (AC ?_ (AC ?_ (AC ?_ AN))))) ?_)
    ·intro aw bi R j4 gd
     exact OM ⟨rfl, rfl⟩ gd
    ·rintro aw bi v0_ ⟨rfl, _⟩ R j5 eh
     exact OV ⟨rfl, rfl⟩ (eL false 1 1 (eh.blk 1 rfl)) eh
    ·intro aw bi R j6 ge
     exact OM ⟨rfl, rfl⟩ ge
    ·rintro aw bi v2_ ⟨rfl, _⟩ R j7 bf
     refine WC ((c_s_l1Cur_pick j7 (⟨l.code, J.2.1, J.2.2⟩ : l1Cur) t u (H.memX I bf) d 8 (bf.hasPick [5]) (bf.nodupPick [5] (by kernel_rfl)) (apartX.old H I bf [5]) i2).mono ?_)
     rintro e_ k5 ⟨rfl, fi⟩
     refine ⟨_, rfl, ?_⟩
     exact WN (oE (iv N.1) (BK d 110 [SL t l.code u, iv N.2.1, .int .u64 N.2.2]) ⟨rfl, rfl⟩ (Mem.callMidF bf fi))
    ·intro aw bi v3_ hb3_
     obtain ⟨_, rfl, _⟩ := hb3_
     intro R k6 gf
     exact wL (E := Gx.encI) [N.1] 1 [iv N.1] 3 gf fun ak ai jk k7 d4 gg => WN (oE (SL ak [N.1] ai) jk ⟨ak, ai, rfl, d4⟩ (Mem.mid gg))
    rintro aw bi v1_ ⟨rfl, _⟩ v3_ hb3_
    obtain ⟨rfl, hs3_⟩ := hb3_
    intro v4_ hb4_
    obtain ⟨ak, ai, rfl, d4⟩ := hb4_
    intro j8 gh
    have dk : Mem (idsOf [(BK d 110 [SL t l.code u, iv l.at_, .int .u64 l.seed])]) w j8 [(BK n 87 [iv 0, SN, SN, SN]), (BK m 87 [iv ad.2.2, SL L y.2.2.2.1 K, SL W y.2.2.2.2.1 U, SL X y.2.2.2.2.2 V]), al, am, an, (aw 3), (aw 4)] := gh
    rw [hs3_] at dk
    refine GD hm fun dl g0 hm => wA 8 [iv 0] 2 dk d1 (d4.r dk 6) g0 fun cw b6 jl j9 ig gi => MW 1 (wS false 1 1 (SL cw dl b6) 1 [iv ad.2.2, SL cw dl b6, SL W y.2.2.2.2.1 U, SL X y.2.2.2.2.2 V] gi rfl fun k8 gj => WN ?_)
    obtain rfl := HS hm
    exact NM fun a ha => ⟨cw, b6, jl, W, U, am, X, V, an, ig, d2, d3, gj.pk [0, 1, 5, 2, 3, 4], ha.s⟩
   refine gF dz (QA (MW 2 (NO (GD hm fun a6 ih hb => G_meet (fun a w' => ∃ cx b7 dg cy b8 dh, ownS encSlot a6.2.2.1 cx b7 dg ∧ ownS encWaiter a6.2.2.2 cy b8 dh ∧ Mem (idsOf [(BK d 110 [SL t l.code u, iv l.at_, .int .u64 l.seed])]) w w' [(BK n 87 [iv 0, SN, SN, SN]), (BK m 87 [iv ad.2.2, SL L y.2.2.2.1 K, SL cx a6.2.2.1 b7, SL cy a6.2.2.2 b8]), al, (BK d 110 [SL t l.code u, iv a6.1, .int .u64 a6.2.1]), dg, dh] ∧ Sat Tryz.f147.ntmps [(2, pB n 0), (3, pB m 0)] a) ?_ ?_))))
   ·have hm := ih
    refine GT hm (fun d0 hm => ?_) fun d0 hm => ?_
    ·refine GR (MW 1 (GD hm fun a7 i3 hm => WC ((c_s_l1Cur_queue a4 (⟨l.code, J.2.1, J.2.2⟩ : l1Cur) t u (H.memX I ao) d (ao.hasPick [5]) (ao.nodupPick [5] (by kernel_rfl)) (apartX.old H I ao [5]) i3).mono ?_)))
     rintro e_ ka ⟨cz, b9, jm, c0, ca, jn, rfl, ik, il, fj⟩
     have gk := ao.callF' [5] [0, 1, 2, 3, 4] (by kernel_rfl) fj
     refine ⟨_, rfl, ?_⟩
     refine MW 1 (wS true 2 2 (.agg #[SL cz a7.1.Slots b9, SL c0 a7.1.Waiting ca]) 1 [iv ad.2.2, SL L y.2.2.2.1 K, SL cz a7.1.Slots b9, SL c0 a7.1.Waiting ca] gk rfl fun k9 gl => WN ?_)
     obtain rfl := HS hm
     exact NM fun a ha => ⟨cz, b9, jm, c0, ca, jn, ik, il, gl.pk [0, 1, 2, 5, 6, 7], ha.s⟩
    refine GK ?_
    obtain rfl := HS hm
    exact NM fun a ha => ⟨W, U, am, X, V, an, d2, d3, ao.pk [0, 1, 2, 5, 3, 4], ha.s⟩
   intro kl la ⟨cx, b7, dg, cy, b8, dh, ii, ij, gm, gx⟩
   refine N_use gx ?_
   have hm := hb
   obtain rfl := HS hm
   exact NM fun a ha => ⟨L, K, al, cx, b7, dg, cy, b8, dh, d1, ii, ij, gm.pk [0, 1, 3, 2, 4, 5], ha.s⟩
  intro km lb ⟨ct, b3, dd, cu, b4, de, cv, b5, df, ib, ic, ie, gn, gy⟩
  refine N_use gy ?_
  have hm := g9
  obtain rfl := HS hm
  exact NM fun a ha => ⟨ct, b3, dd, cu, b4, de, cv, b5, df, ib, ic, ie, gn.pk [0, 1, 2, 3, 4, 5], ha.s⟩
 intro kn kb ⟨ae, aa, da, af, ab, db, ag, ac, dc, h7, h8, h9, ei, gz⟩
 refine N_use gz ?_
 have hm := g8
 refine BN (NF (wV (.agg #[iv x.2.2.1, SL ae x.2.2.2.1 aa, SL af x.2.2.2.2.1 ab, SL ag x.2.2.2.2.2 ac]) kb (eL true 4 0 (ei.blk 1 rfl)) (wS true 4 0 (.agg #[iv x.2.2.1, SL ae x.2.2.2.1 aa, SL af x.2.2.2.2.1 ab, SL ag x.2.2.2.2.2 ac]) 0 [iv x.2.2.1, SL ae x.2.2.2.1 aa, SL af x.2.2.2.2.1 ab, SL ag x.2.2.2.2.2 ac] ei rfl fun lc ej => NC ?_)))
 obtain rfl := HS hm
 exact N_ret [.agg #[iv x.2.2.1, SL ae x.2.2.2.1 aa, SL af x.2.2.2.2.1 ab, SL ag x.2.2.2.2.2 ac]] (RX true 4 0 (ej.blk 0 rfl) RVs_nil) (⟨ae, aa, da, af, ab, db, ag, ac, dc, rfl, h7, h8, h9, ej.pk [2, 3, 4, 5]⟩)
theorem c_s_l1Cur_machine (w : World) (d : l1Cur) (m n) (X : rdS Gx.encU8 w d.code m n) (c : Nat) (hA : ∀ q ∈ List.flatten [(BK c 110 [SL m d.code n, iv d.at_, .int .u64 d.seed])], w.heap[q.1]? = some q.2) (hN : (idsOf [(BK c 110 [SL m d.code n, iv d.at_, .int .u64 d.seed])]).Nodup) (Y : apartX (idsOf [(BK c 110 [SL m d.code n, iv d.at_, .int .u64 d.seed])]) d.code m) {r : Machine × Int × Int} (hm : M.s_l1Cur_machine d = some r) :
  Calls Tryz.prog 92 #[pB c 0] w fun e w' => ∃ hf g4 hj hg g5 hk hh g6 hl hi g7 hn ho, e = .returned (.agg #[SL hf r.1.Routes g4, SL hg r.1.Enabled g5, SL hh r.1.Raised g6, SL hi r.1.Cpus g7]) ∧ ownS encRoute r.1.Routes hf g4 hj ∧ ownS Gx.encB r.1.Enabled hg g5 hk ∧ ownS Gx.encB r.1.Raised hh g6 hl ∧ ownD deepInterface r.1.Cpus hi g7 hn ho ∧ Mem (idsOf [(BK c 110 [SL m d.code n, iv d.at_, .int .u64 d.seed])]) w w' [(BK c 110 [SL m d.code n, iv r.2.1, .int .u64 r.2.2]), hj, hk, hl, hn, ho] := by
 unfold M.s_l1Cur_machine at hm
 refine cE Tryz.func92 ?_
 have M0 := Mem.start' w [(BK c 110 [SL m d.code n, iv d.at_, .int .u64 d.seed])] hA hN
 refine QA (wN (CE 32 [SN, SN, SN, SN]) M0 fun u ht c9 => NA (MW 1 (GD hm fun ak mt hm => WC ((c_s_l1Cur_pick ht d m n (X.memX Y c9) c 2 (c9.hasPick [0]) (c9.nodupPick [0] (by kernel_rfl)) (apartX.old X Y c9 [0]) mt).mono ?_))))
 rintro e_ nu ⟨rfl, h9⟩
 have it := c9.callF' [0] [1] (by kernel_rfl) h9
 refine ⟨_, rfl, ?_⟩
 refine MW 2 (NA (wL (E := encRoute) ([] : List Route) 0 [] 129 it fun f9 fn nj hu lg iu => MW 1 (NB (MW 1 (NO (GD hm fun cm nb ld => G_meet (fun a w' => ∃ c0 cw gc, ownS encRoute cm.1 c0 cw gc ∧ Mem (idsOf [(BK c 110 [SL m d.code n, iv d.at_, .int .u64 d.seed])]) w w' [(BK u 32 [SN, SN, SN, SN]), (BK c 110 [SL m d.code n, iv cm.2.1, .int .u64 cm.2.2]), gc] ∧ Sat Tryz.f92.ntmps [(0, pB c 0), (2, pB u 0), (3, iv (w64 (1 + ak.1))), (4, SL c0 cm.1 cw)] a) ?_ ?_))))))
 ·refine GB (G_while (σ := List Route × Int × Int × Int) (ρ := List Route × Int × Int) (fun ad a w' => ∃ bo bi es, ownS encRoute ad.1 bo bi es ∧ Mem (idsOf [(BK c 110 [SL m d.code n, iv d.at_, .int .u64 d.seed])]) w w' [(BK u 32 [SN, SN, SN, SN]), (BK c 110 [SL m d.code n, iv ad.2.2.1, .int .u64 ad.2.2.2]), es] ∧ Sat Tryz.f92.ntmps [(0, pB c 0), (2, pB u 0), (3, iv (w64 (1 + ak.1))), (4, SL bo ad.1 bi), (5, iv ad.2.1)] a) nb (fun a ha => ⟨f9, fn, nj, lg, iu.pk [0, 1, 2], ha.s⟩) ?_)
  clear hm
  intro ad qc hm mp o0 gi ⟨bo, bi, es, g8, cu, kq⟩
  refine G_use kq (QB (MW 2 (NO (GT hm (fun fp hm => ?_) fun fp hm => ?_))))
  ·refine GK (TN (GS (GB (GR (MW 2 (GD hm fun c1 mu hm => WC ((c_s_l1Cur_pick gi (⟨d.code, ad.2.2.1, ad.2.2.2⟩ : l1Cur) m n (X.memX Y cu) c 10 (cu.hasPick [1]) (cu.nodupPick [1] (by kernel_rfl)) (apartX.old X Y cu [1]) mu).mono ?_)))))))
   rintro e_ hv ⟨rfl, ia⟩
   have da := cu.callF' [1] [0, 2] (by kernel_rfl) ia
   refine ⟨_, rfl, ?_⟩
   refine MW 2 (GD hm fun gb mv hm => WC ((c_s_l1Cur_pick hv (⟨d.code, c1.2.1, c1.2.2⟩ : l1Cur) m n (X.memX Y da) c (w64 (1 + ak.1)) (da.hasPick [2]) (da.nodupPick [2] (by kernel_rfl)) (apartX.old X Y da [2]) mv).mono ?_))
   rintro e_ nv ⟨rfl, ib⟩
   have iw := da.callF' [2] [0, 1] (by kernel_rfl) ib
   refine ⟨_, rfl, ?_⟩
   refine MW 1 (wL (E := encRoute) [(⟨c1.1, gb.1⟩ : Route)] 1 [iv c1.1, iv gb.1] 129 iw fun pi pd pm po li gr => GD hm fun g2 k2 hm => wA 16 [iv 0, iv 0] 1 gr g8 (li.r gr 3) k2 fun ga fo nk hw lj ix => MW 1 (NG (wR 3 [(0, pB c 0), (2, pB u 0), (3, iv (w64 (1 + ak.1))), (4, SL ga g2 fo), (5, iv (w64 (ad.2.1 + 1)))] hw (WN ?_))))
   cases hm
   exact N_loop fun a ha => ⟨_, rfl, ga, fo, nk, lj, ix.pk [0, 2, 1], ha.s⟩
  refine XA ?_
  obtain rfl := HS hm
  obtain rfl := mp _ rfl
  exact NM fun a ha => ⟨bo, bi, es, g8, cu.pk [0, 1, 2], ha.s⟩
 intro o1 hx ⟨c0, cw, gc, lh, gs, kr⟩
 refine N_use kr ?_
 have hm := ld
 refine NF (MW 2 (GD hm fun S mw hm => WC ((c_s_NewMachine hx cm.1 c0 cw (lh.r gs 2) (w64 (1 + ak.1)) mw).mono ?_)))
 rintro e_ nw ⟨be, bb, bz, ab, ae, nl, af, ah, nm, bf, bc, b0, b1, rfl, lk, ll, lm, ln, ic⟩
 have iy := gs.call ic
 refine ⟨_, rfl, ?_⟩
 refine MW 3 (wN (CE 32 [SN, SN, SN, SN]) iy fun t pp iz => wS true 4 0 (.agg #[SL be S.1.Routes bb, SL ab S.1.Enabled ae, SL af S.1.Raised ah, SL bf S.1.Cpus bc]) 8 [SL be S.1.Routes bb, SL ab S.1.Enabled ae, SL af S.1.Raised ah, SL bf S.1.Cpus bc] iz rfl fun hy i0 => MW 1 (NB (MW 1 (NO (GD hm fun b8 nc le => G_meet (fun a w' => ∃ et eu, ownS Gx.encB b8.2.2.1 ab ae et ∧ ownS Gx.encB b8.2.2.2 af ah eu ∧ Mem (idsOf [(BK c 110 [SL m d.code n, iv d.at_, .int .u64 d.seed])]) w w' [(BK u 32 [SN, SN, SN, SN]), (BK c 110 [SL m d.code n, iv b8.1, .int .u64 b8.2.1]), bz, b0, b1, (BK t 32 [SL be S.1.Routes bb, SL ab b8.2.2.1 ae, SL af b8.2.2.2 ah, SL bf S.1.Cpus bc]), et, eu] ∧ Sat Tryz.f92.ntmps [(0, pB c 0), (2, pB u 0), (6, pB t 0)] a) ?_ ?_)))))
 ·refine GB (G_while (σ := Int × Int × Int × List Bool × List Bool) (ρ := Int × Int × List Bool × List Bool) (fun x a w' => ∃ c2 b2, ownS Gx.encB x.2.2.2.1 ab ae c2 ∧ ownS Gx.encB x.2.2.2.2 af ah b2 ∧ Mem (idsOf [(BK c 110 [SL m d.code n, iv d.at_, .int .u64 d.seed])]) w w' [(BK u 32 [SN, SN, SN, SN]), (BK c 110 [SL m d.code n, iv x.2.1, .int .u64 x.2.2.1]), bz, b0, b1, (BK t 32 [SL be S.1.Routes bb, SL ab x.2.2.2.1 ae, SL af x.2.2.2.2 ah, SL bf S.1.Cpus bc]), c2, b2] ∧ Sat Tryz.f92.ntmps [(0, pB c 0), (2, pB u 0), (6, pB t 0), (8, iv x.1)] a) nc (fun a ha => ⟨nl, nm, ll, lm, i0.pk [0, 1, 3, 6, 7, 8, 4, 5], ha.s⟩) ?_)
  clear hm
  intro x qd hm mq o2 hz ⟨c2, b2, fy, fz, gt, ks⟩
  refine G_use ks (QB (MW 2 (NO (GT hm (fun fq hm => ?_) fun fq hm => ?_))))
  ·refine GK (TN (GS (GB (GS (GD hm fun K mx hm => ?_)))))
   have i1 : Mem (idsOf [(BK c 110 [SL m d.code n, iv d.at_, .int .u64 d.seed])]) w hz ([(BK u 32 [SN, SN, SN, SN]), bz, b0, b1, (BK t 32 [SL be S.1.Routes bb, SL ab x.2.2.2.1 ae, SL af x.2.2.2.2 ah, SL bf S.1.Cpus bc]), c2, b2] ++ (List.range 6).map (fun i => ([[], [], [], [], (BK c 110 [SL m d.code n, iv x.2.1, .int .u64 x.2.2.1]), []] : List Seg).getD i [])) := gt.pk [0, 2, 3, 4, 5, 6, 7, 300000, 300001, 300002, 300003, 1, 300005]
   refine GU [(0, pB c 0), (2, pB u 0), (6, pB t 0), (8, iv x.1), (38, .bool (decide (x.1 < 8)))] (DL 6 [[],[0],[],[],[3],[]] (EM 6) (EM 6) [[],[],[],[],[],[4]] (EM 6) (EM 6) (fun i => ([[], [], [], [], (BK c 110 [SL m d.code n, iv x.2.1, .int .u64 x.2.2.1]), []] : List Seg).getD i []) [QV (pB t 1), QV (.slice ab x.2.2.2.1.length ae), QV (iv x.1), QV (pB c 0), fun f v s => v = (.bool K.1 : Value) ∧ s = (BK c 110 [SL m d.code n, iv K.2.1, .int .u64 K.2.2]), QV (.bool (!K.1))] [] [1, 2, 4, 5] [4] i1 (AC ?_ (AC ?_ (AC ?_ (AC ?_ (AC ?_ (AC ?_ AN)))))) ?_)
   ·intro cf cx R nx i2
    exact OM ⟨rfl, rfl⟩ i2
   ·rintro cf cx v0_ ⟨rfl, _⟩ R ny gu
    exact OV ⟨rfl, rfl⟩ (eL false 1 1 (gu.blk 4 rfl)) gu
   ·intro cf cx R nz i3
    exact OM ⟨rfl, rfl⟩ i3
   ·intro cf cx R n0 i4
    exact OM ⟨rfl, rfl⟩ i4
   ·rintro cf cx v3_ ⟨rfl, _⟩ R n1 db
    refine WC ((c_s_l1Cur_one n1 (⟨d.code, x.2.1, x.2.2.1⟩ : l1Cur) m n (X.memX Y db) c 4 (db.hasPick [7]) (db.nodupPick [7] (by kernel_rfl)) (apartX.old X Y db [7]) mx).mono ?_)
    rintro e_ pq ⟨rfl, ie⟩
    refine ⟨_, rfl, ?_⟩
    exact WN (oE (.bool K.1) (BK c 110 [SL m d.code n, iv K.2.1, .int .u64 K.2.2]) ⟨rfl, rfl⟩ (Mem.callMidF db ie))
   ·intro cf cx v4_ hb4_
    obtain ⟨_, rfl, _⟩ := hb4_
    intro R n2 i5
    exact OM ⟨rfl, rfl⟩ i5
   rintro cf cx v1_ ⟨rfl, _⟩
   rintro v2_ ⟨rfl, _⟩ v4_ hb4_
   obtain ⟨rfl, hs4_⟩ := hb4_
   rintro v5_ ⟨rfl, _⟩ h0 i6
   have fh : Mem (idsOf [(BK c 110 [SL m d.code n, iv d.at_, .int .u64 d.seed])]) w h0 [(BK u 32 [SN, SN, SN, SN]), bz, b0, b1, (BK t 32 [SL be S.1.Routes bb, SL ab x.2.2.2.1 ae, SL af x.2.2.2.2 ah, SL bf S.1.Cpus bc]), c2, b2, (cf 4)] := i6
   rw [hs4_] at fh
   refine GD hm fun ov hc hm => wV (elemP ab (x.1.toNat * 1)) h0 (eI (fy.r fh 5) rfl hc) (wE false 1 x.1.toNat 0 (x.1.toNat * 1) ov (!K.1) (.bool (!K.1)) 5 fh fy (gxIdx_spec hc).2 fun h1 dr lq i7 => LX 42 ab ae x.2.2.2.1 x.1.toNat (!K.1) ?_)
   have i8 : Mem (idsOf [(BK c 110 [.slice m d.code.length n, iv d.at_, .int .u64 d.seed])]) w h1 [(BK u 32 [.slice none 0 0, .slice none 0 0, .slice none 0 0, .slice none 0 0]), bz, b0, b1, (BK t 32 [.slice be S.1.Routes.length bb, .slice ab (x.2.2.2.1.set x.1.toNat (!K.1)).length ae, .slice af x.2.2.2.2.length ah, .slice bf S.1.Cpus.length bc]), dr, b2, (BK c 110 [.slice m d.code.length n, iv K.2.1, .int .u64 K.2.2])] := by rw [@List.length_set _ x.2.2.2.1 x.1.toNat (!K.1)]; exact i7
   refine NO (GD hm fun al my hm => ?_)
   have i9 : Mem (idsOf [(BK c 110 [SL m d.code n, iv d.at_, .int .u64 d.seed])]) w h1 ([(BK u 32 [SN, SN, SN, SN]), bz, b0, b1, (BK t 32 [SL be S.1.Routes bb, SL ab (x.2.2.2.1.set x.1.toNat (!K.1)) ae, SL af x.2.2.2.2 ah, SL bf S.1.Cpus bc]), dr, b2] ++ (List.range 5).map (fun i => ([[], [], [], [], (BK c 110 [SL m d.code n, iv K.2.1, .int .u64 K.2.2])] : List Seg).getD i [])) := i8.pk [0, 1, 2, 3, 4, 5, 6, 300000, 300001, 300002, 300003, 7]
   refine GU [(0, pB c 0), (2, pB u 0), (6, pB t 0), (8, iv x.1), (38, .bool (decide (x.1 < 8))), (42, SL ab (x.2.2.2.1.set x.1.toNat (!K.1)) ae), (43, iv x.1), (45, .bool K.1), (46, .bool (!K.1)), (47, elemP ab (x.1.toNat * 1))] (DL 5 [[],[0],[],[],[3]] (EM 5) (EM 5) (EM 5) (EM 5) (EM 5) (fun i => ([[], [], [], [], (BK c 110 [SL m d.code n, iv K.2.1, .int .u64 K.2.2])] : List Seg).getD i []) [QV (pB t 2), QV (.slice af x.2.2.2.2.length ah), QV (iv x.1), QV (pB c 0), fun f v s => v = (.bool al.1 : Value) ∧ s = (BK c 110 [SL m d.code n, iv al.2.1, .int .u64 al.2.2])] [] [1, 2, 4] [4] i9 (AC ?_ (AC ?_ (AC ?_ (AC ?_ (AC ?_ AN))))) ?_)
   ·intro cy dl R n3 ja
    exact OM ⟨rfl, rfl⟩ ja
   ·rintro cy dl v0_ ⟨rfl, _⟩ R n4 gv
    exact OV ⟨rfl, rfl⟩ (eL false 1 2 (gv.blk 4 rfl)) gv
   ·intro cy dl R n5 jb
    exact OM ⟨rfl, rfl⟩ jb
   ·intro cy dl R n6 jc
    exact OM ⟨rfl, rfl⟩ jc
   ·rintro cy dl v3_ ⟨rfl, _⟩ R n7 dc
    refine WC ((c_s_l1Cur_one n7 (⟨d.code, K.2.1, K.2.2⟩ : l1Cur) m n (X.memX Y dc) c 2 (dc.hasPick [7]) (dc.nodupPick [7] (by kernel_rfl)) (apartX.old X Y dc [7]) my).mono ?_)
    rintro e_ pr ⟨rfl, ig⟩
    refine ⟨_, rfl, ?_⟩
    exact WN (oE (.bool al.1) (BK c 110 [SL m d.code n, iv al.2.1, .int .u64 al.2.2]) ⟨rfl, rfl⟩ (Mem.callMidF dc ig))
   rintro cy dl v1_ ⟨rfl, _⟩
   rintro v2_ ⟨rfl, _⟩ v4_ hb4_
   obtain ⟨rfl, hs4_⟩ := hb4_
   intro h2 jd
   have fi : Mem (idsOf [(BK c 110 [SL m d.code n, iv d.at_, .int .u64 d.seed])]) w h2 [(BK u 32 [SN, SN, SN, SN]), bz, b0, b1, (BK t 32 [SL be S.1.Routes bb, SL ab (x.2.2.2.1.set x.1.toNat (!K.1)) ae, SL af x.2.2.2.2 ah, SL bf S.1.Cpus bc]), dr, b2, (cy 4)] := jd
   rw [hs4_] at fi
   refine GD hm fun ow hd hm => wV (elemP af (x.1.toNat * 1)) h2 (eI (fz.r fi 6) rfl hd) (wE false 1 x.1.toNat 0 (x.1.toNat * 1) ow al.1 (.bool al.1) 6 fi fz (gxIdx_spec hd).2 fun h3 hp lr je => LX 49 af ah x.2.2.2.2 x.1.toNat al.1 ?_)
   have jf : Mem (idsOf [(BK c 110 [.slice m d.code.length n, iv d.at_, .int .u64 d.seed])]) w h3 [(BK u 32 [.slice none 0 0, .slice none 0 0, .slice none 0 0, .slice none 0 0]), bz, b0, b1, (BK t 32 [.slice be S.1.Routes.length bb, .slice ab (x.2.2.2.1.set x.1.toNat (!K.1)).length ae, .slice af (x.2.2.2.2.set x.1.toNat al.1).length ah, .slice bf S.1.Cpus.length bc]), dr, hp, (BK c 110 [.slice m d.code.length n, iv al.2.1, .int .u64 al.2.2])] := by rw [@List.length_set _ x.2.2.2.2 x.1.toNat al.1]; exact je
   refine NG (MW 3 (WN ?_))
   cases hm
   exact N_loop fun a ha => ⟨_, rfl, dr, hp, lq, lr, jf.pk [0, 7, 1, 2, 3, 4, 5, 6], ha.s⟩
  refine XA ?_
  obtain rfl := HS hm
  obtain rfl := mq _ rfl
  exact NM fun a ha => ⟨c2, b2, fy, fz, gt.pk [0, 1, 2, 3, 4, 5, 6, 7], ha.s⟩
 intro o3 h4 ⟨et, eu, lo, lp, dd, kt⟩
 refine N_use kt ?_
 have hm := le
 refine TN (QB (MW 1 (GD hm fun nh mz hm => WC ((c_s_l1Cur_pick h4 (⟨d.code, b8.1, b8.2.1⟩ : l1Cur) m n (X.memX Y dd) c 14 (dd.hasPick [1]) (dd.nodupPick [1] (by kernel_rfl)) (apartX.old X Y dd [1]) mz).mono ?_))))
 rintro e_ n8 ⟨rfl, ih⟩
 have jg := dd.callF' [1] [0, 2, 3, 4, 5, 6, 7] (by kernel_rfl) ih
 refine ⟨_, rfl, ?_⟩
 refine MW 1 (NO (GD hm fun l nd lf => G_meet (fun a w' => ∃ C F Z J I U Q P V G H aa W, ownS encRoute l.2.2.1 C F Z ∧ ownS Gx.encB l.2.2.2.1 J I U ∧ ownS Gx.encB l.2.2.2.2.1 Q P V ∧ ownD deepInterface l.2.2.2.2.2 G H aa W ∧ Mem (idsOf [(BK c 110 [SL m d.code n, iv d.at_, .int .u64 d.seed])]) w w' [(BK u 32 [SN, SN, SN, SN]), (BK t 32 [SL C l.2.2.1 F, SL J l.2.2.2.1 I, SL Q l.2.2.2.2.1 P, SL G l.2.2.2.2.2 H]), (BK c 110 [SL m d.code n, iv l.1, .int .u64 l.2.1]), Z, U, V, aa, W] ∧ Sat Tryz.f92.ntmps [(0, pB c 0), (2, pB u 0), (6, pB t 0)] a) ?_ ?_))
 ·refine GB (G_while (σ := Int × Int × Int × List Route × List Bool × List Bool × List Interface) (ρ := Int × Int × List Route × List Bool × List Bool × List Interface) (fun B a w' => ∃ av ap c3 aw aq c4 ax ar c5 ay au c6 c7, ownS encRoute B.2.2.2.1 av ap c3 ∧ ownS Gx.encB B.2.2.2.2.1 aw aq c4 ∧ ownS Gx.encB B.2.2.2.2.2.1 ax ar c5 ∧ ownD deepInterface B.2.2.2.2.2.2 ay au c6 c7 ∧ Mem (idsOf [(BK c 110 [SL m d.code n, iv d.at_, .int .u64 d.seed])]) w w' [(BK u 32 [SN, SN, SN, SN]), (BK t 32 [SL av B.2.2.2.1 ap, SL aw B.2.2.2.2.1 aq, SL ax B.2.2.2.2.2.1 ar, SL ay B.2.2.2.2.2.2 au]), (BK c 110 [SL m d.code n, iv B.2.1, .int .u64 B.2.2.1]), c3, c4, c5, c6, c7] ∧ Sat Tryz.f92.ntmps [(0, pB c 0), (2, pB u 0), (6, pB t 0), (9, iv B.1)] a) nd (fun a ha => ⟨be, bb, bz, ab, ae, et, af, ah, eu, bf, bc, b0, b1, lk, lo, lp, ln, jg.pk [0, 4, 7, 1, 5, 6, 2, 3], ha.s⟩) ?_)
  clear hm
  intro B qe hm mr o4 fg ⟨av, ap, c3, aw, aq, c4, ax, ar, c5, ay, au, c6, c7, ci, cj, ck, cz, az, ku⟩
  refine G_use ku (QB (wR 2 [(0, pB c 0), (2, pB u 0), (6, pB t 0), (9, iv B.1), (57, .bool (decide (B.1 > 0)))] fg (NO (GT hm (fun fs hm => ?_) fun fs hm => ?_))))
  ·refine KD (MW 1 (wV (.agg #[SL av B.2.2.2.1 ap, SL aw B.2.2.2.2.1 aq, SL ax B.2.2.2.2.2.1 ar, SL ay B.2.2.2.2.2.2 au]) fg (eL true 4 0 (az.blk 1 rfl)) (GD hm fun N m0 hm => WC ((c_s_l1Cur_machStep fg (⟨d.code, B.2.1, B.2.2.1⟩ : l1Cur) m n (X.memX Y az) c (⟨B.2.2.2.1, B.2.2.2.2.1, B.2.2.2.2.2.1, B.2.2.2.2.2.2⟩ : Machine) av ap (ci.r az 3) aw aq (cj.r az 4) ax ar (ck.r az 5) ay au (az.hasPick [2]) (az.nodupPick [2] (by kernel_rfl)) (apartX.old X Y az [2]) (apartX.own ci az 3 (by kernel_rfl) [2] (by kernel_rfl)) (apartX.own cj az 4 (by kernel_rfl) [2] (by kernel_rfl)) (apartX.own ck az 5 (by kernel_rfl) [2] (by kernel_rfl)) (cz.rdX az 6 (by kernel_rfl) 7 (by kernel_rfl) [2] (by kernel_rfl) (by kernel_rfl)) m0).mono ?_))))
   rintro e_ ps ⟨rfl, ii⟩
   have jh := az.callF' [2] [0, 1, 3, 4, 5, 6, 7] (by kernel_rfl) ii
   refine ⟨_, rfl, ?_⟩
   refine wN (CE 51 [iv 0, iv 0, iv 0, iv 0]) jh fun pc pt ji => wS true 4 0 (.agg #[iv N.1.Kind, iv N.1.Irq, iv N.1.Cpu, iv N.1.Value]) 8 [iv N.1.Kind, iv N.1.Irq, iv N.1.Cpu, iv N.1.Value] ji rfl fun gj b9 => NA (wV (.agg #[SL av B.2.2.2.1 ap, SL aw B.2.2.2.2.1 aq, SL ax B.2.2.2.2.2.1 ar, SL ay B.2.2.2.2.2.2 au]) gj (eL true 4 0 (b9.blk 1 rfl)) (wV (.agg #[iv N.1.Kind, iv N.1.Irq, iv N.1.Cpu, iv N.1.Value]) gj (eL true 4 0 (b9.blk 8 rfl)) (GD hm fun pl m1 hm => WD (c_s_l21Step gj (⟨B.2.2.2.1, B.2.2.2.2.1, B.2.2.2.2.2.1, B.2.2.2.2.2.2⟩ : Machine) av ap (ci.r b9 2) aw aq (cj.r b9 3) ax ar (ck.r b9 4) ay au (cz.r2 b9 5 6) N.1 m1) b9 fun gk b4 => NO (GD hm fun b6 lt k7 => G_meet (fun a w' => ∃ ed dv ev ee dw ew ef dx ex eg dy ey ez, ownS encRoute b6.1 ed dv ev ∧ ownS Gx.encB b6.2.1 ee dw ew ∧ ownS Gx.encB b6.2.2.1 ef dx ex ∧ ownD deepInterface b6.2.2.2 eg dy ey ez ∧ Mem (idsOf [(BK c 110 [SL m d.code n, iv d.at_, .int .u64 d.seed])]) w w' [(BK u 32 [SN, SN, SN, SN]), (BK t 32 [SL ed b6.1 dv, SL ee b6.2.1 dw, SL ef b6.2.2.1 dx, SL eg b6.2.2.2 dy]), (BK c 110 [SL m d.code n, iv N.2.1, .int .u64 N.2.2]), ev, ew, ex, ey, ez] ∧ Sat Tryz.f92.ntmps [(0, pB c 0), (2, pB u 0), (6, pB t 0), (9, iv B.1)] a) ?_ ?_))))
   ·have hm := lt
    refine GT hm (fun ft hm => ?_) fun ft hm => ?_
    ·refine QA (wV (.agg #[SL av B.2.2.2.1 ap, SL aw B.2.2.2.2.1 aq, SL ax B.2.2.2.2.2.1 ar, SL ay B.2.2.2.2.2.2 au]) gk (eL true 4 0 (b4.blk 1 rfl)) (wV (.agg #[iv N.1.Kind, iv N.1.Irq, iv N.1.Cpu, iv N.1.Value]) gk (eL true 4 0 (b4.blk 8 rfl)) (GD hm fun T m2 hm => WC ((c_s_l21Make gk (⟨B.2.2.2.1, B.2.2.2.2.1, B.2.2.2.2.2.1, B.2.2.2.2.2.2⟩ : Machine) av ap (ci.r b4 2) aw aq (cj.r b4 3) ax ar (ck.r b4 4) ay au (cz.r2 b4 5 6) N.1 m2).mono ?_))))
     rintro e_ n9 ⟨cn, cb, nn, co, cc, no, cp, cd, np, cq, ce, nq, nr, rfl, ly, lz, l0, l1, ik⟩
     have jj := b4.call ik
     refine ⟨_, rfl, ?_⟩
     refine MW 4 (wN (CE 32 [SN, SN, SN, SN]) jj fun g3 pu jk => wS true 4 0 (.agg #[SL cn T.1.Routes cb, SL co T.1.Enabled cc, SL cp T.1.Raised cd, SL cq T.1.Cpus ce]) 14 [SL cn T.1.Routes cb, SL co T.1.Enabled cc, SL cp T.1.Raised cd, SL cq T.1.Cpus ce] jk rfl fun gl fj => MW 2 (NA (MW 1 (NO (GD hm fun b7 l2 k8 => G_meet (fun a w' => ∃ eh dz e0 ei d0 e1 ej d1 e2 ek d2 e3 e4, ownS encRoute b7.1 eh dz e0 ∧ ownS Gx.encB b7.2.1 ei d0 e1 ∧ ownS Gx.encB b7.2.2.1 ej d1 e2 ∧ ownD deepInterface b7.2.2.2 ek d2 e3 e4 ∧ Mem (idsOf [(BK c 110 [SL m d.code n, iv d.at_, .int .u64 d.seed])]) w w' [(BK u 32 [SN, SN, SN, SN]), (BK t 32 [SL eh b7.1 dz, SL ei b7.2.1 d0, SL ej b7.2.2.1 d1, SL ek b7.2.2.2 d2]), (BK c 110 [SL m d.code n, iv N.2.1, .int .u64 N.2.2]), e0, e1, e2, e3, e4] ∧ Sat Tryz.f92.ntmps [(0, pB c 0), (2, pB u 0), (6, pB t 0), (9, iv B.1)] a) ?_ ?_)))))
     ·have hm := l2
      refine GT hm (fun ch hm => ?_) fun ch hm => ?_
      ·refine GR (wV (.agg #[SL cn T.1.Routes cb, SL co T.1.Enabled cc, SL cp T.1.Raised cd, SL cq T.1.Cpus ce]) gl (eL true 4 0 (fj.blk 14 rfl)) (wS true 4 0 (.agg #[SL cn T.1.Routes cb, SL co T.1.Enabled cc, SL cp T.1.Raised cd, SL cq T.1.Cpus ce]) 1 [SL cn T.1.Routes cb, SL co T.1.Enabled cc, SL cp T.1.Raised cd, SL cq T.1.Cpus ce] fj rfl fun pv jl => WN ?_))
       obtain rfl := HS hm
       exact NM fun a ha => ⟨cn, cb, nn, co, cc, no, cp, cd, np, cq, ce, nq, nr, (ly ch), (lz ch), (l0 ch), (l1 ch), jl.pk [0, 1, 7, 9, 10, 11, 12, 13], ha.s⟩
      refine GK ?_
      obtain rfl := HS hm
      exact NM fun a ha => ⟨av, ap, c3, aw, aq, c4, ax, ar, c5, ay, au, c6, c7, ci, cj, ck, cz, fj.pk [0, 1, 7, 2, 3, 4, 5, 6], ha.s⟩
     intro o5 pw ⟨eh, dz, e0, ei, d0, e1, ej, d1, e2, ek, d2, e3, e4, l3, l4, l5, l6, jm, kv⟩
     refine N_use kv ?_
     have hm := k8
     obtain rfl := HS hm
     exact NM fun a ha => ⟨eh, dz, e0, ei, d0, e1, ej, d1, e2, ek, d2, e3, e4, l3, l4, l5, l6, jm.pk [0, 1, 2, 3, 4, 5, 6, 7], ha.s⟩
    refine GK ?_
    obtain rfl := HS hm
    exact NM fun a ha => ⟨av, ap, c3, aw, aq, c4, ax, ar, c5, ay, au, c6, c7, ci, cj, ck, cz, b4.pk [0, 1, 7, 2, 3, 4, 5, 6], ha.s⟩
   intro o6 oa ⟨ed, dv, ev, ee, dw, ew, ef, dx, ex, eg, dy, ey, ez, lu, lv, lw, lx, jn, kw⟩
   refine N_use kw ?_
   have hm := k7
   refine BN (TN (GR (MW 3 (WN ?_))))
   cases hm
   exact N_loop fun a ha => ⟨_, rfl, ed, dv, ev, ee, dw, ew, ef, dx, ex, eg, dy, ey, ez, lu, lv, lw, lx, jn.pk [0, 1, 2, 3, 4, 5, 6, 7], ha.s⟩
  refine XA ?_
  obtain rfl := HS hm
  obtain rfl := mr _ rfl
  exact NM fun a ha => ⟨av, ap, c3, aw, aq, c4, ax, ar, c5, ay, au, c6, c7, ci, cj, ck, cz, az.pk [0, 1, 2, 3, 4, 5, 6, 7], ha.s⟩
 intro o7 h5 ⟨C, F, Z, J, I, U, Q, P, V, G, H, aa, W, f0, ls, f1, b5, de, kx⟩
 refine N_use kx ?_
 have hm := lf
 refine TN (QB (MW 1 (GD hm fun O m3 hm => WC ((c_s_l1Cur_pick h5 (⟨d.code, l.1, l.2.1⟩ : l1Cur) m n (X.memX Y de) c 24 (de.hasPick [2]) (de.nodupPick [2] (by kernel_rfl)) (apartX.old X Y de [2]) m3).mono ?_))))
 rintro e_ b3 ⟨rfl, il⟩
 have cv := de.callF' [2] [0, 1, 3, 4, 5, 6, 7] (by kernel_rfl) il
 refine ⟨_, rfl, ?_⟩
 refine NO (GB (QA (MW 2 (NO (GD hm fun L l7 k9 => G_meet (fun a w' => ∃ bp bj e5 bq bk e6 e7 e8 hq hr, ownS Gx.encB L.2.2.1 bp bj e5 ∧ ownD deepInterface L.2.2.2.1 bq bk e6 e7 ∧ ownS encRoute L.2.2.2.2.1 C F e8 ∧ ownD deepInterface L.2.2.2.2.2 G H hq hr ∧ Mem (idsOf [(BK c 110 [SL m d.code n, iv d.at_, .int .u64 d.seed])]) w w' [(BK u 32 [SN, SN, SN, SN]), (BK t 32 [SL C L.2.2.2.2.1 F, SL J l.2.2.2.1 I, SL bp L.2.2.1 bj, SL bq L.2.2.2.1 bk]), U, (BK c 110 [SL m d.code n, iv L.1, .int .u64 L.2.1]), e5, e6, e7, e8] ∧ Sat Tryz.f92.ntmps [(2, pB u 0), (6, pB t 0)] a) ?_ ?_)))))
 ·have hm := l7
  rcases gx_bif hm with ⟨fu, hm⟩ | ⟨fu, hm⟩
  ·refine gT fu (GD hm fun ai m4 hm => GD hm fun ac m5 hm => GD hm fun ag m6 hm => ?_)
   have jo : Mem (idsOf [(BK c 110 [SL m d.code n, iv d.at_, .int .u64 d.seed])]) w b3 ([(BK u 32 [SN, SN, SN, SN]), (BK t 32 [SL C l.2.2.1 F, SL J l.2.2.2.1 I, SL Q l.2.2.2.2.1 P, SL G l.2.2.2.2.2 H]), Z, U, V, aa, W] ++ (List.range 10).map (fun i => ([[], [], [], (BK c 110 [SL m d.code n, iv O.2.1, .int .u64 O.2.2]), [], [], [], [], [], []] : List Seg).getD i [])) := cv.pk [0, 1, 2, 3, 4, 5, 6, 300000, 300001, 300002, 7, 300004, 300005, 300006, 300007, 300008, 300009]
   refine GU [(0, pB c 0), (2, pB u 0), (6, pB t 0), (76, iv O.1), (77, .bool (O.1 == 0))] (DL 10 [[],[0],[],[2],[],[],[3,4,5],[],[6,7],[]] [[],[],[],[],[],[],[3],[],[6],[]] [[],[],[],[],[],[],[5],[],[],[]] [[],[],[],[],[],[],[],[],[],[6,8]] (EM 10) (EM 10) (fun i => ([[], [], [], (BK c 110 [SL m d.code n, iv O.2.1, .int .u64 O.2.2]), [], [], [], [], [], []] : List Seg).getD i []) [QV (pB t 0), QV (.slice C l.2.2.1.length F), QV (pB c 0), fun f v s => v = (iv ai.1 : Value) ∧ s = (BK c 110 [SL m d.code n, iv ai.2.1, .int .u64 ai.2.2]), QV (pB c 0), fun f v s => ∃ bg bd, v = (.slice bg [3, 16].length bd : Value) ∧ ownS Gx.encI [3, 16] bg bd s, fun f v s => v = (iv ac.1 : Value) ∧ s = (BK c 110 [SL m d.code n, iv ac.2.1, .int .u64 ac.2.2]), QV (pB c 0), fun f v s => v = (iv ag.1 : Value) ∧ s = (BK c 110 [SL m d.code n, iv ag.2.1, .int .u64 ag.2.2]), QV (.agg #[iv ac.1, iv ag.1])] [3] [1, 5, 8, 9] [5, 8] jo (AC ?_ (AC ?_ (AC ?_ (AC ?_ (AC ?_ (AC ?_ (AC ?_ (AC ?_ (AC ?_ (AC ?_ AN)))))))))) ?_)
   ·intro aj bw R ob jp
    exact OM ⟨rfl, rfl⟩ jp
   ·rintro aj bw v0_ ⟨rfl, _⟩ R oc gw
    exact OV ⟨rfl, rfl⟩ (eL false 1 0 (gw.blk 1 rfl)) gw
   ·intro aj bw R od jq
    exact OM ⟨rfl, rfl⟩ jq
   ·rintro aj bw v2_ ⟨rfl, _⟩ R oe df
    refine WC ((c_s_l1Cur_pick oe (⟨d.code, O.2.1, O.2.2⟩ : l1Cur) m n (X.memX Y df) c 8 (df.hasPick [7]) (df.nodupPick [7] (by kernel_rfl)) (apartX.old X Y df [7]) m4).mono ?_)
    rintro e_ px ⟨rfl, im⟩
    refine ⟨_, rfl, ?_⟩
    exact WN (oE (iv ai.1) (BK c 110 [SL m d.code n, iv ai.2.1, .int .u64 ai.2.2]) ⟨rfl, rfl⟩ (Mem.callMidF df im))
   ·intro aj bw R og jr
    exact OM ⟨rfl, rfl⟩ jr
   ·intro aj bw R py js
    exact wL (E := Gx.encI) [3, 16] 2 [iv 3, iv 16] 3 js fun bg bd ns pz dp jt => WN (oE (SL bg [3, 16] bd) ns ⟨bg, bd, rfl, dp⟩ (Mem.mid jt))
   ·intro aj bw v3_ hb3_
    obtain ⟨rfl, hs3_⟩ := hb3_
    rintro v4_ ⟨rfl, _⟩ v5_ hb5_
    obtain ⟨bg, bd, rfl, dp⟩ := hb5_
    intro R gm ju
    have ds : Mem (idsOf [(BK c 110 [SL m d.code n, iv d.at_, .int .u64 d.seed])]) w gm ([(BK u 32 [SN, SN, SN, SN]), (BK t 32 [SL C l.2.2.1 F, SL J l.2.2.2.1 I, SL Q l.2.2.2.2.1 P, SL G l.2.2.2.2.2 H]), Z, U, V, aa, W] ++ ([[]] ++ ([(aj 3), (aj 5)] ++ ([] ++ R)))) := ju
    rw [hs3_] at ds
    replace ds : Mem (idsOf [(BK c 110 [SL m d.code n, iv d.at_, .int .u64 d.seed])]) w gm ([(BK u 32 [SN, SN, SN, SN]), (BK t 32 [SL C l.2.2.1 F, SL J l.2.2.2.1 I, SL Q l.2.2.2.2.1 P, SL G l.2.2.2.2.2 H]), Z, U, V, aa, W] ++ ([[]] ++ ([(BK c 110 [SL m d.code n, iv ai.2.1, .int .u64 ai.2.2]), (aj 5)] ++ ([] ++ R)))) := ds.permF (by simp)
    have ca := Mem.takeOver ds
    refine WC ((c_s_l1Cur_among gm (⟨d.code, ai.2.1, ai.2.2⟩ : l1Cur) m n (X.memX Y ca) c [3, 16] bg bd (dp.r ca 8) (ca.hasPick [7]) (ca.nodupPick [7] (by kernel_rfl)) (apartX.old X Y ca [7]) (apartX.own dp ca 8 (by kernel_rfl) [7] (by kernel_rfl)) m5).mono ?_)
    rintro e_ p0 ⟨rfl, io⟩
    refine ⟨_, rfl, ?_⟩
    exact WN (oE (iv ac.1) (BK c 110 [SL m d.code n, iv ac.2.1, .int .u64 ac.2.2]) ⟨rfl, rfl⟩ (Mem.callMidF ca io))
   ·intro aj bw R oh jv
    exact OM ⟨rfl, rfl⟩ jv
   ·intro aj bw v6_ hb6_
    obtain ⟨rfl, hs6_⟩ := hb6_
    rintro v7_ ⟨rfl, _⟩ R gn jw
    have dt : Mem (idsOf [(BK c 110 [SL m d.code n, iv d.at_, .int .u64 d.seed])]) w gn ([(BK u 32 [SN, SN, SN, SN]), (BK t 32 [SL C l.2.2.1 F, SL J l.2.2.2.1 I, SL Q l.2.2.2.2.1 P, SL G l.2.2.2.2.2 H]), Z, U, V, aa, W] ++ ([[]] ++ ([(aj 6)] ++ ([] ++ R)))) := jw
    rw [hs6_] at dt
    replace dt : Mem (idsOf [(BK c 110 [SL m d.code n, iv d.at_, .int .u64 d.seed])]) w gn ([(BK u 32 [SN, SN, SN, SN]), (BK t 32 [SL C l.2.2.1 F, SL J l.2.2.2.1 I, SL Q l.2.2.2.2.1 P, SL G l.2.2.2.2.2 H]), Z, U, V, aa, W] ++ ([[]] ++ ([(BK c 110 [SL m d.code n, iv ac.2.1, .int .u64 ac.2.2])] ++ ([] ++ R)))) := dt.permF (by simp)
    have dg := Mem.takeOver dt
    refine WC ((c_s_l1Cur_pick gn (⟨d.code, ac.2.1, ac.2.2⟩ : l1Cur) m n (X.memX Y dg) c 3 (dg.hasPick [7]) (dg.nodupPick [7] (by kernel_rfl)) (apartX.old X Y dg [7]) m6).mono ?_)
    rintro e_ p1 ⟨rfl, ip⟩
    refine ⟨_, rfl, ?_⟩
    exact WN (oE (iv ag.1) (BK c 110 [SL m d.code n, iv ag.2.1, .int .u64 ag.2.2]) ⟨rfl, rfl⟩ (Mem.callMidF dg ip))
   ·intro aj bw v6_ hb6_
    obtain ⟨_, rfl, _⟩ := hb6_
    intro v8_ hb8_
    obtain ⟨_, rfl, _⟩ := hb8_
    intro R oi jx
    exact OM ⟨rfl, rfl⟩ jx
   intro aj bw v3_ hb3_
   obtain ⟨_, rfl, _⟩ := hb3_
   rintro v1_ ⟨rfl, _⟩ v5_ hb5_
   obtain ⟨bg, bd, rfl, dp⟩ := hb5_
   intro v8_ hb8_
   obtain ⟨rfl, hs8_⟩ := hb8_
   rintro v9_ ⟨rfl, _⟩ h6 jy
   have fk : Mem (idsOf [(BK c 110 [SL m d.code n, iv d.at_, .int .u64 d.seed])]) w h6 [(BK u 32 [SN, SN, SN, SN]), (BK t 32 [SL C l.2.2.1 F, SL J l.2.2.2.1 I, SL Q l.2.2.2.2.1 P, SL G l.2.2.2.2.2 H]), Z, U, V, aa, W, (aj 5), (aj 8)] := jy
   rw [hs8_] at fk
   refine GD hm fun ox he hm => wV (elemP C (ai.1.toNat * 2)) h6 (eI (f0.r fk 2) rfl he) (wE true 2 ai.1.toNat 0 (ai.1.toNat * 2) ox (⟨ac.1, ag.1⟩ : Route) (.agg #[iv ac.1, iv ag.1]) 2 fk f0 (gxIdx_spec he).2 fun oj hs mb jz => LX 80 C F l.2.2.1 ai.1.toNat (⟨ac.1, ag.1⟩ : Route) ?_)
   have j0 : Mem (idsOf [(BK c 110 [.slice m d.code.length n, iv d.at_, .int .u64 d.seed])]) w oj [(BK u 32 [.slice none 0 0, .slice none 0 0, .slice none 0 0, .slice none 0 0]), (BK t 32 [.slice C (l.2.2.1.set ai.1.toNat (⟨ac.1, ag.1⟩ : Route)).length F, .slice J l.2.2.2.1.length I, .slice Q l.2.2.2.2.1.length P, .slice G l.2.2.2.2.2.length H]), hs, U, V, aa, W, (aj 5), (BK c 110 [.slice m d.code.length n, iv ag.2.1, .int .u64 ag.2.2])] := by rw [@List.length_set _ l.2.2.1 ai.1.toNat (⟨ac.1, ag.1⟩ : Route)]; exact jz
   refine WN ?_
   obtain rfl := HS hm
   exact NM fun a ha => ⟨Q, P, V, G, H, aa, W, hs, aa, W, f1, b5, mb, b5, j0.pk [0, 1, 3, 8, 4, 5, 6, 2], ha.s⟩
  refine gF fu (QA (wR 2 [(0, pB c 0), (2, pB u 0), (6, pB t 0), (76, iv O.1), (90, .bool (O.1 == 1))] b3 (NO (GD hm fun cl mc la => G_meet (fun a w' => ∃ el d3 e9 em d4 fa fb gd ge, ownS Gx.encB cl.2.2.1 el d3 e9 ∧ ownD deepInterface cl.2.2.2.1 em d4 fa fb ∧ ownD deepInterface cl.2.2.2.2 G H gd ge ∧ Mem (idsOf [(BK c 110 [SL m d.code n, iv d.at_, .int .u64 d.seed])]) w w' [(BK u 32 [SN, SN, SN, SN]), (BK t 32 [SL C l.2.2.1 F, SL J l.2.2.2.1 I, SL el cl.2.2.1 d3, SL em cl.2.2.2.1 d4]), Z, U, (BK c 110 [SL m d.code n, iv cl.1, .int .u64 cl.2.1]), e9, fa, fb] ∧ Sat Tryz.f92.ntmps [(2, pB u 0), (6, pB t 0)] a) ?_ ?_))))
  ·have hm := mc
   refine GT hm (fun fv hm => ?_) fun fv hm => ?_
   ·refine GR (MW 1 (wV (SL Q l.2.2.2.2.1 P) b3 (eL false 1 2 (cv.blk 1 rfl)) (wL (E := Gx.encB) [false] 1 [.bool false] 4 cv fun pj pe pn p2 mg gx => GD hm fun fl k3 hm => wA 1 [.bool false] 4 gx f1 (mg.r gx 8) k3 fun en d5 nt ok mh j1 => MW 1 (wS false 1 2 (SL en fl d5) 1 [SL C l.2.2.1 F, SL J l.2.2.2.1 I, SL en fl d5, SL G l.2.2.2.2.2 H] j1 rfl fun p3 j2 => WN ?_))))
    obtain rfl := HS hm
    exact NM fun a ha => ⟨en, d5, nt, G, H, aa, W, aa, W, mh, b5, b5, j2.pk [0, 1, 2, 3, 7, 4, 5, 6], ha.s⟩
   refine QA (MW 2 (NO (GD hm fun dq mi lb => G_meet (fun a w' => ∃ eo d6 fc fd gf gg, ownD deepInterface dq.2.2.1 eo d6 fc fd ∧ ownD deepInterface dq.2.2.2 G H gf gg ∧ Mem (idsOf [(BK c 110 [SL m d.code n, iv d.at_, .int .u64 d.seed])]) w w' [(BK u 32 [SN, SN, SN, SN]), (BK t 32 [SL C l.2.2.1 F, SL J l.2.2.2.1 I, SL Q l.2.2.2.2.1 P, SL eo dq.2.2.1 d6]), Z, U, V, (BK c 110 [SL m d.code n, iv dq.1, .int .u64 dq.2.1]), fc, fd] ∧ Sat Tryz.f92.ntmps [(2, pB u 0), (6, pB t 0)] a) ?_ ?_)))
   ·have hm := mi
    rcases gx_bif hm with ⟨fw, hm⟩ | ⟨fw, hm⟩
    ·refine gT fw (GD hm fun y m7 hm => ?_)
     have j3 : Mem (idsOf [(BK c 110 [SL m d.code n, iv d.at_, .int .u64 d.seed])]) w b3 ([(BK u 32 [SN, SN, SN, SN]), (BK t 32 [SL C l.2.2.1 F, SL J l.2.2.2.1 I, SL Q l.2.2.2.2.1 P, SL G l.2.2.2.2.2 H]), Z, U, V, aa, W] ++ (List.range 4).map (fun i => ([[], [], [], (BK c 110 [SL m d.code n, iv O.2.1, .int .u64 O.2.2])] : List Seg).getD i [])) := cv.pk [0, 1, 2, 3, 4, 5, 6, 300000, 300001, 300002, 7]
     refine GU [(0, pB c 0), (2, pB u 0), (6, pB t 0), (76, iv O.1), (97, .bool (O.1 == 2))] (DL 4 [[],[0],[],[2]] (EM 4) (EM 4) (EM 4) (EM 4) (EM 4) (fun i => ([[], [], [], (BK c 110 [SL m d.code n, iv O.2.1, .int .u64 O.2.2])] : List Seg).getD i []) [QV (pB t 3), QV (.slice G l.2.2.2.2.2.length H), QV (pB c 0), fun f v s => ∃ a5 a0 am a6 a3 an a7 a4 ao, v = (.agg #[iv y.1.Mask, SL a5 y.1.Stack a0, SL a6 y.1.Queue.Slots a3, SL a7 y.1.Queue.Waiting a4] : Value) ∧ s = ((BK c 110 [SL m d.code n, iv y.2.1, .int .u64 y.2.2]) ++ (am ++ (an ++ ao))) ∧ ownS Gx.encI y.1.Stack a5 a0 am ∧ ownS encSlot y.1.Queue.Slots a6 a3 an ∧ ownS encWaiter y.1.Queue.Waiting a7 a4 ao] [] [1, 3] [3] j3 (AC ?_ (AC ?_ (AC ?_ (AC ?_ AN)))) ?_)
     ·intro dn d9 R ol j4
      exact OM ⟨rfl, rfl⟩ j4
     ·rintro dn d9 v0_ ⟨rfl, _⟩ R om gy
      exact OV ⟨rfl, rfl⟩ (eL false 1 3 (gy.blk 1 rfl)) gy
     ·intro dn d9 R on j5
      exact OM ⟨rfl, rfl⟩ j5
     ·rintro dn d9 v2_ ⟨rfl, _⟩ R oo dh
      refine WC ((c_s_l1Cur_iface oo (⟨d.code, O.2.1, O.2.2⟩ : l1Cur) m n (X.memX Y dh) c (dh.hasPick [7]) (dh.nodupPick [7] (by kernel_rfl)) (apartX.old X Y dh [7]) m7).mono ?_)
      rintro e_ p4 ⟨a5, a0, am, a6, a3, an, a7, a4, ao, rfl, f2, f3, f4, iq⟩
      refine ⟨_, rfl, ?_⟩
      exact WN (oE (.agg #[iv y.1.Mask, SL a5 y.1.Stack a0, SL a6 y.1.Queue.Slots a3, SL a7 y.1.Queue.Waiting a4]) ((BK c 110 [SL m d.code n, iv y.2.1, .int .u64 y.2.2]) ++ (am ++ (an ++ ao))) ⟨a5, a0, am, a6, a3, an, a7, a4, ao, rfl, rfl, f2, f3, f4⟩ (Mem.callMidF dh (iq.permF (by simp))))
     rintro dn d9 v1_ ⟨rfl, _⟩ v3_ hb3_
     obtain ⟨a5, a0, am, a6, a3, an, a7, a4, ao, rfl, hs3_, f2, f3, f4⟩ := hb3_
     intro go j6
     have di : Mem (idsOf [(BK c 110 [SL m d.code n, iv d.at_, .int .u64 d.seed])]) w go [(BK u 32 [SN, SN, SN, SN]), (BK t 32 [SL C l.2.2.1 F, SL J l.2.2.2.1 I, SL Q l.2.2.2.2.1 P, SL G l.2.2.2.2.2 H]), Z, U, V, aa, W, (BK c 110 [SL m d.code n, iv y.2.1, .int .u64 y.2.2]), am, an, ao] := j6.permF (by simp [hs3_, SL])
     refine GD hm fun oy nf hm => ?_
     obtain ⟨qf, eb, hb, k5⟩ := id b5
     obtain ⟨kp, ea⟩ := gxIdx_fst eb nf
     refine wV (elemP G ((0 : Int).toNat * 4)) go (eI (hb.r di 5) (len_fst eb) ea) ?_
     obtain ⟨cr, ni, ct, na, pf, ms⟩ := k5.lens (gxIdx_spec ea).2
     have j7 := di.cut 6 (sa := cr) (sb := ni) (sc := ct) na (by kernel_rfl)
     refine wE true 4 (0 : Int).toNat 0 ((0 : Int).toNat * 4) (oy, kp) (y.1, (plOf [(a5, a0), (a6, a3), (a7, a4)])) (.agg #[iv y.1.Mask, SL a5 y.1.Stack a0, SL a6 y.1.Queue.Slots a3, SL a7 y.1.Queue.Waiting a4]) 5 j7 hb (gxIdx_spec ea).2 ?_
     intro gp c8 ml j8
     have j9 : Mem (idsOf [(BK c 110 [SL m d.code n, iv d.at_, .int .u64 d.seed])]) w gp [(BK u 32 [SN, SN, SN, SN]), (BK t 32 [SL C l.2.2.1 F, SL J l.2.2.2.1 I, SL Q l.2.2.2.2.1 P, SL G l.2.2.2.2.2 H]), Z, U, V, c8, (BK c 110 [SL m d.code n, iv y.2.1, .int .u64 y.2.2]), cr, am, an, ao, ct] := j8.pk [0, 1, 2, 3, 4, 5, 7, 6, 8, 9, 10, 12]
     have ka : Mem (idsOf [(BK c 110 [SL m d.code n, iv d.at_, .int .u64 d.seed])]) w gp [(BK u 32 [SN, SN, SN, SN]), (BK t 32 [SL C l.2.2.1 F, SL J l.2.2.2.1 I, SL Q l.2.2.2.2.1 P, SL G l.2.2.2.2.2 H]), Z, U, V, c8, (BK c 110 [SL m d.code n, iv y.2.1, .int .u64 y.2.2]), (cr ++ ((am ++ (an ++ (ao ++ []))) ++ ct))] := j9.regroup (by simp)
     have g9 : ownD deepInterface (l.2.2.2.2.2.set (0 : Int).toNat y.1) G H c8 (cr ++ ((am ++ (an ++ (ao ++ []))) ++ ct)) := ⟨_, set_fst eb (0 : Int).toNat (y.1, (plOf [(a5, a0), (a6, a3), (a7, a4)])), ml, (ms (y.1, (plOf [(a5, a0), (a6, a3), (a7, a4)])) _ (ownI_cons (i := ⟨Int, Gx.encI, _, _, _⟩) f2 (ownI_cons (i := ⟨Slot, encSlot, _, _, _⟩) f3 (ownI_cons (i := ⟨Waiter, encWaiter, _, _, _⟩) f4 ownI_nil))))⟩
     have ph := gxIdx_put y.1 (gxIdx_down eb ea)
     refine LX 100 G H l.2.2.2.2.2 ((0 : Int).toNat) y.1 ?_
     have kb : Mem (idsOf [(BK c 110 [.slice m d.code.length n, iv d.at_, .int .u64 d.seed])]) w gp [(BK u 32 [.slice none 0 0, .slice none 0 0, .slice none 0 0, .slice none 0 0]), (BK t 32 [.slice C l.2.2.1.length F, .slice J l.2.2.2.1.length I, .slice Q l.2.2.2.2.1.length P, .slice G (l.2.2.2.2.2.set (0 : Int).toNat y.1).length H]), Z, U, V, c8, (BK c 110 [.slice m d.code.length n, iv y.2.1, .int .u64 y.2.2]), (cr ++ ((am ++ (an ++ (ao ++ []))) ++ ct))] := by rw [@List.length_set _ l.2.2.2.2.2 ((0 : Int).toNat) y.1]; exact ka
     refine WN ?_
     obtain rfl := HS hm
     exact NM fun a ha => ⟨G, H, c8, (cr ++ ((am ++ (an ++ (ao ++ []))) ++ ct)), c8, (cr ++ ((am ++ (an ++ (ao ++ []))) ++ ct)), g9, g9, kb.pk [0, 1, 2, 3, 4, 6, 5, 7], ha.s⟩
    refine gF fw (QA (MW 2 (NO (GD hm fun ec mm lc => G_meet (fun a w' => ∃ ep d7 fe ff, ownD deepInterface ec.2.2 ep d7 fe ff ∧ Mem (idsOf [(BK c 110 [SL m d.code n, iv d.at_, .int .u64 d.seed])]) w w' [(BK u 32 [SN, SN, SN, SN]), (BK t 32 [SL C l.2.2.1 F, SL J l.2.2.2.1 I, SL Q l.2.2.2.2.1 P, SL ep ec.2.2 d7]), Z, U, V, (BK c 110 [SL m d.code n, iv ec.1, .int .u64 ec.2.1]), fe, ff] ∧ Sat Tryz.f92.ntmps [(2, pB u 0), (6, pB t 0)] a) ?_ ?_))))
    ·have hm := mm
     rcases gx_bif hm with ⟨fx, hm⟩ | ⟨fx, hm⟩
     ·refine gT fx (GD hm fun z m8 hm => ?_)
      have kc : Mem (idsOf [(BK c 110 [SL m d.code n, iv d.at_, .int .u64 d.seed])]) w b3 ([(BK u 32 [SN, SN, SN, SN]), (BK t 32 [SL C l.2.2.1 F, SL J l.2.2.2.1 I, SL Q l.2.2.2.2.1 P, SL G l.2.2.2.2.2 H]), Z, U, V, aa, W] ++ (List.range 5).map (fun i => ([[], [], [], (BK c 110 [SL m d.code n, iv O.2.1, .int .u64 O.2.2]), []] : List Seg).getD i [])) := cv.pk [0, 1, 2, 3, 4, 5, 6, 300000, 300001, 300002, 7, 300004]
      refine GU [(0, pB c 0), (2, pB u 0), (6, pB t 0), (104, .bool (O.1 == 3))] (DL 5 [[],[0],[],[2],[3]] [[],[],[],[],[3]] (EM 5) (EM 5) (EM 5) (EM 5) (fun i => ([[], [], [], (BK c 110 [SL m d.code n, iv O.2.1, .int .u64 O.2.2]), []] : List Seg).getD i []) [QV (pB t 3), QV (.slice G l.2.2.2.2.2.length H), QV (pB c 0), fun f v s => ∃ br bl a8 bs bm a9 bt bn ba, v = (.agg #[iv z.1.Mask, SL br z.1.Stack bl, SL bs z.1.Queue.Slots bm, SL bt z.1.Queue.Waiting bn] : Value) ∧ s = ((BK c 110 [SL m d.code n, iv z.2.1, .int .u64 z.2.2]) ++ (a8 ++ (a9 ++ ba))) ∧ ownS Gx.encI z.1.Stack br bl a8 ∧ ownS encSlot z.1.Queue.Slots bs bm a9 ∧ ownS encWaiter z.1.Queue.Waiting bt bn ba, fun f v s => ∃ bx bv bh bu, v = (.slice bx [z.1].length bv : Value) ∧ s = (bh ++ ((BK c 110 [SL m d.code n, iv z.2.1, .int .u64 z.2.2]) ++ bu)) ∧ ownD deepInterface [z.1] bx bv bh bu] [] [1, 4] [4] kc (AC ?_ (AC ?_ (AC ?_ (AC ?_ (AC ?_ AN))))) ?_)
      ·intro cg dm R op kd
       exact OM ⟨rfl, rfl⟩ kd
      ·rintro cg dm v0_ ⟨rfl, _⟩ R oq gz
       exact OV ⟨rfl, rfl⟩ (eL false 1 3 (gz.blk 1 rfl)) gz
      ·intro cg dm R os ke
       exact OM ⟨rfl, rfl⟩ ke
      ·rintro cg dm v2_ ⟨rfl, _⟩ R ot dj
       refine WC ((c_s_l1Cur_iface ot (⟨d.code, O.2.1, O.2.2⟩ : l1Cur) m n (X.memX Y dj) c (dj.hasPick [7]) (dj.nodupPick [7] (by kernel_rfl)) (apartX.old X Y dj [7]) m8).mono ?_)
       rintro e_ p5 ⟨br, bl, a8, bs, bm, a9, bt, bn, ba, rfl, f5, f6, f7, ir⟩
       refine ⟨_, rfl, ?_⟩
       exact WN (oE (.agg #[iv z.1.Mask, SL br z.1.Stack bl, SL bs z.1.Queue.Slots bm, SL bt z.1.Queue.Waiting bn]) ((BK c 110 [SL m d.code n, iv z.2.1, .int .u64 z.2.2]) ++ (a8 ++ (a9 ++ ba))) ⟨br, bl, a8, bs, bm, a9, bt, bn, ba, rfl, rfl, f5, f6, f7⟩ (Mem.callMidF dj (ir.permF (by simp))))
      ·intro cg dm v3_ hb3_
       obtain ⟨br, bl, a8, bs, bm, a9, bt, bn, ba, rfl, hs3_, f5, f6, f7⟩ := hb3_
       intro R h7 kf
       have du : Mem (idsOf [(BK c 110 [SL m d.code n, iv d.at_, .int .u64 d.seed])]) w h7 ([(BK u 32 [SN, SN, SN, SN]), (BK t 32 [SL C l.2.2.1 F, SL J l.2.2.2.1 I, SL Q l.2.2.2.2.1 P, SL G l.2.2.2.2.2 H]), Z, U, V, aa, W] ++ ([[]] ++ ([(cg 3)] ++ ([] ++ R)))) := kf
       rw [hs3_] at du
       replace du : Mem (idsOf [(BK c 110 [SL m d.code n, iv d.at_, .int .u64 d.seed])]) w h7 ([(BK u 32 [SN, SN, SN, SN]), (BK t 32 [SL C l.2.2.1 F, SL J l.2.2.2.1 I, SL Q l.2.2.2.2.1 P, SL G l.2.2.2.2.2 H]), Z, U, V, aa, W] ++ ([[]] ++ ([(BK c 110 [SL m d.code n, iv z.2.1, .int .u64 z.2.2]), a8, a9, ba] ++ ([] ++ R)))) := du.permF (by simp)
       exact W_litD (D := deepInterface) [(z.1, plOf [(br, bl), (bs, bm), (bt, bn)])] [z.1] rfl 1 [iv z.1.Mask, SL br z.1.Stack bl, SL bs z.1.Queue.Slots bm, SL bt z.1.Queue.Waiting bn] 87 du (by kernel_rfl) (by kernel_rfl) (by kernel_rfl) (by kernel_rfl) (by kernel_rfl) (ownI_cons (i := ⟨Int, Gx.encI, _, _, _⟩) f5 (ownI_cons (i := ⟨Slot, encSlot, _, _, _⟩) f6 (ownI_cons (i := ⟨Waiter, encWaiter, _, _, _⟩) f7 ownI_nil))) fun bx bv bh p6 f8 kg => WN (oE (SL bx [z.1] bv) (bh ++ ((BK c 110 [SL m d.code n, iv z.2.1, .int .u64 z.2.2]) ++ (a8 ++ (a9 ++ (ba ++ []))))) ⟨bx, bv, bh, (a8 ++ (a9 ++ (ba ++ []))), rfl, rfl, f8⟩ (Mem.midJ (A := [(BK c 110 [SL m d.code n, iv z.2.1, .int .u64 z.2.2]), a8, a9, ba]) kg))
      rintro cg dm v1_ ⟨rfl, _⟩ v4_ hb4_
      obtain ⟨bx, bv, bh, bu, rfl, hs4_, f8⟩ := hb4_
      intro h8 kh
      have dk : Mem (idsOf [(BK c 110 [SL m d.code n, iv d.at_, .int .u64 d.seed])]) w h8 [(BK u 32 [SN, SN, SN, SN]), (BK t 32 [SL C l.2.2.1 F, SL J l.2.2.2.1 I, SL Q l.2.2.2.2.1 P, SL G l.2.2.2.2.2 H]), Z, U, V, aa, W, bh, (BK c 110 [SL m d.code n, iv z.2.1, .int .u64 z.2.2]), bu] := kh.permF (by simp [hs4_, SL])
      refine GD hm fun fm k4 hm => ?_
      obtain ⟨oz, ng, m9, k6⟩ := id f8
      refine W_appendD (D := deepInterface) (us := oz) (s2 := bu) _ _ _ 80 [iv 0, SN, SN, SN] 5 bv dk b5 (by kernel_rfl) (by kernel_rfl) (by kernel_rfl) rfl (by kernel_rfl) (by kernel_rfl) (by kernel_rfl) (by kernel_rfl) (by kernel_rfl) (by kernel_rfl) (m9.r dk 7) ng k6 k4 ?_
      intro er d8 gh gq mo ki
      have kj : Mem (idsOf [(BK c 110 [SL m d.code n, iv d.at_, .int .u64 d.seed])]) w gq [(BK u 32 [SN, SN, SN, SN]), (BK t 32 [SL C l.2.2.1 F, SL J l.2.2.2.1 I, SL Q l.2.2.2.2.1 P, SL G l.2.2.2.2.2 H]), Z, U, V, gh, bh, (BK c 110 [SL m d.code n, iv z.2.1, .int .u64 z.2.2]), W, bu] := ki.pk [0, 1, 2, 3, 4, 5, 7, 8, 6, 9]
      have kk : Mem (idsOf [(BK c 110 [SL m d.code n, iv d.at_, .int .u64 d.seed])]) w gq [(BK u 32 [SN, SN, SN, SN]), (BK t 32 [SL C l.2.2.1 F, SL J l.2.2.2.1 I, SL Q l.2.2.2.2.1 P, SL G l.2.2.2.2.2 H]), Z, U, V, gh, bh, (BK c 110 [SL m d.code n, iv z.2.1, .int .u64 z.2.2]), (W ++ bu)] := kj.regroup (by simp)
      refine MW 1 (wS false 1 3 (SL er fm d8) 1 [SL C l.2.2.1 F, SL J l.2.2.2.1 I, SL Q l.2.2.2.2.1 P, SL er fm d8] kk rfl fun p7 kl => WN ?_)
      obtain rfl := HS hm
      exact NM fun a ha => ⟨er, d8, gh, (W ++ bu), mo, kl.pk [0, 1, 2, 3, 4, 7, 5, 8], ha.s⟩
     refine gF fx (GK ?_)
     obtain rfl := HS hm
     exact NM fun a ha => ⟨G, H, aa, W, b5, cv.pk [0, 1, 2, 3, 4, 7, 5, 6], ha.s⟩
    intro o8 p8 ⟨ep, d7, fe, ff, mn, km, ky⟩
    refine N_use ky ?_
    have hm := lc
    obtain rfl := HS hm
    exact NM fun a ha => ⟨ep, d7, fe, ff, aa, W, mn, b5, km.pk [0, 1, 2, 3, 4, 5, 6, 7], ha.s⟩
   intro o9 p9 ⟨eo, d6, fc, fd, gf, gg, mj, mk, kn, kz⟩
   refine N_use kz ?_
   have hm := lb
   obtain rfl := HS hm
   exact NM fun a ha => ⟨Q, P, V, eo, d6, fc, fd, gf, gg, f1, mj, mk, kn.pk [0, 1, 2, 3, 5, 4, 6, 7], ha.s⟩
  intro pa qa ⟨el, d3, e9, em, d4, fa, fb, gd, ge, md, me, mf, ko, k0⟩
  refine N_use k0 ?_
  have hm := la
  obtain rfl := HS hm
  exact NM fun a ha => ⟨el, d3, e9, em, d4, fa, fb, Z, gd, ge, md, me, f0, mf, ko.pk [0, 1, 3, 4, 5, 6, 7, 2], ha.s⟩
 intro pb ou ⟨bp, bj, e5, bq, bk, e6, e7, e8, hq, hr, l8, l9, ma, pg, g0, k1⟩
 refine N_use k1 ?_
 have hm := k9
 refine BN (NF (wV (.agg #[SL C L.2.2.2.2.1 F, SL J l.2.2.2.1 I, SL bp L.2.2.1 bj, SL bq L.2.2.2.1 bk]) ou (eL true 4 0 (g0.blk 1 rfl)) (wS true 4 0 (.agg #[SL C L.2.2.2.2.1 F, SL J l.2.2.2.1 I, SL bp L.2.2.1 bj, SL bq L.2.2.2.1 bk]) 0 [SL C L.2.2.2.2.1 F, SL J l.2.2.2.1 I, SL bp L.2.2.1 bj, SL bq L.2.2.2.1 bk] g0 rfl fun qb g1 => NC ?_)))
 obtain rfl := HS hm
 exact N_ret [.agg #[SL C L.2.2.2.2.1 F, SL J l.2.2.2.1 I, SL bp L.2.2.1 bj, SL bq L.2.2.2.1 bk]] (RX true 4 0 (g1.blk 0 rfl) RVs_nil) (⟨C, F, e8, J, I, U, bp, bj, e5, bq, bk, e6, e7, rfl, ma, ls, l8, l9, g1.pk [3, 7, 2, 4, 5, 6]⟩)
theorem c_l_vRoutes (w : World) (c : List Route) (f h) (t : rdS encRoute w c f h) (d : List Route) (g i) (u : rdS encRoute w d g i) {r : Bool} (hm : M.l_vRoutes c d = some r) :
  Calls Tryz.prog 94 #[SL f c h, SL g d i] w fun e w' => e = .returned (.bool r) ∧ Mem [] w w' [] := by
 unfold M.l_vRoutes at hm
 refine cE Tryz.func94 ?_
 have M0 := Mem.refl [] w
 refine QA (MW 1 (NB (MW 5 (NO (GT hm (fun l hm => ?_) fun l hm => ?_)))))
 ·refine QA (MW 1 (ND ?_))
  obtain rfl := HS hm
  exact RA [.bool false] (⟨rfl, M0.pk []⟩)
 refine KB (MW 1 (NO (GD hm fun G F v => G_meet (fun a w' => ∃ (A : Unit), G = .inl A ∧ Mem [] w w' [] ∧ Sat Tryz.f94.ntmps [] a) ?_ ?_)))
 ·refine GB (G_while (σ := Int) (ρ := (Unit) ⊕ (Bool)) (fun b a w' => Mem [] w w' [] ∧ Sat Tryz.f94.ntmps [(0, SL f c h), (1, SL g d i), (5, iv b)] a) F (fun a ha => ⟨M0.pk [], ha.s⟩) ?_)
  clear hm
  intro b L hm x J H ⟨o, D⟩
  refine G_use D (QB (MW 4 (NO (GT hm (fun m hm => ?_) fun m hm => ?_))))
  ·refine GK (TN (GS (GB (GS (G_quiet (by kernel_rfl) (by kernel_rfl) o (MZ 2 (GD hm fun j y hm => zV (elemP f (b.toNat * 2)) (fun w_ M_ => (eI (t.mem0 M_) rfl y)) (zV (.agg #[iv j.Priority, iv j.Target]) (fun w_ M_ => (eE true 2 0 (b.toNat * 2) (t.mem0 M_) y)) (MS 2 [(0, SL f c h), (1, SL g d i), (5, iv b), (20, .agg #[iv j.Priority, iv j.Target]), (21, SL g d i), (22, iv b)] (GD hm fun k z hm => zV (elemP g (b.toNat * 2)) (fun w_ M_ => (eI (u.mem0 M_) rfl z)) (zV (.agg #[iv k.Priority, iv k.Target]) (fun w_ M_ => (eE true 2 0 (b.toNat * 2) (u.mem0 M_) z)) (zV (.bool (!((j.Priority == k.Priority) && ((j.Target == k.Target) && true)))) (fun w_ M_ => (E_neqAgg _ _ _ _ [iv j.Priority, iv j.Target] [iv k.Priority, iv k.Target] ((j.Priority == k.Priority) && ((j.Target == k.Target) && true)) rfl (by kernel_rfl) (by kernel_rfl) (by kernel_rfl) (by kernel_rfl) (by kernel_rfl) (by kernel_rfl))) (Z_end fun B q => (TN (GT hm (fun n hm => ?_) fun n hm => ?_)))))))))))))))
   ·refine QA (MW 1 (NX ?_))
    obtain rfl := HS hm
    obtain rfl := x _ rfl
    have hm := v; simp only [Sum.elim_inr] at hm
    refine BR (N_meet_ret (TR ?_))
    obtain rfl := HS hm
    exact RA [.bool false] (⟨rfl, q.pk []⟩)
   refine KC (MW 3 (WN ?_))
   cases hm
   exact N_loop fun a ha => ⟨_, rfl, q.pk [], ha.s⟩
  refine XA ?_
  obtain rfl := HS hm
  obtain rfl := x _ rfl
  exact NM fun a ha => ⟨_, rfl, o.pk [], ha.s⟩
 intro K I ⟨A, hout_, C, E⟩
 refine N_use E ?_
 subst hout_
 have hm := v; simp only [Sum.elim_inl] at hm
 refine NF (MW 1 (NC ?_))
 obtain rfl := HS hm
 exact RA [.bool true] (⟨rfl, C.pk []⟩)
theorem c_l_vBools (w : World) (c : List Bool) (f h) (t : rdS Gx.encB w c f h) (d : List Bool) (g i) (u : rdS Gx.encB w d g i) {r : Bool} (hm : M.l_vBools c d = some r) :
  Calls Tryz.prog 95 #[SL f c h, SL g d i] w fun e w' => e = .returned (.bool r) ∧ Mem [] w w' [] := by
 unfold M.l_vBools at hm
 refine cE Tryz.func95 ?_
 have M0 := Mem.refl [] w
 refine QA (MW 1 (NB (MW 5 (NO (GT hm (fun k hm => ?_) fun k hm => ?_)))))
 ·refine QA (MW 1 (ND ?_))
  obtain rfl := HS hm
  exact RA [.bool false] (⟨rfl, M0.pk []⟩)
 refine KB (MW 1 (NO (GD hm fun G F v => G_meet (fun a w' => ∃ (A : Unit), G = .inl A ∧ Mem [] w w' [] ∧ Sat Tryz.f95.ntmps [] a) ?_ ?_)))
 ·refine GB (G_while (σ := Int) (ρ := (Unit) ⊕ (Bool)) (fun b a w' => Mem [] w w' [] ∧ Sat Tryz.f95.ntmps [(0, SL f c h), (1, SL g d i), (5, iv b)] a) F (fun a ha => ⟨M0.pk [], ha.s⟩) ?_)
  clear hm
  intro b L hm x J H ⟨o, D⟩
  refine G_use D (QB (MW 4 (NO (GT hm (fun l hm => ?_) fun l hm => ?_))))
  ·refine GK (TN (GS (GB (GS (G_quiet (by kernel_rfl) (by kernel_rfl) o (MZ 2 (GD hm fun j y hm => zV (elemP f (b.toNat * 1)) (fun w_ M_ => (eI (t.mem0 M_) rfl y)) (zV (.bool j) (fun w_ M_ => (eE false 1 0 (b.toNat * 1) (t.mem0 M_) y)) (MZ 2 (GD hm fun n z hm => zV (elemP g (b.toNat * 1)) (fun w_ M_ => (eI (u.mem0 M_) rfl z)) (zV (.bool n) (fun w_ M_ => (eE false 1 0 (b.toNat * 1) (u.mem0 M_) z)) (MS 1 [(0, SL f c h), (1, SL g d i), (5, iv b), (25, .bool (!(j == n)))] (Z_end fun B q => (TN (GT hm (fun m hm => ?_) fun m hm => ?_)))))))))))))))
   ·refine QA (MW 1 (NX ?_))
    obtain rfl := HS hm
    obtain rfl := x _ rfl
    have hm := v; simp only [Sum.elim_inr] at hm
    refine BR (N_meet_ret (TR ?_))
    obtain rfl := HS hm
    exact RA [.bool false] (⟨rfl, q.pk []⟩)
   refine KC (MW 3 (WN ?_))
   cases hm
   exact N_loop fun a ha => ⟨_, rfl, q.pk [], ha.s⟩
  refine XA ?_
  obtain rfl := HS hm
  obtain rfl := x _ rfl
  exact NM fun a ha => ⟨_, rfl, o.pk [], ha.s⟩
 intro K I ⟨A, hout_, C, E⟩
 refine N_use E ?_
 subst hout_
 have hm := v; simp only [Sum.elim_inl] at hm
 refine NF (MW 1 (NC ?_))
 obtain rfl := HS hm
 exact RA [.bool true] (⟨rfl, C.pk []⟩)
theorem c_l_vInts (w : World) (c : List Int) (f h) (t : rdS Gx.encI w c f h) (d : List Int) (g i) (u : rdS Gx.encI w d g i) {r : Bool} (hm : M.l_vInts c d = some r) :
  Calls Tryz.prog 42 #[SL f c h, SL g d i] w fun e w' => e = .returned (.bool r) ∧ Mem [] w w' [] := by
 unfold M.l_vInts at hm
 refine cE Tryz.func42 ?_
 have M0 := Mem.refl [] w
 refine QA (MW 1 (NB (MW 5 (NO (GT hm (fun k hm => ?_) fun k hm => ?_)))))
 ·refine QA (MW 1 (ND ?_))
  obtain rfl := HS hm
  exact RA [.bool false] (⟨rfl, M0.pk []⟩)
 refine KB (MW 1 (NO (GD hm fun G F v => G_meet (fun a w' => ∃ (A : Unit), G = .inl A ∧ Mem [] w w' [] ∧ Sat Tryz.f42.ntmps [] a) ?_ ?_)))
 ·refine GB (G_while (σ := Int) (ρ := (Unit) ⊕ (Bool)) (fun b a w' => Mem [] w w' [] ∧ Sat Tryz.f42.ntmps [(0, SL f c h), (1, SL g d i), (5, iv b)] a) F (fun a ha => ⟨M0.pk [], ha.s⟩) ?_)
  clear hm
  intro b L hm x J H ⟨o, D⟩
  refine G_use D (QB (MW 4 (NO (GT hm (fun l hm => ?_) fun l hm => ?_))))
  ·refine GK (TN (GS (GB (GS (G_quiet (by kernel_rfl) (by kernel_rfl) o (MZ 2 (GD hm fun j y hm => zV (elemP f (b.toNat * 1)) (fun w_ M_ => (eI (t.mem0 M_) rfl y)) (zV (iv j) (fun w_ M_ => (eE false 1 0 (b.toNat * 1) (t.mem0 M_) y)) (MZ 2 (GD hm fun n z hm => zV (elemP g (b.toNat * 1)) (fun w_ M_ => (eI (u.mem0 M_) rfl z)) (zV (iv n) (fun w_ M_ => (eE false 1 0 (b.toNat * 1) (u.mem0 M_) z)) (MS 1 [(0, SL f c h), (1, SL g d i), (5, iv b), (25, .bool (j != n))] (Z_end fun B q => (TN (GT hm (fun m hm => ?_) fun m hm => ?_)))))))))))))))
   ·refine QA (MW 1 (NX ?_))
    obtain rfl := HS hm
    obtain rfl := x _ rfl
    have hm := v; simp only [Sum.elim_inr] at hm
    refine BR (N_meet_ret (TR ?_))
    obtain rfl := HS hm
    exact RA [.bool false] (⟨rfl, q.pk []⟩)
   refine KC (MW 3 (WN ?_))
   cases hm
   exact N_loop fun a ha => ⟨_, rfl, q.pk [], ha.s⟩
  refine XA ?_
  obtain rfl := HS hm
  obtain rfl := x _ rfl
  exact NM fun a ha => ⟨_, rfl, o.pk [], ha.s⟩
 intro K I ⟨A, hout_, C, E⟩
 refine N_use E ?_
 subst hout_
 have hm := v; simp only [Sum.elim_inl] at hm
 refine NF (MW 1 (NC ?_))
 obtain rfl := HS hm
 exact RA [.bool true] (⟨rfl, C.pk []⟩)
end Go.Proofs.YtllhajkgkghhdaaGreat
set_option linter.unusedVariables false
set_option linter.unusedSimpArgs false
set_option maxRecDepth 100000
set_option maxHeartbeats 4000000
namespace Go.Proofs.YtllhajkgkghhdaaGreat
open Go.Gx
theorem c_l_vSlots (w : World) (c : List Slot) (g i) (t : rdS encSlot w c g i) (f : List Slot) (h j) (u : rdS encSlot w f h j) {r : Bool} (hm : M.l_vSlots c f = some r) :
  Calls Tryz.prog 185 #[SL g c i, SL h f j] w fun e w' => e = .returned (.bool r) ∧ Mem [] w w' [] := by
 unfold M.l_vSlots at hm
 refine cE Tryz.func185 ?_
 have M0 := Mem.refl [] w
 refine QA (MW 1 (NB (MW 5 (NO (GT hm (fun l hm => ?_) fun l hm => ?_)))))
 ·refine QA (MW 1 (ND ?_))
  obtain rfl := HS hm
  exact RA [.bool false] (⟨rfl, M0.pk []⟩)
 refine KB (MW 1 (NO (GD hm fun G F v => G_meet (fun a w' => ∃ (A : Unit), G = .inl A ∧ Mem [] w w' [] ∧ Sat Tryz.f185.ntmps [] a) ?_ ?_)))
 ·refine GB (G_while (σ := Int) (ρ := (Unit) ⊕ (Bool)) (fun b a w' => Mem [] w w' [] ∧ Sat Tryz.f185.ntmps [(0, SL g c i), (1, SL h f j), (5, iv b)] a) F (fun a ha => ⟨M0.pk [], ha.s⟩) ?_)
  clear hm
  intro b L hm x J H ⟨o, D⟩
  refine G_use D (QB (MW 4 (NO (GT hm (fun m hm => ?_) fun m hm => ?_))))
  ·refine GK (TN (GS (GB (GS (G_quiet (by kernel_rfl) (by kernel_rfl) o (MZ 2 (GD hm fun d y hm => zV (elemP g (b.toNat * 3)) (fun w_ M_ => (eI (t.mem0 M_) rfl y)) (zV (.agg #[iv d.State, iv d.Irq, iv d.Priority]) (fun w_ M_ => (eE true 3 0 (b.toNat * 3) (t.mem0 M_) y)) (MS 2 [(0, SL g c i), (1, SL h f j), (5, iv b), (20, .agg #[iv d.State, iv d.Irq, iv d.Priority]), (21, SL h f j), (22, iv b)] (GD hm fun k z hm => zV (elemP h (b.toNat * 3)) (fun w_ M_ => (eI (u.mem0 M_) rfl z)) (zV (.agg #[iv k.State, iv k.Irq, iv k.Priority]) (fun w_ M_ => (eE true 3 0 (b.toNat * 3) (u.mem0 M_) z)) (zV (.bool (!((d.State == k.State) && ((d.Irq == k.Irq) && ((d.Priority == k.Priority) && true))))) (fun w_ M_ => (E_neqAgg _ _ _ _ [iv d.State, iv d.Irq, iv d.Priority] [iv k.State, iv k.Irq, iv k.Priority] ((d.State == k.State) && ((d.Irq == k.Irq) && ((d.Priority == k.Priority) && true))) rfl (by kernel_rfl) (by kernel_rfl) (by kernel_rfl) (by kernel_rfl) (by kernel_rfl) (by kernel_rfl))) (Z_end fun B q => (TN (GT hm (fun n hm => ?_) fun n hm => ?_)))))))))))))))
   ·refine QA (MW 1 (NX ?_))
    obtain rfl := HS hm
    obtain rfl := x _ rfl
    have hm := v; simp only [Sum.elim_inr] at hm
    refine BR (N_meet_ret (TR ?_))
    obtain rfl := HS hm
    exact RA [.bool false] (⟨rfl, q.pk []⟩)
   refine KC (MW 3 (WN ?_))
   cases hm
   exact N_loop fun a ha => ⟨_, rfl, q.pk [], ha.s⟩
  refine XA ?_
  obtain rfl := HS hm
  obtain rfl := x _ rfl
  exact NM fun a ha => ⟨_, rfl, o.pk [], ha.s⟩
 intro K I ⟨A, hout_, C, E⟩
 refine N_use E ?_
 subst hout_
 have hm := v; simp only [Sum.elim_inl] at hm
 refine NF (MW 1 (NC ?_))
 obtain rfl := HS hm
 exact RA [.bool true] (⟨rfl, C.pk []⟩)
theorem c_l_vWaiters (w : World) (c : List Waiter) (f h) (t : rdS encWaiter w c f h) (d : List Waiter) (g i) (u : rdS encWaiter w d g i) {r : Bool} (hm : M.l_vWaiters c d = some r) :
  Calls Tryz.prog 186 #[SL f c h, SL g d i] w fun e w' => e = .returned (.bool r) ∧ Mem [] w w' [] := by
 unfold M.l_vWaiters at hm
 refine cE Tryz.func186 ?_
 have M0 := Mem.refl [] w
 refine QA (MW 1 (NB (MW 5 (NO (GT hm (fun l hm => ?_) fun l hm => ?_)))))
 ·refine QA (MW 1 (ND ?_))
  obtain rfl := HS hm
  exact RA [.bool false] (⟨rfl, M0.pk []⟩)
 refine KB (MW 1 (NO (GD hm fun G F v => G_meet (fun a w' => ∃ (A : Unit), G = .inl A ∧ Mem [] w w' [] ∧ Sat Tryz.f186.ntmps [] a) ?_ ?_)))
 ·refine GB (G_while (σ := Int) (ρ := (Unit) ⊕ (Bool)) (fun b a w' => Mem [] w w' [] ∧ Sat Tryz.f186.ntmps [(0, SL f c h), (1, SL g d i), (5, iv b)] a) F (fun a ha => ⟨M0.pk [], ha.s⟩) ?_)
  clear hm
  intro b L hm x J H ⟨o, D⟩
  refine G_use D (QB (MW 4 (NO (GT hm (fun m hm => ?_) fun m hm => ?_))))
  ·refine GK (TN (GS (GB (GS (G_quiet (by kernel_rfl) (by kernel_rfl) o (MZ 2 (GD hm fun j y hm => zV (elemP f (b.toNat * 2)) (fun w_ M_ => (eI (t.mem0 M_) rfl y)) (zV (.agg #[iv j.Irq, iv j.Priority]) (fun w_ M_ => (eE true 2 0 (b.toNat * 2) (t.mem0 M_) y)) (MS 2 [(0, SL f c h), (1, SL g d i), (5, iv b), (20, .agg #[iv j.Irq, iv j.Priority]), (21, SL g d i), (22, iv b)] (GD hm fun k z hm => zV (elemP g (b.toNat * 2)) (fun w_ M_ => (eI (u.mem0 M_) rfl z)) (zV (.agg #[iv k.Irq, iv k.Priority]) (fun w_ M_ => (eE true 2 0 (b.toNat * 2) (u.mem0 M_) z)) (zV (.bool (!((j.Irq == k.Irq) && ((j.Priority == k.Priority) && true)))) (fun w_ M_ => (E_neqAgg _ _ _ _ [iv j.Irq, iv j.Priority] [iv k.Irq, iv k.Priority] ((j.Irq == k.Irq) && ((j.Priority == k.Priority) && true)) rfl (by kernel_rfl) (by kernel_rfl) (by kernel_rfl) (by kernel_rfl) (by kernel_rfl) (by kernel_rfl))) (Z_end fun B q => (TN (GT hm (fun n hm => ?_) fun n hm => ?_)))))))))))))))
   ·refine QA (MW 1 (NX ?_))
    obtain rfl := HS hm
    obtain rfl := x _ rfl
    have hm := v; simp only [Sum.elim_inr] at hm
    refine BR (N_meet_ret (TR ?_))
    obtain rfl := HS hm
    exact RA [.bool false] (⟨rfl, q.pk []⟩)
   refine KC (MW 3 (WN ?_))
   cases hm
   exact N_loop fun a ha => ⟨_, rfl, q.pk [], ha.s⟩
  refine XA ?_
  obtain rfl := HS hm
  obtain rfl := x _ rfl
  exact NM fun a ha => ⟨_, rfl, o.pk [], ha.s⟩
 intro K I ⟨A, hout_, C, E⟩
 refine N_use E ?_
 subst hout_
 have hm := v; simp only [Sum.elim_inl] at hm
 refine NF (MW 1 (NC ?_))
 obtain rfl := HS hm
 exact RA [.bool true] (⟨rfl, C.pk []⟩)
theorem c_l_vQueue (w : World) (b : Queue) (h f) (D : rdS encSlot w b.Slots h f) (i g) (E : rdS encWaiter w b.Waiting i g) (c : Queue) (o m) (F : rdS encSlot w c.Slots o m) (q n) (G : rdS encWaiter w c.Waiting q n) {r : Bool} (hm : M.l_vQueue b c = some r) :
  Calls Tryz.prog 149 #[.agg #[SL h b.Slots f, SL i b.Waiting g], .agg #[SL o c.Slots m, SL q c.Waiting n]] w fun e w' => e = .returned (.bool r) ∧ Mem [] w w' [] := by
 unfold M.l_vQueue at hm
 refine cE Tryz.func149 ?_
 have M0 := Mem.refl [] w
 refine QA (wN (CE 85 [SL h b.Slots f, SL i b.Waiting g]) M0 fun l R A => wN (CE 85 [SL o c.Slots m, SL q c.Waiting n]) A fun d t u => MW 1 (NE (GD hm fun x J I => G_meet (fun a w' => Mem [] w w' [] ∧ Sat Tryz.f149.ntmps [(4, .bool x)] a) ?_ ?_)))
 ·have hm := J
  refine GR (MW 1 (wV (SL h b.Slots f) t (eL false 1 0 (u.blk 0 rfl)) (MW 1 (wV (SL o c.Slots m) t (eL false 1 0 (u.blk 1 rfl)) (GD hm fun N K hm => WD (c_l_vSlots t b.Slots h f (D.mem0 u) c.Slots o m (F.mem0 u) K) u fun j k => wR 1 [(2, pB l 0), (3, pB d 0), (10, .bool N)] j ?_)))))
  rcases gx_bif hm with ⟨v, hm⟩ | ⟨v, hm⟩
  ·refine wK 10 true v (MW 1 (wV (SL i b.Waiting g) j (eL false 1 1 (k.blk 0 rfl)) (MW 1 (wV (SL q c.Waiting n) j (eL false 1 1 (k.blk 1 rfl)) (GD hm fun O L hm => WD (c_l_vWaiters j b.Waiting i g (E.mem0 k) c.Waiting q n (G.mem0 k) L) k fun P B => MW 2 (WN ?_))))))
   obtain rfl := HS hm
   exact NM fun a ha => ⟨B.pk [], ha.s⟩
  refine wK 10 false v (MW 7 (WN ?_))
  obtain rfl := HS hm
  exact NM fun a ha => ⟨k.pk [], ha.s⟩
 intro Q S ⟨C, H⟩
 refine N_use H ?_
 have hm := I
 refine TN (G_ret ?_)
 obtain rfl := HS hm
 exact RA [.bool x] (⟨rfl, C.pk []⟩)
theorem c_l_vFace (w : World) (b : Interface) (m j) (I : rdS Gx.encI w b.Stack m j) (n k) (J : rdS encSlot w b.Queue.Slots n k) (o l) (K : rdS encWaiter w b.Queue.Waiting o l) (c : Interface) (x t) (L : rdS Gx.encI w c.Stack x t) (y u) (N : rdS encSlot w c.Queue.Slots y u) (z v) (O : rdS encWaiter w c.Queue.Waiting z v) {r : Bool} (hm : M.l_vFace b c = some r) :
  Calls Tryz.prog 96 #[.agg #[iv b.Mask, SL m b.Stack j, SL n b.Queue.Slots k, SL o b.Queue.Waiting l], .agg #[iv c.Mask, SL x c.Stack t, SL y c.Queue.Slots u, SL z c.Queue.Waiting v]] w fun e w' => e = .returned (.bool r) ∧ Mem [] w w' [] := by
 unfold M.l_vFace at hm
 refine cE Tryz.func96 ?_
 have M0 := Mem.refl [] w
 refine QA (wN (CE 87 [iv b.Mask, SL m b.Stack j, SL n b.Queue.Slots k, SL o b.Queue.Waiting l]) M0 fun g Y F => wN (CE 87 [iv c.Mask, SL x c.Stack t, SL y c.Queue.Slots u, SL z c.Queue.Waiting v]) F fun f d h => MW 1 (NE (GD hm fun C R Q => G_meet (fun a w' => Mem [] w w' [] ∧ Sat Tryz.f96.ntmps [(4, .bool C)] a) ?_ ?_)))
 ·have hm := R
  refine GR (MW 1 (wV (iv b.Mask) d (eL false 1 0 (h.blk 0 rfl)) (MW 1 (wV (iv c.Mask) d (eL false 1 0 (h.blk 1 rfl)) (wR 2 [(2, pB g 0), (3, pB f 0), (10, .bool (b.Mask == c.Mask))] d ?_)))))
  rcases gx_bif hm with ⟨A, hm⟩ | ⟨A, hm⟩
  ·refine wK 10 true A (MW 1 (wV (SL m b.Stack j) d (eL false 1 1 (h.blk 0 rfl)) (MW 1 (wV (SL x c.Stack t) d (eL false 1 1 (h.blk 1 rfl)) (GD hm fun U S hm => WD (c_l_vInts d b.Stack m j (I.mem0 h) c.Stack x t (L.mem0 h) S) h fun q i => wR 2 [(2, pB g 0), (3, pB f 0), (17, .bool U)] q ?_)))))
   rcases gx_bif hm with ⟨B, hm⟩ | ⟨B, hm⟩
   ·refine wK 17 true B (MW 1 (wV (.agg #[SL n b.Queue.Slots k, SL o b.Queue.Waiting l]) q (eL true 2 2 (i.blk 0 rfl)) (MW 1 (wV (.agg #[SL y c.Queue.Slots u, SL z c.Queue.Waiting v]) q (eL true 2 2 (i.blk 1 rfl)) (GD hm fun V T hm => WD (c_l_vQueue q b.Queue n k (J.mem0 i) o l (K.mem0 i) c.Queue y u (N.mem0 i) z v (O.mem0 i) T) i fun W G => MW 2 (WN ?_))))))
    obtain rfl := HS hm
    exact NM fun a ha => ⟨G.pk [], ha.s⟩
   refine wK 17 false B (MW 7 (WN ?_))
   obtain rfl := HS hm
   exact NM fun a ha => ⟨i.pk [], ha.s⟩
  refine wK 10 false A (wR 14 [(4, .bool false)] d (WN ?_))
  obtain rfl := HS hm
  exact NM fun a ha => ⟨h.pk [], ha.s⟩
 intro X Z ⟨H, P⟩
 refine N_use P ?_
 have hm := Q
 refine TN (G_ret ?_)
 obtain rfl := HS hm
 exact RA [.bool C] (⟨rfl, H.pk []⟩)
theorem c_l_vMachine (w : World) (b : Machine) (t m) (ar : rdS encRoute w b.Routes t m) (u n) (au : rdS Gx.encB w b.Enabled u n) (v o) (av : rdS Gx.encB w b.Raised v o) (l q) (aw : rdD deepInterface w b.Cpus l q) (g : Machine) (C y) (ax : rdS encRoute w g.Routes C y) (D z) (ay : rdS Gx.encB w g.Enabled D z) (E A) (az : rdS Gx.encB w g.Raised E A) (x B) (a0 : rdD deepInterface w g.Cpus x B) {r : Bool} (hm : M.l_vMachine b g = some r) :
  Calls Tryz.prog 41 #[.agg #[SL t b.Routes m, SL u b.Enabled n, SL v b.Raised o, SL l b.Cpus q], .agg #[SL C g.Routes y, SL D g.Enabled z, SL E g.Raised A, SL x g.Cpus B]] w fun e w' => e = .returned (.bool r) ∧ Mem [] w w' [] := by
 unfold M.l_vMachine at hm
 refine cE Tryz.func41 ?_
 have M0 := Mem.refl [] w
 refine QA (wN (CE 32 [SL t b.Routes m, SL u b.Enabled n, SL v b.Raised o, SL l b.Cpus q]) M0 fun c bo ap => wN (CE 32 [SL C g.Routes y, SL D g.Enabled z, SL E g.Raised A, SL x g.Cpus B]) ap fun f K L => MW 1 (NE (GS (GD hm fun bf a7 a6 => G_meet (fun a w' => Mem [] w w' [(BK c 32 [SL t b.Routes m, SL u b.Enabled n, SL v b.Raised o, SL l b.Cpus q]), (BK f 32 [SL C g.Routes y, SL D g.Enabled z, SL E g.Raised A, SL x g.Cpus B])] ∧ Sat Tryz.f41.ntmps [(2, pB c 0), (3, pB f 0), (36, .bool bf)] a) ?_ ?_))))
 ·have hm := a7
  refine GR (MW 1 (wV (SL t b.Routes m) K (eL false 1 0 (L.blk 0 rfl)) (MW 1 (wV (SL C g.Routes y) K (eL false 1 0 (L.blk 1 rfl)) (GD hm fun bh a8 hm => WD (c_l_vRoutes K b.Routes t m (ar.mem0 L) g.Routes C y (ax.mem0 L) a8) L fun F I => wR 2 [(2, pB c 0), (3, pB f 0), (12, .bool (!bh))] F ?_)))))
  rcases gx_bif hm with ⟨R, hm⟩ | ⟨R, hm⟩
  ·refine wK 12 true R (wR 24 [(2, pB c 0), (3, pB f 0), (36, .bool true)] F (WN ?_))
   obtain rfl := HS hm
   exact NM fun a ha => ⟨I.pk [0, 1], ha.s⟩
  refine wK 12 false R (MW 1 (wV (SL u b.Enabled n) F (eL false 1 1 (I.blk 0 rfl)) (MW 1 (wV (SL D g.Enabled z) F (eL false 1 1 (I.blk 1 rfl)) (GD hm fun bi a9 hm => WD (c_l_vBools F b.Enabled u n (au.mem0 I) g.Enabled D z (ay.mem0 I) a9) I fun G J => wR 3 [(2, pB c 0), (3, pB f 0), (20, .bool (!bi))] G ?_)))))
  rcases gx_bif hm with ⟨S, hm⟩ | ⟨S, hm⟩
  ·refine wK 20 true S (wR 16 [(2, pB c 0), (3, pB f 0), (36, .bool true)] G (WN ?_))
   obtain rfl := HS hm
   exact NM fun a ha => ⟨J.pk [0, 1], ha.s⟩
  refine wK 20 false S (MW 1 (wV (SL v b.Raised o) G (eL false 1 2 (J.blk 0 rfl)) (MW 1 (wV (SL E g.Raised A) G (eL false 1 2 (J.blk 1 rfl)) (GD hm fun bj ba hm => WD (c_l_vBools G b.Raised v o (av.mem0 J) g.Raised E A (az.mem0 J) ba) J fun H P => wR 3 [(2, pB c 0), (3, pB f 0), (28, .bool (!bj))] H ?_)))))
  rcases gx_bif hm with ⟨T, hm⟩ | ⟨T, hm⟩
  ·refine wK 28 true T (MW 8 (WN ?_))
   obtain rfl := HS hm
   exact NM fun a ha => ⟨P.pk [0, 1], ha.s⟩
  refine wK 28 false T (MW 1 (wV (SL l b.Cpus q) H (eL false 1 3 (P.blk 0 rfl)) (MW 2 (wV (SL x g.Cpus B) H (eL false 1 3 (P.blk 1 rfl)) (MW 3 (WN ?_))))))
  obtain rfl := HS hm
  exact NM fun a ha => ⟨P.pk [0, 1], ha.s⟩
 intro bl ak ⟨ab, a3⟩
 refine N_use a3 ?_
 have hm := a6
 refine TN (GT hm (fun U hm => ?_) fun U hm => ?_)
 ·refine QA (MW 1 (ND ?_))
  obtain rfl := HS hm
  exact RA [.bool false] (⟨rfl, ab.pk []⟩)
 refine KB (wR 1 [(2, pB c 0), (3, pB f 0), (5, iv 0)] ak (NO (GD hm fun bg bc ad => G_meet (fun a w' => ∃ (aj : Unit), bg = .inl aj ∧ Mem [] w w' [] ∧ Sat Tryz.f41.ntmps [] a) ?_ ?_)))
 ·refine GB (G_while (σ := Int) (ρ := (Unit) ⊕ (Bool)) (fun j a w' => Mem [] w w' [(BK c 32 [SL t b.Routes m, SL u b.Enabled n, SL v b.Raised o, SL l b.Cpus q]), (BK f 32 [SL C g.Routes y, SL D g.Enabled z, SL E g.Raised A, SL x g.Cpus B])] ∧ Sat Tryz.f41.ntmps [(2, pB c 0), (3, pB f 0), (5, iv j)] a) bc (fun a ha => ⟨ab.pk [0, 1], ha.s⟩) ?_)
  clear hm
  intro j bp hm ae bm aa ⟨Q, a4⟩
  refine G_use a4 (QB (MW 2 (wV (SL l b.Cpus q) aa (eL false 1 3 (Q.blk 0 rfl)) (MW 2 (NO (GT hm (fun V hm => ?_) fun V hm => ?_))))))
  ·refine GK (TN (GS (GB (GS (G_quiet (by kernel_rfl) (by kernel_rfl) Q (MZ 1 (zV (SL l b.Cpus q) (fun w_ M_ => (eL false 1 3 (M_.blk 0 rfl))) (MZ 1 (GD hm fun i bd hm => ?_)))))))))
   obtain ⟨bq, ah, af, X⟩ := id aw
   obtain ⟨d, N⟩ := gxIdx_fst ah bd
   refine zV (elemP l (j.toNat * 4)) (fun w_ M_ => (eI (af.mem0 M_) (len_fst ah) N)) (zV (.agg #[iv i.Mask, SL ((d 0).1) i.Stack ((d 0).2), SL ((d 1).1) i.Queue.Slots ((d 1).2), SL ((d 2).1) i.Queue.Waiting ((d 2).2)]) (fun w_ M_ => (eE true 4 0 (j.toNat * 4) (af.mem0 M_) N)) (MZ 1 (zV (SL x g.Cpus B) (fun w_ M_ => (eL false 1 3 (M_.blk 1 rfl))) (MZ 1 (GD hm fun k be hm => ?_)))))
   obtain ⟨br, ai, ag, Y⟩ := id a0
   obtain ⟨h, O⟩ := gxIdx_fst ai be
   refine zV (elemP x (j.toNat * 4)) (fun w_ M_ => (eI (ag.mem0 M_) (len_fst ai) O)) (zV (.agg #[iv k.Mask, SL ((h 0).1) k.Stack ((h 0).2), SL ((h 1).1) k.Queue.Slots ((h 1).2), SL ((h 2).1) k.Queue.Waiting ((h 2).2)]) (fun w_ M_ => (eE true 4 0 (j.toNat * 4) (ag.mem0 M_) O)) (GD hm fun Z bb hm => ZC (.bool Z) (fun w_ M_ => c_l_vFace w_ i ((d 0).1) ((d 0).2) ((X.mem0 M_).a_ N 0) ((d 1).1) ((d 1).2) ((X.mem0 M_).a_ N 1) ((d 2).1) ((d 2).2) ((X.mem0 M_).a_ N 2) k ((h 0).1) ((h 0).2) ((Y.mem0 M_).a_ O 0) ((h 1).1) ((h 1).2) ((Y.mem0 M_).a_ O 1) ((h 2).1) ((h 2).2) ((Y.mem0 M_).a_ O 2) bb) (MZ 1 (Z_end fun al ac => (TN (GT hm (fun W hm => ?_) fun W hm => ?_))))))
   ·refine QA (MW 1 (NX ?_))
    obtain rfl := HS hm
    obtain rfl := ae _ rfl
    have hm := ad; simp only [Sum.elim_inr] at hm
    refine BR (N_meet_ret (TR ?_))
    obtain rfl := HS hm
    exact RA [.bool false] (⟨rfl, ac.pk []⟩)
   refine KC (MW 3 (WN ?_))
   cases hm
   exact N_loop fun a ha => ⟨_, rfl, ac.pk [0, 1], ha.s⟩
  refine XA ?_
  obtain rfl := HS hm
  obtain rfl := ae _ rfl
  exact NM fun a ha => ⟨_, rfl, Q.pk [], ha.s⟩
 intro bn bk ⟨aj, hout_, aq, a5⟩
 refine N_use a5 ?_
 subst hout_
 have hm := ad; simp only [Sum.elim_inl] at hm
 refine NF (MW 1 (NC ?_))
 obtain rfl := HS hm
 exact RA [.bool true] (⟨rfl, aq.pk []⟩)
theorem c_s_l1Cur_cpuOf (w : World) (a : l1Cur) (d f) (i : rdS Gx.encU8 w a.code d f) (c : Nat) (b : Machine) (u z) (aa : rdS encRoute w b.Routes u z) (v A) (ab : rdS Gx.encB w b.Enabled v A) (x B) (ac : rdS Gx.encB w b.Raised x B) (n m) (hA : ∀ q ∈ List.flatten [(BK c 110 [SL d a.code f, iv a.at_, .int .u64 a.seed])], w.heap[q.1]? = some q.2) (hN : (idsOf [(BK c 110 [SL d a.code f, iv a.at_, .int .u64 a.seed])]).Nodup) (j : apartX (idsOf [(BK c 110 [SL d a.code f, iv a.at_, .int .u64 a.seed])]) a.code d) (ad : apartX (idsOf [(BK c 110 [SL d a.code f, iv a.at_, .int .u64 a.seed])]) b.Routes u) (ae : apartX (idsOf [(BK c 110 [SL d a.code f, iv a.at_, .int .u64 a.seed])]) b.Enabled v) (af : apartX (idsOf [(BK c 110 [SL d a.code f, iv a.at_, .int .u64 a.seed])]) b.Raised x) (ag : rdX (idsOf [(BK c 110 [SL d a.code f, iv a.at_, .int .u64 a.seed])]) deepInterface w b.Cpus n m) {r : Int × Int × Int} (hm : M.s_l1Cur_cpuOf a b = some r) :
  Calls Tryz.prog 102 #[pB c 0, .agg #[SL u b.Routes z, SL v b.Enabled A, SL x b.Raised B, SL n b.Cpus m]] w fun e w' => e = .returned (iv r.1) ∧ Mem (idsOf [(BK c 110 [SL d a.code f, iv a.at_, .int .u64 a.seed])]) w w' [(BK c 110 [SL d a.code f, iv r.2.1, .int .u64 r.2.2])] := by
 unfold M.s_l1Cur_cpuOf at hm
 refine cE Tryz.func102 ?_
 have M0 := Mem.start' w [(BK c 110 [SL d a.code f, iv a.at_, .int .u64 a.seed])] hA hN
 refine QA (wN (CE 32 [SL u b.Routes z, SL v b.Enabled A, SL x b.Raised B, SL n b.Cpus m]) M0 fun t D k => MW 1 (NB (MW 1 (GD hm fun y S hm => WC ((c_s_l1Cur_one D a d f (i.memX j k) c 20 (k.hasPick [0]) (k.nodupPick [0] (by kernel_rfl)) (apartX.old i j k [0]) S).mono ?_)))))
 rintro e_ h ⟨rfl, L⟩
 have o := k.callF' [0] [1] (by kernel_rfl) L
 refine ⟨_, rfl, ?_⟩
 refine NO (GT hm (fun C hm => ?_) fun C hm => ?_)
 ·refine QA (MW 2 (wV (SL n b.Cpus m) h (eL false 1 3 (o.blk 0 rfl)) (MW 1 (wL (E := Gx.encI) [(-1), (b.Cpus.length : Int)] 2 [iv (-1), iv (b.Cpus.length : Int)] 3 o fun H F ah W G g => GD hm fun I T hm => WC ((c_s_l1Cur_among W (⟨a.code, y.2.1, y.2.2⟩ : l1Cur) d f (i.memX j g) c [(-1), (b.Cpus.length : Int)] H F (G.r g 2) (g.hasPick [1]) (g.nodupPick [1] (by kernel_rfl)) (apartX.old i j g [1]) (apartX.own G g 2 (by kernel_rfl) [1] (by kernel_rfl)) T).mono ?_)))))
  rintro e_ X ⟨rfl, N⟩
  have Q := g.callF' [1] [0, 2] (by kernel_rfl) N
  refine ⟨_, rfl, ?_⟩
  refine MW 1 (ND ?_)
  obtain rfl := HS hm
  exact RA [iv I.1] (⟨rfl, Q.pk [2]⟩)
 refine KA (MW 2 (wV (SL n b.Cpus m) h (eL false 1 3 (o.blk 0 rfl)) (MW 1 (GD hm fun J U hm => WD (c_s_l1Most h 1 (b.Cpus.length : Int) U) o fun Y l => GD hm fun K V hm => WC ((c_s_l1Cur_pick Y (⟨a.code, y.2.1, y.2.2⟩ : l1Cur) d f (i.memX j l) c J (l.hasPick [1]) (l.nodupPick [1] (by kernel_rfl)) (apartX.old i j l [1]) V).mono ?_)))))
 rintro e_ Z ⟨rfl, P⟩
 have R := l.callF' [1] [0] (by kernel_rfl) P
 refine ⟨_, rfl, ?_⟩
 refine MW 1 (NC ?_)
 obtain rfl := HS hm
 exact RA [iv K.1] (⟨rfl, R.pk [1]⟩)
theorem c_s_DrawPendingOn (w : World) (y : List Int) (B A) (H : rdS Gx.encU8 w y B A) {r : Machine × Int} (hm : M.s_DrawPendingOn y = some r) :
  Calls Tryz.prog 49 #[SL B y A] w fun e w' => ∃ ad Y ah ae Z ai af aa aj ag ab ak al, e = .returned (.tuple #[.agg #[SL ad r.1.Routes Y, SL ae r.1.Enabled Z, SL af r.1.Raised aa, SL ag r.1.Cpus ab], iv r.2]) ∧ ownS encRoute r.1.Routes ad Y ah ∧ ownS Gx.encB r.1.Enabled ae Z ai ∧ ownS Gx.encB r.1.Raised af aa aj ∧ ownD deepInterface r.1.Cpus ag ab ak al ∧ Mem [] w w' [ah, ai, aj, ak, al] := by
 unfold M.s_DrawPendingOn at hm
 refine cE Tryz.func49 ?_
 have M0 := Mem.refl [] w
 refine QA (wN (CE 32 [SN, SN, SN, SN]) M0 fun D am ap => MW 1 (NA (MW 2 (wN (CE 110 [SL B y A, iv 0, .int .u64 0]) ap fun x T E => MW 1 (NA (MW 1 (GD hm fun a ay hm => WC ((c_s_l1Cur_machine T (⟨y, 0, 0⟩ : l1Cur) B A (H.mem0 E) x (E.hasPick [1]) (E.nodupPick [1] (by kernel_rfl)) (apartX.old0 H E [1]) ay).mono ?_))))))))
 rintro e_ a9 ⟨n, c, N, q, d, O, t, l, P, u, m, Q, S, rfl, J, K, L, ac, an⟩
 have aq := E.callF' [1] [0] (by kernel_rfl) an
 refine ⟨_, rfl, ?_⟩
 refine wN (CE 32 [SN, SN, SN, SN]) aq fun I ba ar => wS true 4 0 (.agg #[SL n a.1.Routes c, SL q a.1.Enabled d, SL t a.1.Raised l, SL u a.1.Cpus m]) 7 [SL n a.1.Routes c, SL q a.1.Enabled d, SL t a.1.Raised l, SL u a.1.Cpus m] ar rfl fun a0 au => NE (GD hm fun C az hm => ?_)
 have av : Mem [] w a0 ([(BK D 32 [SN, SN, SN, SN]), N, O, P, Q, S, (BK I 32 [SL n a.1.Routes c, SL q a.1.Enabled d, SL t a.1.Raised l, SL u a.1.Cpus m])] ++ (List.range 4).map (fun i => ([[], [], [], (BK x 110 [SL B y A, iv a.2.1, .int .u64 a.2.2])] : List Seg).getD i [])) := au.pk [0, 2, 3, 4, 5, 6, 7, 300000, 300001, 300002, 1]
 refine GU [(2, pB D 0), (4, pB x 0), (5, pB I 0), (9, pB x 0), (10, .agg #[SL n a.1.Routes c, SL q a.1.Enabled d, SL t a.1.Raised l, SL u a.1.Cpus m])] (DL 4 [[],[],[],[1,2]] (EM 4) (EM 4) (EM 4) (EM 4) (EM 4) (fun i => ([[], [], [], (BK x 110 [SL B y A, iv a.2.1, .int .u64 a.2.2])] : List Seg).getD i []) [QV (.agg #[SL n a.1.Routes c, SL q a.1.Enabled d, SL t a.1.Raised l, SL u a.1.Cpus m]), QV (pB x 0), QV (.agg #[SL n a.1.Routes c, SL q a.1.Enabled d, SL t a.1.Raised l, SL u a.1.Cpus m]), fun f v s => v = (iv C.1 : Value) ∧ s = (BK x 110 [SL B y A, iv C.2.1, .int .u64 C.2.2])] [] [0, 3] [3] av (AC ?_ (AC ?_ (AC ?_ (AC ?_ AN)))) ?_)
 ·intro F G R a3 U
  exact OV ⟨rfl, rfl⟩ (eL true 4 0 (U.blk 6 rfl)) U
 ·intro F G R a4 aw
  exact OM ⟨rfl, rfl⟩ aw
 ·intro F G R a5 V
  exact OV ⟨rfl, rfl⟩ (eL true 4 0 (V.blk 6 rfl)) V
 ·rintro F G v1_ ⟨rfl, _⟩
  rintro v2_ ⟨rfl, _⟩ R a6 z
  refine WC ((c_s_l1Cur_cpuOf a6 (⟨y, a.2.1, a.2.2⟩ : l1Cur) B A (H.mem0 z) x a.1 n c (J.r z 1) q d (K.r z 2) t l (L.r z 3) u m (z.hasPick [7]) (z.nodupPick [7] (by kernel_rfl)) (apartX.old0 H z [7]) (apartX.own J z 1 (by kernel_rfl) [7] (by kernel_rfl)) (apartX.own K z 2 (by kernel_rfl) [7] (by kernel_rfl)) (apartX.own L z 3 (by kernel_rfl) [7] (by kernel_rfl)) (ac.rdX z 4 (by kernel_rfl) 5 (by kernel_rfl) [7] (by kernel_rfl) (by kernel_rfl)) az).mono ?_)
  rintro e_ bb ⟨rfl, ao⟩
  refine ⟨_, rfl, ?_⟩
  exact WN (oE (iv C.1) (BK x 110 [SL B y A, iv C.2.1, .int .u64 C.2.2]) ⟨rfl, rfl⟩ (Mem.callMidF z ao))
 rintro F G v0_ ⟨rfl, _⟩ v3_ hb3_
 obtain ⟨rfl, hs3_⟩ := hb3_
 intro a7 ax
 have W : Mem [] w a7 [(BK D 32 [SN, SN, SN, SN]), N, O, P, Q, S, (BK I 32 [SL n a.1.Routes c, SL q a.1.Enabled d, SL t a.1.Raised l, SL u a.1.Cpus m]), (F 3)] := ax
 rw [hs3_] at W
 refine wS true 4 0 (.agg #[SL n a.1.Routes c, SL q a.1.Enabled d, SL t a.1.Raised l, SL u a.1.Cpus m]) 0 [SL n a.1.Routes c, SL q a.1.Enabled d, SL t a.1.Raised l, SL u a.1.Cpus m] W rfl fun a8 X => MW 1 (NC ?_)
 obtain rfl := HS hm
 exact N_ret [.agg #[SL n a.1.Routes c, SL q a.1.Enabled d, SL t a.1.Raised l, SL u a.1.Cpus m], iv C.1] (RX true 4 0 (X.blk 0 rfl) (rC RVs_nil)) (⟨n, c, N, q, d, O, t, l, P, u, m, Q, S, rfl, J, K, L, ac, X.pk [1, 2, 3, 4, 5]⟩)
end Go.Proofs.YtllhajkgkghhdaaGreat
set_option linter.unusedVariables false
set_option linter.unusedSimpArgs false
set_option maxRecDepth 100000
set_option maxHeartbeats 4000000
namespace Go.Proofs.YtllhajkgkghhdaaGreat
open Go.Gx
theorem c_s_DrawRunMachine (w : World) (z : List Int) (B A) (D : rdS Gx.encU8 w z B A) {r : Machine × (List MachStep)} (hm : M.s_DrawRunMachine z = some r) :
  Calls Tryz.prog 47 #[SL B z A] w fun e w' => ∃ bg a5 bm bh a6 bn bi a7 bo bj a8 bp bq bk a9 br, e = .returned (.tuple #[.agg #[SL bg r.1.Routes a5, SL bh r.1.Enabled a6, SL bi r.1.Raised a7, SL bj r.1.Cpus a8], SL bk r.2 a9]) ∧ ownS encRoute r.1.Routes bg a5 bm ∧ ownS Gx.encB r.1.Enabled bh a6 bn ∧ ownS Gx.encB r.1.Raised bi a7 bo ∧ ownD deepInterface r.1.Cpus bj a8 bp bq ∧ ownS encMachStep r.2 bk a9 br ∧ Mem [] w w' [bm, bn, bo, bp, bq, br] := by
 unfold M.s_DrawRunMachine at hm
 refine cE Tryz.func47 ?_
 have M0 := Mem.refl [] w
 refine QA (wN (CE 32 [SN, SN, SN, SN]) M0 fun f bs b4 => MW 1 (NA (MW 2 (wN (CE 110 [SL B z A, iv 0, .int .u64 0]) b4 fun d au U => MW 1 (NA (MW 1 (GD hm fun c cz hm => WC ((c_s_l1Cur_machine au (⟨z, 0, 0⟩ : l1Cur) B A (D.mem0 U) d (U.hasPick [1]) (U.nodupPick [1] (by kernel_rfl)) (apartX.old0 D U [1]) cz).mono ?_))))))))
 rintro e_ dr ⟨n, i, P, q, j, Q, t, l, R, u, m, S, T, rfl, ao, ap, aq, bb, bz⟩
 have b5 := U.callF' [1] [0] (by kernel_rfl) bz
 refine ⟨_, rfl, ?_⟩
 refine wN (CE 32 [SN, SN, SN, SN]) b5 fun h ds b6 => wS true 4 0 (.agg #[SL n c.1.Routes i, SL q c.1.Enabled j, SL t c.1.Raised l, SL u c.1.Cpus m]) 7 [SL n c.1.Routes i, SL q c.1.Enabled j, SL t c.1.Raised l, SL u c.1.Cpus m] b6 rfl fun dt b7 => NA (wL (E := encMachStep) ([] : List MachStep) 0 [] 51 b7 fun ad ab c8 av co V => MW 1 (NB (MW 1 (GD hm fun c6 c0 hm => WC ((c_s_l1Cur_pick av (⟨z, c.2.1, c.2.2⟩ : l1Cur) B A (D.mem0 V) d 10 (V.hasPick [1]) (V.nodupPick [1] (by kernel_rfl)) (apartX.old0 D V [1]) c0).mono ?_)))))
 rintro e_ db ⟨rfl, b0⟩
 have b8 := V.callF' [1] [0, 2, 3, 4, 5, 6, 7, 8] (by kernel_rfl) b0
 refine ⟨_, rfl, ?_⟩
 refine MW 1 (NO (GD hm fun J c4 cm => G_meet (fun a w' => ∃ O N aa, ownS encMachStep J.1 O N aa ∧ Mem [] w w' [(BK f 32 [SN, SN, SN, SN]), P, Q, R, S, T, (BK h 32 [SL n c.1.Routes i, SL q c.1.Enabled j, SL t c.1.Raised l, SL u c.1.Cpus m]), (BK d 110 [SL B z A, iv J.2.1, .int .u64 J.2.2]), aa] ∧ Sat Tryz.f47.ntmps [(2, pB f 0), (4, pB d 0), (5, pB h 0), (6, SL O J.1 N)] a) ?_ ?_))
 ·refine GB (G_while (σ := List MachStep × Int × Int × Int) (ρ := List MachStep × Int × Int) (fun x a w' => ∃ K H af, ownS encMachStep x.1 K H af ∧ Mem [] w w' [(BK f 32 [SN, SN, SN, SN]), P, Q, R, S, T, (BK h 32 [SL n c.1.Routes i, SL q c.1.Enabled j, SL t c.1.Raised l, SL u c.1.Cpus m]), (BK d 110 [SL B z A, iv x.2.2.1, .int .u64 x.2.2.2]), af] ∧ Sat Tryz.f47.ntmps [(2, pB f 0), (4, pB d 0), (5, pB h 0), (6, SL K x.1 H), (7, iv x.2.1)] a) c4 (fun a ha => ⟨ad, ab, c8, co, b8.pk [0, 1, 2, 3, 4, 5, 6, 8, 7], ha.s⟩) ?_)
  clear hm
  intro x dz hm cx de aj ⟨K, H, af, bc, y, ce⟩
  refine G_use ce (QB (MW 2 (NO (GT hm (fun al hm => ?_) fun al hm => ?_))))
  ·refine GK (TN (GS (GB (GR (MW 2 (wV (.agg #[SL n c.1.Routes i, SL q c.1.Enabled j, SL t c.1.Raised l, SL u c.1.Cpus m]) aj (eL true 4 0 (y.blk 6 rfl)) (GD hm fun Z c1 hm => WC ((c_s_l1Cur_machStep aj (⟨z, x.2.2.1, x.2.2.2⟩ : l1Cur) B A (D.mem0 y) d c.1 n i (ao.r y 1) q j (ap.r y 2) t l (aq.r y 3) u m (y.hasPick [7]) (y.nodupPick [7] (by kernel_rfl)) (apartX.old0 D y [7]) (apartX.own ao y 1 (by kernel_rfl) [7] (by kernel_rfl)) (apartX.own ap y 2 (by kernel_rfl) [7] (by kernel_rfl)) (apartX.own aq y 3 (by kernel_rfl) [7] (by kernel_rfl)) (bb.rdX y 4 (by kernel_rfl) 5 (by kernel_rfl) [7] (by kernel_rfl) (by kernel_rfl)) c1).mono ?_))))))))
   rintro e_ du ⟨rfl, b1⟩
   have b9 := y.callF' [7] [0, 1, 2, 3, 4, 5, 6, 8] (by kernel_rfl) b1
   refine ⟨_, rfl, ?_⟩
   refine wL (E := encMachStep) [Z.1] 1 [iv Z.1.Kind, iv Z.1.Irq, iv Z.1.Cpu, iv Z.1.Value] 51 b9 fun dl dj dp dv cp aw => GD hm fun a4 cj hm => wA 32 [iv 0, iv 0, iv 0, iv 0] 7 aw bc (cp.r aw 9) cj fun ar ak c9 bt cq ca => MW 1 (NG (wR 3 [(2, pB f 0), (4, pB d 0), (5, pB h 0), (6, SL ar a4 ak), (7, iv (w64 (x.2.1 - 1)))] bt (WN ?_)))
   cases hm
   exact N_loop fun a ha => ⟨_, rfl, ar, ak, c9, cq, ca.pk [0, 1, 2, 3, 4, 5, 6, 8, 7], ha.s⟩
  refine XA ?_
  obtain rfl := HS hm
  obtain rfl := cx _ rfl
  exact NM fun a ha => ⟨K, H, af, bc, y.pk [0, 1, 2, 3, 4, 5, 6, 7, 8], ha.s⟩
 intro df bu ⟨O, N, aa, bd, W, cf⟩
 refine N_use cf ?_
 have hm := cm
 refine TN (QB (MW 1 (GD hm fun dn c2 hm => WC ((c_s_l1Cur_one bu (⟨z, J.2.1, J.2.2⟩ : l1Cur) B A (D.mem0 W) d 24 (W.hasPick [7]) (W.nodupPick [7] (by kernel_rfl)) (apartX.old0 D W [7]) c2).mono ?_))))
 rintro e_ dw ⟨rfl, b2⟩
 have ax := W.callF' [7] [0, 1, 2, 3, 4, 5, 6, 8] (by kernel_rfl) b2
 refine ⟨_, rfl, ?_⟩
 refine NO (GD hm fun Y cr cl => G_meet (fun a w' => ∃ L I ag, ownS encMachStep Y L I ag ∧ Mem [] w w' [(BK f 32 [SN, SN, SN, SN]), P, Q, R, S, T, (BK h 32 [SL n c.1.Routes i, SL q c.1.Enabled j, SL t c.1.Raised l, SL u c.1.Cpus m]), ag] ∧ Sat Tryz.f47.ntmps [(2, pB f 0), (5, pB h 0), (6, SL L Y I)] a) ?_ ?_)
 ·have hm := cr
  rcases gx_bif hm with ⟨am, hm⟩ | ⟨am, hm⟩
  ·refine gT am (GD hm fun bf c5 cn => G_meet (fun a w' => ∃ ae ac ai, ownS encMachStep bf ae ac ai ∧ Mem [] w w' [(BK f 32 [SN, SN, SN, SN]), P, Q, R, S, T, (BK h 32 [SL n c.1.Routes i, SL q c.1.Enabled j, SL t c.1.Raised l, SL u c.1.Cpus m]), ai] ∧ Sat Tryz.f47.ntmps [(2, pB f 0), (5, pB h 0), (6, SL ae bf ac)] a) ?_ ?_)
   ·refine GB (G_while (σ := List MachStep × Int × Int) (ρ := List MachStep) (fun C a w' => ∃ G F ah, ownS encMachStep C.1 G F ah ∧ Mem [] w w' [(BK f 32 [SN, SN, SN, SN]), P, Q, R, S, T, (BK h 32 [SL n c.1.Routes i, SL q c.1.Enabled j, SL t c.1.Raised l, SL u c.1.Cpus m]), (BK d 110 [SL B z A, iv C.2.1, .int .u64 C.2.2]), ah] ∧ Sat Tryz.f47.ntmps [(2, pB f 0), (4, pB d 0), (5, pB h 0), (6, SL G C.1 F)] a) c5 (fun a ha => ⟨O, N, aa, bd, ax.pk [0, 1, 2, 3, 4, 5, 6, 8, 7], ha.s⟩) ?_)
    clear hm
    intro C d0 hm cy dg bv ⟨G, F, ah, be, X, cg⟩
    refine G_use cg (QB (MW 3 (GD hm fun c7 c3 hm => WC ((c_s_l1Cur_pick bv (⟨z, C.2.1, C.2.2⟩ : l1Cur) B A (D.mem0 X) d 2 (X.hasPick [7]) (X.nodupPick [7] (by kernel_rfl)) (apartX.old0 D X [7]) c3).mono ?_))))
    rintro e_ bw ⟨rfl, b3⟩
    have ay := X.callF' [7] [0, 1, 2, 3, 4, 5, 6, 8] (by kernel_rfl) b3
    refine ⟨_, rfl, ?_⟩
    refine MW 2 (NO (GT hm (fun an hm => ?_) fun an hm => ?_))
    ·refine GK (TN (GB (GR (MW 2 (wL (E := encMachStep) [(⟨2, 0, 0, 0⟩ : MachStep)] 1 [iv 2, iv 0, iv 0, iv 0] 51 ay fun dm dk dq dx cv az => GD hm fun cd ck hm => wA 32 [iv 0, iv 0, iv 0, iv 0] 7 az be (cv.r az 9) ck fun bl ba da dc cw cb => MW 1 (WN (BN ?_)))))))
     cases hm
     exact N_loop fun a ha => ⟨_, rfl, bl, ba, da, cw, cb.pk [0, 1, 2, 3, 4, 5, 6, 8, 7], ha.s⟩
    refine XA ?_
    obtain rfl := HS hm
    obtain rfl := cy _ rfl
    exact NM fun a ha => ⟨G, F, ah, be, ay.pk [0, 1, 2, 3, 4, 5, 6, 7], ha.s⟩
   intro dh dy ⟨ae, ac, ai, cu, cc, ch⟩
   refine N_use ch ?_
   have hm := cn
   obtain rfl := HS hm
   exact NM fun a ha => ⟨ae, ac, ai, cu, cc.pk [0, 1, 2, 3, 4, 5, 6, 7], ha.s⟩
  refine gF am (GK ?_)
  obtain rfl := HS hm
  exact NM fun a ha => ⟨O, N, aa, bd, ax.pk [0, 1, 2, 3, 4, 5, 6, 7], ha.s⟩
 intro di bx ⟨L, I, ag, ct, a0, ci⟩
 refine N_use ci ?_
 have hm := cl
 refine NF (wV (.agg #[SL n c.1.Routes i, SL q c.1.Enabled j, SL t c.1.Raised l, SL u c.1.Cpus m]) bx (eL true 4 0 (a0.blk 6 rfl)) (MW 1 (wS true 4 0 (.agg #[SL n c.1.Routes i, SL q c.1.Enabled j, SL t c.1.Raised l, SL u c.1.Cpus m]) 0 [SL n c.1.Routes i, SL q c.1.Enabled j, SL t c.1.Raised l, SL u c.1.Cpus m] a0 rfl fun dd a3 => MW 1 (NC ?_))))
 obtain rfl := HS hm
 exact N_ret [.agg #[SL n c.1.Routes i, SL q c.1.Enabled j, SL t c.1.Raised l, SL u c.1.Cpus m], SL L Y I] (RX true 4 0 (a3.blk 0 rfl) (rC RVs_nil)) (⟨n, i, P, q, j, Q, t, l, R, u, m, S, T, L, I, ag, rfl, ao, ap, aq, bb, ct, a3.pk [1, 2, 3, 4, 5, 7]⟩)
theorem c_s_DrawIsIdle (w : World) (G : List Int) (I H) (O : rdS Gx.encU8 w G I H) {r : Machine} (hm : M.s_DrawIsIdle G = some r) :
  Calls Tryz.prog 48 #[SL I G H] w fun e w' => ∃ af Y aj ag Z ak ah aa al ai ab am an, e = .returned (.agg #[SL af r.Routes Y, SL ag r.Enabled Z, SL ah r.Raised aa, SL ai r.Cpus ab]) ∧ ownS encRoute r.Routes af Y aj ∧ ownS Gx.encB r.Enabled ag Z ak ∧ ownS Gx.encB r.Raised ah aa al ∧ ownD deepInterface r.Cpus ai ab am an ∧ Mem [] w w' [aj, ak, al, am, an] := by
 unfold M.s_DrawIsIdle at hm
 refine cE Tryz.func48 ?_
 have M0 := Mem.refl [] w
 refine QA (wN (CE 32 [SN, SN, SN, SN]) M0 fun f bo az => NA (MW 2 (wN (CE 110 [SL I G H, iv 0, .int .u64 0]) az fun F S K => MW 1 (NA (MW 1 (GD hm fun c bf hm => WC ((c_s_l1Cur_machine S (⟨G, 0, 0⟩ : l1Cur) I H (O.mem0 K) F (K.hasPick [1]) (K.nodupPick [1] (by kernel_rfl)) (apartX.old0 O K [1]) bf).mono ?_)))))))
 rintro e_ bt ⟨i, h, ao, z, n, ap, A, q, aq, l, j, ar, au, rfl, ad, a7, a8, a9, aw⟩
 have a0 := K.callF' [1] [0] (by kernel_rfl) aw
 refine ⟨_, rfl, ?_⟩
 refine wN (CE 32 [SN, SN, SN, SN]) a0 fun m bu a3 => wS true 4 0 (.agg #[SL i c.1.Routes h, SL z c.1.Enabled n, SL A c.1.Raised q, SL l c.1.Cpus j]) 7 [SL i c.1.Routes h, SL z c.1.Enabled n, SL A c.1.Raised q, SL l c.1.Cpus j] a3 rfl fun av L => NB (MW 1 (GD hm fun bs bg hm => WC ((c_s_l1Cur_one av (⟨G, c.2.1, c.2.2⟩ : l1Cur) I H (O.mem0 L) F 3 (L.hasPick [1]) (L.nodupPick [1] (by kernel_rfl)) (apartX.old0 O L [1]) bg).mono ?_)))
 rintro e_ J ⟨rfl, ax⟩
 have N := L.callF' [1] [0, 2, 3, 4, 5, 6, 7] (by kernel_rfl) ax
 refine ⟨_, rfl, ?_⟩
 refine NO (GD hm fun bi ba ac => G_meet (fun a w' => ∃ (ae : Unit), bi = .inl ae ∧ Mem [] w w' [(BK f 32 [SN, SN, SN, SN]), ao, ap, aq, ar, au, (BK m 32 [SL i c.1.Routes h, SL z c.1.Enabled n, SL A c.1.Raised q, SL l c.1.Cpus j])] ∧ Sat Tryz.f48.ntmps [(2, pB f 0), (4, pB m 0)] a) ?_ ?_)
 ·have hm := ba
  refine GT hm (fun Q hm => ?_) fun Q hm => ?_
  ·refine QA (MW 1 (wV (SL i c.1.Routes h) J (eL false 1 0 (N.blk 6 rfl)) (MW 1 (wV (SL l c.1.Cpus j) J (eL false 1 3 (N.blk 6 rfl)) (MW 1 (GD hm fun d bh hm => WC ((c_s_NewMachine J c.1.Routes i h (ad.r N 1) (c.1.Cpus.length : Int) bh).mono ?_)))))))
   rintro e_ bp ⟨B, t, bj, C, u, bk, D, x, bl, E, y, bm, bn, rfl, bb, bc, bd, be, ay⟩
   have a4 := N.call ay
   refine ⟨_, rfl, ?_⟩
   refine MW 3 (wN (CE 32 [SN, SN, SN, SN]) a4 fun X bv a5 => wS true 4 0 (.agg #[SL B d.1.Routes t, SL C d.1.Enabled u, SL D d.1.Raised x, SL E d.1.Cpus y]) 13 [SL B d.1.Routes t, SL C d.1.Enabled u, SL D d.1.Raised x, SL E d.1.Cpus y] a5 rfl fun T P => MW 1 (NA (MW 1 (NO (GT hm (fun R hm => ?_) fun R hm => ?_)))))
   ·refine QA (wV (.agg #[SL B d.1.Routes t, SL C d.1.Enabled u, SL D d.1.Raised x, SL E d.1.Cpus y]) T (eL true 4 0 (P.blk 13 rfl)) (wS true 4 0 (.agg #[SL B d.1.Routes t, SL C d.1.Enabled u, SL D d.1.Raised x, SL E d.1.Cpus y]) 0 [SL B d.1.Routes t, SL C d.1.Enabled u, SL D d.1.Raised x, SL E d.1.Cpus y] P rfl fun bw U => NC (N_meet_ret ?_)))
    obtain rfl := HS hm
    have hm := ac
    simp only [Sum.elim_inr] at hm
    refine TR ?_
    obtain rfl := HS hm
    exact N_ret [.agg #[SL B d.1.Routes t, SL C d.1.Enabled u, SL D d.1.Raised x, SL E d.1.Cpus y]] (RX true 4 0 (U.blk 0 rfl) RVs_nil) (⟨B, t, bj, C, u, bk, D, x, bl, E, y, bm, bn, rfl, bb, bc, bd, be, U.pk [8, 9, 10, 11, 12]⟩)
   refine GK ?_
   obtain rfl := HS hm
   exact NM fun a ha => ⟨_, rfl, P.pk [0, 1, 2, 3, 4, 5, 6], ha.s⟩
  refine GK ?_
  obtain rfl := HS hm
  exact NM fun a ha => ⟨_, rfl, N.pk [0, 1, 2, 3, 4, 5, 6], ha.s⟩
 intro br bq ⟨ae, hout_, V, a6⟩
 refine N_use a6 ?_
 subst hout_
 have hm := ac
 simp only [Sum.elim_inl] at hm
 refine NF (wV (.agg #[SL i c.1.Routes h, SL z c.1.Enabled n, SL A c.1.Raised q, SL l c.1.Cpus j]) bq (eL true 4 0 (V.blk 6 rfl)) (wS true 4 0 (.agg #[SL i c.1.Routes h, SL z c.1.Enabled n, SL A c.1.Raised q, SL l c.1.Cpus j]) 0 [SL i c.1.Routes h, SL z c.1.Enabled n, SL A c.1.Raised q, SL l c.1.Cpus j] V rfl fun bx W => NC ?_))
 obtain rfl := HS hm
 exact N_ret [.agg #[SL i c.1.Routes h, SL z c.1.Enabled n, SL A c.1.Raised q, SL l c.1.Cpus j]] (RX true 4 0 (W.blk 0 rfl) RVs_nil) (⟨i, h, ao, z, n, ap, A, q, aq, l, j, ar, au, rfl, ad, a7, a8, a9, W.pk [1, 2, 3, 4, 5]⟩)
theorem c_s_DrawRunningOn (w : World) (n : List Int) (u t) (Q : rdS Gx.encU8 w n u t) {r : Machine × Int} (hm : M.s_DrawRunningOn n = some r) :
  Calls Tryz.prog 50 #[SL u n t] w fun e w' => ∃ E A I F B J G C K H D L N, e = .returned (.tuple #[.agg #[SL E r.1.Routes A, SL F r.1.Enabled B, SL G r.1.Raised C, SL H r.1.Cpus D], iv r.2]) ∧ ownS encRoute r.1.Routes E A I ∧ ownS Gx.encB r.1.Enabled F B J ∧ ownS Gx.encB r.1.Raised G C K ∧ ownD deepInterface r.1.Cpus H D L N ∧ Mem [] w w' [I, J, K, L, N] := by
 unfold M.s_DrawRunningOn at hm
 refine cE Tryz.func50 ?_
 have M0 := Mem.refl [] w
 refine QA (wN (CE 32 [SN, SN, SN, SN]) M0 fun q x y => MW 1 (NA (MW 1 (GD hm fun a V hm => WC ((c_s_DrawPendingOn x n u t (Q.mem0 y) V).mono ?_)))))
 rintro e_ ab ⟨i, c, W, j, d, X, l, f, Y, m, h, Z, aa, rfl, R, S, T, U, O⟩
 have P := y.call O
 refine ⟨_, rfl, ?_⟩
 refine MW 2 (wS true 4 0 (.agg #[SL i a.1.Routes c, SL j a.1.Enabled d, SL l a.1.Raised f, SL m a.1.Cpus h]) 0 [SL i a.1.Routes c, SL j a.1.Enabled d, SL l a.1.Raised f, SL m a.1.Cpus h] P rfl fun ac z => MW 1 (NC ?_))
 obtain rfl := HS hm
 exact N_ret [.agg #[SL i a.1.Routes c, SL j a.1.Enabled d, SL l a.1.Raised f, SL m a.1.Cpus h], iv a.2] (RX true 4 0 (z.blk 0 rfl) (rC RVs_nil)) (⟨i, c, W, j, d, X, l, f, Y, m, h, Z, aa, rfl, R, S, T, U, z.pk [1, 2, 3, 4, 5]⟩)
end Go.Proofs.YtllhajkgkghhdaaGreat
set_option linter.unusedVariables false
set_option linter.unusedSimpArgs false
set_option maxRecDepth 100000
set_option maxHeartbeats 4000000
namespace Go.Proofs.YtllhajkgkghhdaaGreat
open Go.Gx
theorem c_l_FnMachineRuns (w : World) (g : List Int) (l k) (dk : rdS Gx.encU8 w g l k) {r : Bool} (hm : M.l_FnMachineRuns g = some r) :
  Calls Tryz.prog 11 #[SL l g k] w fun e w' => e = .returned (.bool r) ∧ Mem [] w w' [] := by
 unfold M.l_FnMachineRuns at hm
 refine cE Tryz.func11 ?_
 have M0 := Mem.refl [] w
 refine QA (MW 1 (NB (MW 1 (GD hm fun n1 lm hm => WD (c_l_vBig w g l k (dk.mem0 M0) lm) M0 fun gn e0 => NO (GT hm (fun fb hm => ?_) fun fb hm => ?_)))))
 ·refine QA (MW 1 (ND ?_))
  obtain rfl := HS hm
  exact RA [.bool true] (⟨rfl, e0.pk []⟩)
 refine KA (MW 1 (GD hm fun d ln hm => WC ((c_s_DrawRunMachine gn g l k (dk.mem0 e0) ln).mono ?_)))
 rintro e_ mp ⟨an, af, hu, ao, ag, hv, ap, ah, hw, aq, ai, hx, hy, t, u, cc, rfl, fu, fv, fw, fx, ck, h8⟩
 have ix := e0.call h8
 refine ⟨_, rfl, ?_⟩
 refine MW 3 (wN (CE 32 [SN, SN, SN, SN]) ix fun ae ov iy => wS true 4 0 (.agg #[SL an d.1.Routes af, SL ao d.1.Enabled ag, SL ap d.1.Raised ah, SL aq d.1.Cpus ai]) 6 [SL an d.1.Routes af, SL ao d.1.Enabled ag, SL ap d.1.Raised ah, SL aq d.1.Cpus ai] iy rfl fun er cd => MW 1 (NA (wV (.agg #[SL an d.1.Routes af, SL ao d.1.Enabled ag, SL ap d.1.Raised ah, SL aq d.1.Cpus ai]) er (eL true 4 0 (cd.blk 6 rfl)) (MW 1 (GD hm fun c lo hm => WC ((c_i_RunMachine er d.1 an af (fu.r cd 0) ao ag (fv.r cd 1) ap ah (fw.r cd 2) aq ai (fx.r2 cd 3 4) d.2 t u (ck.r cd 5) lo).mono ?_))))))
 rintro e_ mq ⟨X, T, b1, Y, U, b2, Z, V, b3, aa, W, b4, b5, z, y, b6, rfl, g8, g9, hb, hc, hd, h9⟩
 have iz := cd.call h9
 refine ⟨_, rfl, ?_⟩
 refine MW 4 (wN (CE 32 [SN, SN, SN, SN]) iz fun x ow i0 => wS true 4 0 (.agg #[SL X c.1.Routes T, SL Y c.1.Enabled U, SL Z c.1.Raised V, SL aa c.1.Cpus W]) 13 [SL X c.1.Routes T, SL Y c.1.Enabled U, SL Z c.1.Raised V, SL aa c.1.Cpus W] i0 rfl fun es ce => MW 2 (NB (wV (.agg #[SL an d.1.Routes af, SL ao d.1.Enabled ag, SL ap d.1.Raised ah, SL aq d.1.Cpus ai]) es (eL true 4 0 (ce.blk 6 rfl)) (wR 1 [(0, SL l g k), (3, pB ae 0), (4, SL t d.2 u), (5, pB x 0), (6, SL z c.2.1 y), (7, .bool c.2.2), (53, .agg #[SL an d.1.Routes af, SL ao d.1.Enabled ag, SL ap d.1.Raised ah, SL aq d.1.Cpus ai]), (54, SL t d.2 u)] es (GD hm fun J lp hm => WC ((c_s_RunMachine es d.1 an af (fu.r ce 0) ao ag (fv.r ce 1) ap ah (fw.r ce 2) aq ai (fx.r2 ce 3 4) d.2 t u (ck.r ce 5) lp).mono ?_))))))
 rintro e_ mr ⟨c5, cw, n2, c6, cx, n3, c7, cy, n4, c8, cz, n5, n6, c9, c0, n7, rfl, ko, kp, kq, kr, ks, ia⟩
 have i1 := ce.call ia
 refine ⟨_, rfl, ?_⟩
 refine MW 4 (wN (CE 32 [SN, SN, SN, SN]) i1 fun d2 ox i2 => wS true 4 0 (.agg #[SL c5 J.1.Routes cw, SL c6 J.1.Enabled cx, SL c7 J.1.Raised cy, SL c8 J.1.Cpus cz]) 20 [SL c5 J.1.Routes cw, SL c6 J.1.Enabled cx, SL c7 J.1.Raised cy, SL c8 J.1.Cpus cz] i2 rfl fun dq dw => MW 2 (NE (GD hm fun l9 kt ke => G_meet (fun a w' => Mem [] w w' [hu, hv, hw, hx, hy, cc, (BK ae 32 [SL an d.1.Routes af, SL ao d.1.Enabled ag, SL ap d.1.Raised ah, SL aq d.1.Cpus ai]), b1, b2, b3, b4, b5, b6, (BK x 32 [SL X c.1.Routes T, SL Y c.1.Enabled U, SL Z c.1.Raised V, SL aa c.1.Cpus W])] ∧ Sat Tryz.f11.ntmps [(0, SL l g k), (3, pB ae 0), (4, SL t d.2 u), (5, pB x 0), (6, SL z c.2.1 y), (7, .bool c.2.2), (73, .bool l9)] a) ?_ ?_)))
 ·have hm := kt
  refine GR (wR 4 [(0, SL l g k), (3, pB ae 0), (4, SL t d.2 u), (5, pB x 0), (6, SL z c.2.1 y), (7, .bool c.2.2), (8, pB d2 0), (9, SL c9 J.2.1 c0), (62, .bool (!(c.2.2 == J.2.2)))] dq ?_)
  rcases gx_bif hm with ⟨fc, hm⟩ | ⟨fc, hm⟩
  ·refine wK 62 true fc (MW 11 (WN ?_))
   obtain rfl := HS hm
   exact NM fun a ha => ⟨dw.pk [0, 1, 2, 3, 4, 5, 6, 7, 8, 9, 10, 11, 12, 13], ha.s⟩
  refine wK 62 false fc (MW 2 (GD hm fun mh lq hm => WD (c_l_vInts dq c.2.1 z y (hd.r dw 12) J.2.1 c9 c0 (ks.r dw 19) lq) dw fun dr a9 => wR 3 [(0, SL l g k), (3, pB ae 0), (4, SL t d.2 u), (5, pB x 0), (6, SL z c.2.1 y), (7, .bool c.2.2), (8, pB d2 0), (68, .bool (!mh))] dr ?_))
  rcases gx_bif hm with ⟨fd, hm⟩ | ⟨fd, hm⟩
  ·refine wK 68 true fd (MW 5 (WN ?_))
   obtain rfl := HS hm
   exact NM fun a ha => ⟨a9.pk [0, 1, 2, 3, 4, 5, 6, 7, 8, 9, 10, 11, 12, 13], ha.s⟩
  refine wK 68 false fd (wV (.agg #[SL X c.1.Routes T, SL Y c.1.Enabled U, SL Z c.1.Raised V, SL aa c.1.Cpus W]) dr (eL true 4 0 (a9.blk 13 rfl)) (wV (.agg #[SL c5 J.1.Routes cw, SL c6 J.1.Enabled cx, SL c7 J.1.Raised cy, SL c8 J.1.Cpus cz]) dr (eL true 4 0 (a9.blk 20 rfl)) (GD hm fun mi lr hm => WD (c_l_vMachine dr c.1 X T (g8.r a9 7) Y U (g9.r a9 8) Z V (hb.r a9 9) aa W (hc.r2 a9 10 11) J.1 c5 cw (ko.r a9 14) c6 cx (kp.r a9 15) c7 cy (kq.r a9 16) c8 cz (kr.r2 a9 17 18) lr) a9 fun ms i3 => MW 2 (WN ?_))))
  obtain rfl := HS hm
  exact NM fun a ha => ⟨i3.pk [0, 1, 2, 3, 4, 5, 6, 7, 8, 9, 10, 11, 12, 13], ha.s⟩
 intro nf go ⟨dx, jz⟩
 refine N_use jz ?_
 have hm := ke
 refine TN (GT hm (fun fe hm => ?_) fun fe hm => ?_)
 ·refine QA (MW 1 (ND ?_))
  obtain rfl := HS hm
  exact RA [.bool false] (⟨rfl, dx.pk []⟩)
 refine KB (MW 1 (NO (GD hm fun mf ku g6 => G_meet (fun a w' => ∃ (hp : Unit), mf = .inl hp ∧ Mem [] w w' [] ∧ Sat Tryz.f11.ntmps [(0, SL l g k)] a) ?_ ?_)))
 ·have hm := ku
  refine GT hm (fun ff hm => ?_) fun ff hm => ?_
  ·refine QA (wV (.agg #[SL an d.1.Routes af, SL ao d.1.Enabled ag, SL ap d.1.Raised ah, SL aq d.1.Cpus ai]) go (eL true 4 0 (dx.blk 6 rfl)) (wL (E := Gx.encI) ([] : List Int) 0 [] 3 dx fun gb e5 mn oy kv i4 => wN (CE 32 [SN, SN, SN, SN]) i4 fun O oz i5 => wS true 4 0 (.agg #[SL an d.1.Routes af, SL ao d.1.Enabled ag, SL ap d.1.Raised ah, SL aq d.1.Cpus ai]) 15 [SL an d.1.Routes af, SL ao d.1.Enabled ag, SL ap d.1.Raised ah, SL aq d.1.Cpus ai] i5 rfl fun hz i6 => MW 1 (NB (MW 1 (NO (GD hm fun N l7 kn => G_meet (fun a w' => ∃ cl ch gh da c1 gi db c2 gj dc c3 gk dd c4 gl gm, ownS Gx.encI N.1 cl ch gh ∧ ownS encRoute N.2.1 da c1 gi ∧ ownS Gx.encB N.2.2.1 db c2 gj ∧ ownS Gx.encB N.2.2.2.1 dc c3 gk ∧ ownD deepInterface N.2.2.2.2 dd c4 gl gm ∧ Mem [] w w' [b1, b2, b3, b4, b5, b6, (BK x 32 [SL X c.1.Routes T, SL Y c.1.Enabled U, SL Z c.1.Raised V, SL aa c.1.Cpus W]), (BK O 32 [SL da N.2.1 c1, SL db N.2.2.1 c2, SL dc N.2.2.2.1 c3, SL dd N.2.2.2.2 c4]), gh, gi, gj, gk, gl, gm] ∧ Sat Tryz.f11.ntmps [(0, SL l g k), (5, pB x 0), (6, SL z c.2.1 y), (11, pB O 0), (12, SL cl N.1 ch)] a) ?_ ?_))))))
   ·refine GB (G_while (σ := List Int × Int × List Route × List Bool × List Bool × List Interface) (ρ := List Int × List Route × List Bool × List Bool × List Interface) (fun m a w' => ∃ a7 a6 b0 a0 aw b7 a3 ax b8 a4 ay b9 a5 az ca cb, ownS Gx.encI m.1 a7 a6 b0 ∧ ownS encRoute m.2.2.1 a0 aw b7 ∧ ownS Gx.encB m.2.2.2.1 a3 ax b8 ∧ ownS Gx.encB m.2.2.2.2.1 a4 ay b9 ∧ ownD deepInterface m.2.2.2.2.2 a5 az ca cb ∧ Mem [] w w' [cc, b1, b2, b3, b4, b5, b6, (BK x 32 [SL X c.1.Routes T, SL Y c.1.Enabled U, SL Z c.1.Raised V, SL aa c.1.Cpus W]), (BK O 32 [SL a0 m.2.2.1 aw, SL a3 m.2.2.2.1 ax, SL a4 m.2.2.2.2.1 ay, SL a5 m.2.2.2.2.2 az]), b0, b7, b8, b9, ca, cb] ∧ Sat Tryz.f11.ntmps [(0, SL l g k), (4, SL t d.2 u), (5, pB x 0), (6, SL z c.2.1 y), (11, pB O 0), (12, SL a7 m.1 a6), (13, iv m.2.1)] a) l7 (fun a ha => ⟨gb, e5, mn, an, af, hu, ao, ag, hv, ap, ah, hw, aq, ai, hx, hy, kv, fu, fv, fw, fx, i6.pk [5, 7, 8, 9, 10, 11, 12, 13, 15, 14, 0, 1, 2, 3, 4], ha.s⟩) ?_)
    clear hm
    intro m pc hm ll ng mt ⟨a7, a6, b0, a0, aw, b7, a3, ax, b8, a4, ay, b9, a5, az, ca, cb, d8, fy, fz, f0, f1, gt, j0⟩
    refine G_use j0 (QB (MW 4 (NO (GT hm (fun fg hm => ?_) fun fg hm => ?_))))
    ·refine GK (TN (GS (GD hm fun bo k1 kf => G_meet (fun a w' => ∃ dl dh ee d9 d3 ef ea d4 eg eb d5 eh ec d6 ei ej, ownS Gx.encI bo.1 dl dh ee ∧ ownS encRoute bo.2.1 d9 d3 ef ∧ ownS Gx.encB bo.2.2.1 ea d4 eg ∧ ownS Gx.encB bo.2.2.2.1 eb d5 eh ∧ ownD deepInterface bo.2.2.2.2 ec d6 ei ej ∧ Mem [] w w' [cc, b1, b2, b3, b4, b5, b6, (BK x 32 [SL X c.1.Routes T, SL Y c.1.Enabled U, SL Z c.1.Raised V, SL aa c.1.Cpus W]), (BK O 32 [SL d9 bo.2.1 d3, SL ea bo.2.2.1 d4, SL eb bo.2.2.2.1 d5, SL ec bo.2.2.2.2 d6]), ee, ef, eg, eh, ei, ej] ∧ Sat Tryz.f11.ntmps [(0, SL l g k), (4, SL t d.2 u), (5, pB x 0), (6, SL z c.2.1 y), (11, pB O 0), (12, SL dl bo.1 dh), (13, iv m.2.1)] a) ?_ ?_)))
     ·have hm := k1
      refine GB (GS (GD hm fun P ho hm => GD hm fun b ls hm => GU [(0, SL l g k), (4, SL t d.2 u), (5, pB x 0), (6, SL z c.2.1 y), (11, pB O 0), (12, SL a7 m.1 a6), (13, iv m.2.1), (80, .bool (decide (m.2.1 < (d.2.length : Int))))] (DL 13 [[],[],[],[1,2],[3],[0,4],[],[6],[6],[6],[],[7,10],[8]] [[],[],[],[],[],[],[],[],[],[],[],[10],[]] (EM 13) [[],[],[],[],[],[],[5],[5],[5],[5],[],[5],[]] [[],[],[],[],[],[],[5],[5],[],[],[],[5,10],[]] (EM 13) (fun _ => []) [QV (.agg #[SL a0 m.2.2.1 aw, SL a3 m.2.2.2.1 ax, SL a4 m.2.2.2.2.1 ay, SL a5 m.2.2.2.2.2 az]), QV (.slice t d.2.length u), QV (iv m.2.1), QV (elemP t (m.2.1.toNat * 4)), QV (.agg #[iv P.Kind, iv P.Irq, iv P.Cpu, iv P.Value]), fun f v s => ∃ F A ba G B bb H C bc I D bd be, v = (.tuple #[.agg #[SL F b.1.Routes A, SL G b.1.Enabled B, SL H b.1.Raised C, SL I b.1.Cpus D], iv b.2.1, .bool b.2.2] : Value) ∧ s = (ba ++ (bb ++ (bc ++ (bd ++ be)))) ∧ ownS encRoute b.1.Routes F A ba ∧ ownS Gx.encB b.1.Enabled G B bb ∧ ownS Gx.encB b.1.Raised H C bc ∧ ownD deepInterface b.1.Cpus I D bd be, fun f v s => v = (.tuple #[.agg #[(atPath (f 5) [0, 0]), (atPath (f 5) [0, 1]), (atPath (f 5) [0, 2]), (atPath (f 5) [0, 3])], iv b.2.1, .bool b.2.2] : Value) ∧ s = [], fun f v s => v = (.agg #[(atPath (f 5) [0, 0]), (atPath (f 5) [0, 1]), (atPath (f 5) [0, 2]), (atPath (f 5) [0, 3])] : Value) ∧ s = [], QV (iv b.2.1), QV (.bool b.2.2), fun f v s => ∃ ab, v = (pB ab 0 : Value) ∧ s = (BK ab 32 [SN, SN, SN, SN]), fun f v s => v = undef ∧ s = [((blkOf (f 10)), .cells ⟨[(atPath (f 5) [0, 0]), (atPath (f 5) [0, 1]), (atPath (f 5) [0, 2]), (atPath (f 5) [0, 3])]⟩ 32 (0, 0))], QV (iv b.2.1)] [10] [5, 9, 11, 12] [5, 11] (gt.preNil 13) (AC ?_ (AC ?_ (AC ?_ (AC ?_ (AC ?_ (AC ?_ (AC ?_ (AC ?_ (AC ?_ (AC ?_ (AC ?_ (AC ?_ (AC ?_ AN))))))))))))) ?_)))
      ·intro am a8 R mu gu
       exact OV ⟨rfl, rfl⟩ (eL true 4 0 (gu.blk 8 rfl)) gu
      ·intro am a8 R mv i7
       exact OM ⟨rfl, rfl⟩ i7
      ·intro am a8 R mw i8
       exact OM ⟨rfl, rfl⟩ i8
      ·rintro am a8 v1_ ⟨rfl, _⟩
       rintro v2_ ⟨rfl, _⟩ R mx gv
       exact OV ⟨rfl, rfl⟩ (eI (ck.r gv 0) rfl ho) gv
      ·rintro am a8 v3_ ⟨rfl, _⟩ R my gw
       exact OV ⟨rfl, rfl⟩ (eE true 4 0 (m.2.1.toNat * 4) (ck.r gw 0) ho) gw
      ·rintro am a8 v0_ ⟨rfl, _⟩
       rintro v4_ ⟨rfl, _⟩ R mz df
       refine WC ((c_i_StepMachine mz (⟨m.2.2.1, m.2.2.2.1, m.2.2.2.2.1, m.2.2.2.2.2⟩ : Machine) a0 aw (fy.r df 10) a3 ax (fz.r df 11) a4 ay (f0.r df 12) a5 az (f1.r2 df 13 14) P ls).mono ?_)
       rintro e_ o0 ⟨F, A, ba, G, B, bb, H, C, bc, I, D, bd, be, rfl, f2, f3, f4, f5, ie⟩
       refine ⟨_, rfl, ?_⟩
       exact WN (oE (.tuple #[.agg #[SL F b.1.Routes A, SL G b.1.Enabled B, SL H b.1.Raised C, SL I b.1.Cpus D], iv b.2.1, .bool b.2.2]) (ba ++ (bb ++ (bc ++ (bd ++ be)))) ⟨F, A, ba, G, B, bb, H, C, bc, I, D, bd, be, rfl, rfl, f2, f3, f4, f5⟩ (Mem.callMid df (ie.permF (by simp))))
      ·intro am a8 v5_ hb5_
       obtain ⟨_, F, A, _, G, B, _, H, C, _, I, D, _, _, rfl, _⟩ := hb5_
       intro R m0 i9
       exact OM ⟨rfl, rfl⟩ i9
      ·intro am a8 v5_ hb5_
       obtain ⟨_, F, A, _, G, B, _, H, C, _, I, D, _, _, rfl, _⟩ := hb5_
       intro v6_ hb6_
       obtain ⟨hv6_, _⟩ := hb6_
       obtain rfl : v6_ = (.tuple #[.agg #[SL F b.1.Routes A, SL G b.1.Enabled B, SL H b.1.Raised C, SL I b.1.Cpus D], iv b.2.1, .bool b.2.2] : Value) := hv6_.trans (by kernel_rfl)
       intro R m1 ja
       exact OM ⟨rfl, rfl⟩ ja
      ·intro am a8 v5_ hb5_
       obtain ⟨_, F, A, _, G, B, _, H, C, _, I, D, _, _, rfl, _⟩ := hb5_
       intro v6_ hb6_
       obtain ⟨hv6_, _⟩ := hb6_
       obtain rfl : v6_ = (.tuple #[.agg #[SL F b.1.Routes A, SL G b.1.Enabled B, SL H b.1.Raised C, SL I b.1.Cpus D], iv b.2.1, .bool b.2.2] : Value) := hv6_.trans (by kernel_rfl)
       intro R m2 jb
       exact OM ⟨rfl, rfl⟩ jb
      ·intro am a8 v5_ hb5_
       obtain ⟨_, F, A, _, G, B, _, H, C, _, I, D, _, _, rfl, _⟩ := hb5_
       intro v6_ hb6_
       obtain ⟨hv6_, _⟩ := hb6_
       obtain rfl : v6_ = (.tuple #[.agg #[SL F b.1.Routes A, SL G b.1.Enabled B, SL H b.1.Raised C, SL I b.1.Cpus D], iv b.2.1, .bool b.2.2] : Value) := hv6_.trans (by kernel_rfl)
       intro R m3 jc
       exact OM ⟨rfl, rfl⟩ jc
      ·intro am a8 R o1 jd
       exact wN (CE 32 [SN, SN, SN, SN]) jd fun ab o2 je => WN (oE (pB ab 0) (BK ab 32 [SN, SN, SN, SN]) ⟨ab, rfl, rfl⟩ (Mem.mid je))
      ·intro am a8 v5_ hb5_
       obtain ⟨_, F, A, _, G, B, _, H, C, _, I, D, _, _, rfl, _⟩ := hb5_
       intro v7_ hb7_
       obtain ⟨hv7_, _⟩ := hb7_
       obtain rfl : v7_ = (.agg #[SL F b.1.Routes A, SL G b.1.Enabled B, SL H b.1.Raised C, SL I b.1.Cpus D] : Value) := hv7_.trans (by kernel_rfl)
       intro v10_ hb10_
       obtain ⟨ab, rfl, hs10_⟩ := hb10_
       intro R h0 jf
       have dy : Mem [] w h0 ([cc, b1, b2, b3, b4, b5, b6, (BK x 32 [SL X c.1.Routes T, SL Y c.1.Enabled U, SL Z c.1.Raised V, SL aa c.1.Cpus W]), (BK O 32 [SL a0 m.2.2.1 aw, SL a3 m.2.2.2.1 ax, SL a4 m.2.2.2.2.1 ay, SL a5 m.2.2.2.2.2 az]), b0, b7, b8, b9, ca, cb] ++ ([[]] ++ ([(am 10)] ++ ([] ++ R)))) := jf
       rw [hs10_] at dy
       replace dy : Mem [] w h0 ([cc, b1, b2, b3, b4, b5, b6, (BK x 32 [SL X c.1.Routes T, SL Y c.1.Enabled U, SL Z c.1.Raised V, SL aa c.1.Cpus W]), (BK O 32 [SL a0 m.2.2.1 aw, SL a3 m.2.2.2.1 ax, SL a4 m.2.2.2.2.1 ay, SL a5 m.2.2.2.2.2 az]), b0, b7, b8, b9, ca, cb] ++ ([[]] ++ ([(BK ab 32 [SN, SN, SN, SN])] ++ ([] ++ R)))) := dy.permF (by simp)
       exact wS true 4 0 (.agg #[SL F b.1.Routes A, SL G b.1.Enabled B, SL H b.1.Raised C, SL I b.1.Cpus D]) 16 [SL F b.1.Routes A, SL G b.1.Enabled B, SL H b.1.Raised C, SL I b.1.Cpus D] dy rfl fun o3 jg => WN (ob_none (BK ab 32 [SL F b.1.Routes A, SL G b.1.Enabled B, SL H b.1.Raised C, SL I b.1.Cpus D]) rfl ⟨rfl, by kernel_rfl⟩ (Mem.takeOver jg))
      ·rintro am a8 v8_ ⟨rfl, _⟩ R m4 jh
       exact OM ⟨rfl, rfl⟩ jh
      intro am a8 v10_ hb10_
      obtain ⟨_, ab, rfl, hs10_⟩ := hb10_
      intro v5_ hb5_
      obtain ⟨F, A, ba, G, B, bb, H, C, bc, I, D, bd, be, rfl, hs5_, f2, f3, f4, f5⟩ := hb5_
      rintro v9_ ⟨rfl, _⟩ v11_ hb11_
      obtain ⟨rfl, hs11_⟩ := hb11_
      replace hs11_ := hs11_.trans (show _ = (BK ab 32 [SL F b.1.Routes A, SL G b.1.Enabled B, SL H b.1.Raised C, SL I b.1.Cpus D]) by kernel_rfl)
      rintro v12_ ⟨rfl, _⟩ ds ji
      have cf : Mem [] w ds [cc, b1, b2, b3, b4, b5, b6, (BK x 32 [SL X c.1.Routes T, SL Y c.1.Enabled U, SL Z c.1.Raised V, SL aa c.1.Cpus W]), (BK O 32 [SL a0 m.2.2.1 aw, SL a3 m.2.2.2.1 ax, SL a4 m.2.2.2.2.1 ay, SL a5 m.2.2.2.2.2 az]), b0, b7, b8, b9, ca, cb, ba, bb, bc, bd, be, (BK ab 32 [SL F b.1.Routes A, SL G b.1.Enabled B, SL H b.1.Raised C, SL I b.1.Cpus D])] := ji.permF (by simp [hs5_, hs11_, SL])
      refine MW 1 (NB (wR 2 [(0, SL l g k), (4, SL t d.2 u), (5, pB x 0), (6, SL z c.2.1 y), (11, pB O 0), (12, SL a7 m.1 a6), (13, iv m.2.1), (14, pB ab 0), (15, iv b.2.1), (94, .bool (!b.2.2))] ds (NO (GT hm (fun fh hm => ?_) fun fh hm => ?_))))
      ·refine G_exit (TE (N_block_eq ?_))
       obtain rfl := HS hm
       exact NM fun a ha => ⟨a7, a6, b0, a0, aw, b7, a3, ax, b8, a4, ay, b9, a5, az, ca, cb, d8, fy, fz, f0, f1, cf.pk [0, 1, 2, 3, 4, 5, 6, 7, 8, 9, 10, 11, 12, 13, 14], ha.s⟩
      refine KA (wV (.agg #[SL F b.1.Routes A, SL G b.1.Enabled B, SL H b.1.Raised C, SL I b.1.Cpus D]) ds (eL true 4 0 (cf.blk 20 rfl)) (wS true 4 0 (.agg #[SL F b.1.Routes A, SL G b.1.Enabled B, SL H b.1.Raised C, SL I b.1.Cpus D]) 8 [SL F b.1.Routes A, SL G b.1.Enabled B, SL H b.1.Raised C, SL I b.1.Cpus D] cf rfl fun de dg => NA (MW 2 (GD hm fun h6 ga hm => wV (elemP t (m.2.1.toNat * 4)) de (eI (ck.r dg 0) rfl ga) (wV (elemP t (m.2.1.toNat * 4 + 0)) de (eF 0 (m.2.1.toNat * 4) 0 (ck.r dg 0) ga) (wV (iv h6.Kind) de (eE false 1 0 (m.2.1.toNat * 4 + 0) (ck.r dg 0) ga) (MW 1 (NO (GD hm fun hq k7 kg => G_meet (fun a w' => ∃ ed d7 ek, ownS Gx.encI hq ed d7 ek ∧ Mem [] w w' [cc, b1, b2, b3, b4, b5, b6, (BK x 32 [SL X c.1.Routes T, SL Y c.1.Enabled U, SL Z c.1.Raised V, SL aa c.1.Cpus W]), (BK O 32 [SL F b.1.Routes A, SL G b.1.Enabled B, SL H b.1.Raised C, SL I b.1.Cpus D]), ba, bb, bc, bd, be, ek] ∧ Sat Tryz.f11.ntmps [(0, SL l g k), (4, SL t d.2 u), (5, pB x 0), (6, SL z c.2.1 y), (11, pB O 0), (12, SL ed hq d7), (13, iv m.2.1)] a) ?_ ?_)))))))))
      ·have hm := k7
       refine GT hm (fun fi hm => ?_) fun fi hm => ?_
       ·refine GR (MW 2 (wL (E := Gx.encI) [b.2.1] 1 [iv b.2.1] 3 dg fun n0 nu n8 o4 k9 gx => GD hm fun jy kd hm => wA 8 [iv 0] 9 gx d8 (k9.r gx 21) kd fun ht g5 mo m5 la jj => MW 1 (WN ?_)))
        obtain rfl := HS hm
        exact NM fun a ha => ⟨ht, g5, mo, la, jj.pk [0, 1, 2, 3, 4, 5, 6, 7, 8, 15, 16, 17, 18, 19, 9], ha.s⟩
       refine GK ?_
       obtain rfl := HS hm
       exact NM fun a ha => ⟨a7, a6, b0, d8, dg.pk [0, 1, 2, 3, 4, 5, 6, 7, 8, 15, 16, 17, 18, 19, 9], ha.s⟩
      intro nh o5 ⟨ed, d7, ek, k8, jk, j1⟩
      refine N_use j1 ?_
      have hm := kg
      refine BN ?_
      obtain rfl := HS hm
      exact NM fun a ha => ⟨ed, d7, ek, F, A, ba, G, B, bb, H, C, bc, I, D, bd, be, k8, f2, f3, f4, f5, jk.pk [0, 1, 2, 3, 4, 5, 6, 7, 8, 14, 9, 10, 11, 12, 13], ha.s⟩
     intro ni m6 ⟨dl, dh, ee, d9, d3, ef, ea, d4, eg, eb, d5, eh, ec, d6, ei, ej, k2, k3, k4, k5, k6, jl, j2⟩
     refine N_use j2 ?_
     have hm := kf
     refine TN (GR (MW 3 (WN ?_)))
     cases hm
     exact N_loop fun a ha => ⟨_, rfl, dl, dh, ee, d9, d3, ef, ea, d4, eg, eb, d5, eh, ec, d6, ei, ej, k2, k3, k4, k5, k6, jl.pk [0, 1, 2, 3, 4, 5, 6, 7, 8, 9, 10, 11, 12, 13, 14], ha.s⟩
    refine XA ?_
    obtain rfl := HS hm
    obtain rfl := ll _ rfl
    exact NM fun a ha => ⟨a7, a6, b0, a0, aw, b7, a3, ax, b8, a4, ay, b9, a5, az, ca, cb, d8, fy, fz, f0, f1, gt.pk [1, 2, 3, 4, 5, 6, 7, 8, 9, 10, 11, 12, 13, 14], ha.s⟩
   intro nj gp ⟨cl, ch, gh, da, c1, gi, db, c2, gj, dc, c3, gk, dd, c4, gl, gm, kw, kx, ky, kz, k0, bf, j3⟩
   refine N_use j3 ?_
   have hm := kn
   refine TN (GS (GD hm fun ma lb kh => G_meet (fun a w' => Mem [] w w' [] ∧ Sat Tryz.f11.ntmps [(0, SL l g k), (115, .bool ma)] a) ?_ ?_))
   ·have hm := lb
    refine GR (wV (.agg #[SL da N.2.1 c1, SL db N.2.2.1 c2, SL dc N.2.2.2.1 c3, SL dd N.2.2.2.2 c4]) gp (eL true 4 0 (bf.blk 7 rfl)) (wV (.agg #[SL X c.1.Routes T, SL Y c.1.Enabled U, SL Z c.1.Raised V, SL aa c.1.Cpus W]) gp (eL true 4 0 (bf.blk 6 rfl)) (GD hm fun mj lt hm => WD (c_l_vMachine gp (⟨N.2.1, N.2.2.1, N.2.2.2.1, N.2.2.2.2⟩ : Machine) da c1 (kx.r bf 9) db c2 (ky.r bf 10) dc c3 (kz.r bf 11) dd c4 (k0.r2 bf 12 13) c.1 X T (g8.r bf 0) Y U (g9.r bf 1) Z V (hb.r bf 2) aa W (hc.r2 bf 3 4) lt) bf fun et dz => wR 2 [(0, SL l g k), (6, SL z c.2.1 y), (12, SL cl N.1 ch), (110, .bool (!mj))] et ?_)))
    rcases gx_bif hm with ⟨fj, hm⟩ | ⟨fj, hm⟩
    ·refine wK 110 true fj (MW 5 (WN ?_))
     obtain rfl := HS hm
     exact NM fun a ha => ⟨dz.pk [], ha.s⟩
    refine wK 110 false fj (MW 2 (GD hm fun mk lu hm => WD (c_l_vInts et N.1 cl ch (kw.r dz 8) c.2.1 z y (hd.r dz 5) lu) dz fun m7 jm => MW 2 (WN ?_)))
    obtain rfl := HS hm
    exact NM fun a ha => ⟨jm.pk [], ha.s⟩
   intro nk m8 ⟨gy, j4⟩
   refine N_use j4 ?_
   have hm := kh
   refine TN (GT hm (fun fk hm => ?_) fun fk hm => ?_)
   ·refine QA (MW 1 (NC (N_meet_ret ?_)))
    obtain rfl := HS hm
    have hm := g6
    simp only [Sum.elim_inr] at hm
    refine TR ?_
    obtain rfl := HS hm
    exact RA [.bool false] (⟨rfl, gy.pk []⟩)
   refine GK ?_
   obtain rfl := HS hm
   exact NM fun a ha => ⟨_, rfl, gy.pk [], ha.s⟩
  refine GK ?_
  obtain rfl := HS hm
  exact NM fun a ha => ⟨_, rfl, dx.pk [], ha.s⟩
 intro nl h1 ⟨hp, hout_, gz, j5⟩
 refine N_use j5 ?_
 subst hout_
 have hm := g6
 simp only [Sum.elim_inl] at hm
 refine NF (MW 1 (GD hm fun n lv hm => WC ((c_s_DrawIsIdle h1 g l k (dk.mem0 gz) lv).mono ?_)))
 rintro e_ o6 ⟨ar, aj, el, au, ak, em, av, al, en, ad, ac, eo, ep, rfl, f6, f7, f8, f9, ii⟩
 have jn := gz.call ii
 refine ⟨_, rfl, ?_⟩
 refine wN (CE 32 [SN, SN, SN, SN]) jn fun L o7 jo => wS true 4 0 (.agg #[SL ar n.Routes aj, SL au n.Enabled ak, SL av n.Raised al, SL ad n.Cpus ac]) 5 [SL ar n.Routes aj, SL au n.Enabled ak, SL av n.Raised al, SL ad n.Cpus ac] jo rfl fun h2 cq => NA (wV (.agg #[SL ar n.Routes aj, SL au n.Enabled ak, SL av n.Raised al, SL ad n.Cpus ac]) h2 (eL true 4 0 (cq.blk 5 rfl)) (GD hm fun K lw hm => WD (c_i_IsIdle h2 n ar aj (f6.r cq 0) au ak (f7.r cq 1) av al (f8.r cq 2) ad ac (f9.r2 cq 3 4) lw) cq fun gq cr => MW 5 (NB (wV (.agg #[SL ar n.Routes aj, SL au n.Enabled ak, SL av n.Raised al, SL ad n.Cpus ac]) gq (eL true 4 0 (cr.blk 5 rfl)) (GD hm fun dp lx hm => WD (c_s_IsIdle gq n ar aj (f6.r cr 0) au ak (f7.r cr 1) av al (f8.r cr 2) ad ac (f9.r2 cr 3 4) lx) cr fun eu g0 => wR 5 [(0, SL l g k), (17, pB L 0), (18, .bool K.1), (19, .bool K.2), (20, .bool dp.1), (21, .bool dp.2)] eu (NE (GD hm fun mb lc ki => G_meet (fun a w' => Mem [] w w' [el, em, en, eo, ep, (BK L 32 [SL ar n.Routes aj, SL au n.Enabled ak, SL av n.Raised al, SL ad n.Cpus ac])] ∧ Sat Tryz.f11.ntmps [(0, SL l g k), (17, pB L 0), (18, .bool K.1), (135, .bool mb)] a) ?_ ?_)))))))
 ·have hm := lc
  refine GR (wR 4 [(0, SL l g k), (17, pB L 0), (18, .bool K.1), (19, .bool K.2), (21, .bool dp.2), (131, .bool (!(K.1 == dp.1)))] eu ?_)
  rcases gx_bif hm with ⟨fl, hm⟩ | ⟨fl, hm⟩
  ·refine wK 131 true fl (MW 4 (WN ?_))
   obtain rfl := HS hm
   exact NM fun a ha => ⟨g0.pk [0, 1, 2, 3, 4, 5], ha.s⟩
  refine wK 131 false fl (MW 4 (WN ?_))
  obtain rfl := HS hm
  exact NM fun a ha => ⟨g0.pk [0, 1, 2, 3, 4, 5], ha.s⟩
 intro nm h3 ⟨g1, j6⟩
 refine N_use j6 ?_
 have hm := ki
 refine TN (GT hm (fun fm hm => ?_) fun fm hm => ?_)
 ·refine QA (MW 1 (ND ?_))
  obtain rfl := HS hm
  exact RA [.bool false] (⟨rfl, g1.pk []⟩)
 refine KB (MW 1 (NO (GD hm fun mg l8 g7 => G_meet (fun a w' => ∃ (hr : Unit), mg = .inl hr ∧ Mem [] w w' [] ∧ Sat Tryz.f11.ntmps [(0, SL l g k)] a) ?_ ?_)))
 ·refine GB (G_while (σ := Int) (ρ := (Unit) ⊕ (Bool)) (fun Q a w' => Mem [] w w' [el, em, en, eo, ep, (BK L 32 [SL ar n.Routes aj, SL au n.Enabled ak, SL av n.Raised al, SL ad n.Cpus ac])] ∧ Sat Tryz.f11.ntmps [(0, SL l g k), (17, pB L 0), (18, .bool K.1), (22, iv Q)] a) l8 (fun a ha => ⟨g1.pk [0, 1, 2, 3, 4, 5], ha.s⟩) ?_)
  clear hm
  intro Q pd hm hn nn dt ⟨e1, j7⟩
  refine G_use j7 (GS (GS (GD hm fun mc ld kj => G_meet (fun a w' => Mem [] w w' [el, em, en, eo, ep, (BK L 32 [SL ar n.Routes aj, SL au n.Enabled ak, SL av n.Raised al, SL ad n.Cpus ac])] ∧ Sat Tryz.f11.ntmps [(0, SL l g k), (17, pB L 0), (18, .bool K.1), (22, iv Q), (143, .bool mc)] a) ?_ ?_)))
  ·have hm := ld
   refine GR (MW 2 (wV (SL ad n.Cpus ac) dt (eL false 1 3 (e1.blk 5 rfl)) (wR 3 [(0, SL l g k), (17, pB L 0), (18, .bool K.1), (22, iv Q), (141, .bool (decide (Q < (n.Cpus.length : Int))))] dt ?_)))
   rcases gx_bif hm with ⟨fn, hm⟩ | ⟨fn, hm⟩
   ·refine wK 141 true fn (MW 2 (WN ?_))
    obtain rfl := HS hm
    exact NM fun a ha => ⟨e1.pk [0, 1, 2, 3, 4, 5], ha.s⟩
   refine wK 141 false fn (MW 2 (WN ?_))
   obtain rfl := HS hm
   exact NM fun a ha => ⟨e1.pk [0, 1, 2, 3, 4, 5], ha.s⟩
  intro no gr ⟨cg, j8⟩
  refine N_use j8 ?_
  have hm := kj
  refine TN (GT hm (fun fo hm => ?_) fun fo hm => ?_)
  ·refine KD (wV (.agg #[SL ar n.Routes aj, SL au n.Enabled ak, SL av n.Raised al, SL ad n.Cpus ac]) gr (eL true 4 0 (cg.blk 5 rfl)) (MW 1 (GD hm fun S ly hm => WC ((c_i_DrainCpu gr n ar aj (f6.r cg 0) au ak (f7.r cg 1) av al (f8.r cg 2) ad ac (f9.r2 cg 3 4) Q ly).mono ?_))))
   rintro e_ m9 ⟨gc, e6, n9, gd, e7, oa, ge, e8, ob, gf, e9, oc, od, gg, fa, oe, rfl, nv, nw, nx, ny, nz, il⟩
   have jp := cg.call il
   refine ⟨_, rfl, ?_⟩
   refine MW 4 (wN (CE 32 [SN, SN, SN, SN]) jp fun nt o8 jq => wS true 4 0 (.agg #[SL gc S.1.Routes e6, SL gd S.1.Enabled e7, SL ge S.1.Raised e8, SL gf S.1.Cpus e9]) 12 [SL gc S.1.Routes e6, SL gd S.1.Enabled e7, SL ge S.1.Raised e8, SL gf S.1.Cpus e9] jq rfl fun ev g2 => MW 2 (NE (GD hm fun md le kk => G_meet (fun a w' => Mem [] w w' [el, em, en, eo, ep, (BK L 32 [SL ar n.Routes aj, SL au n.Enabled ak, SL av n.Raised al, SL ad n.Cpus ac])] ∧ Sat Tryz.f11.ntmps [(0, SL l g k), (17, pB L 0), (18, .bool K.1), (22, iv Q), (159, .bool md)] a) ?_ ?_)))
   ·have hm := le
    refine GR (wR 3 [(0, SL l g k), (17, pB L 0), (18, .bool K.1), (22, iv Q), (24, SL gg S.2.1 fa), (155, .bool (!S.2.2))] ev ?_)
    rcases gx_bif hm with ⟨fp, hm⟩ | ⟨fp, hm⟩
    ·refine wK 155 true fp (MW 4 (WN ?_))
     obtain rfl := HS hm
     exact NM fun a ha => ⟨g2.pk [0, 1, 2, 3, 4, 5], ha.s⟩
    refine wK 155 false fp (MW 4 (WN ?_))
    obtain rfl := HS hm
    exact NM fun a ha => ⟨g2.pk [0, 1, 2, 3, 4, 5], ha.s⟩
   intro np h4 ⟨g3, j9⟩
   refine N_use j9 ?_
   have hm := kk
   refine TN (GT hm (fun fq hm => ?_) fun fq hm => ?_)
   ·refine QA (MW 1 (NX ?_))
    obtain rfl := HS hm
    obtain rfl := hn _ rfl
    have hm := g7; simp only [Sum.elim_inr] at hm
    refine BR (N_meet_ret (TR ?_))
    obtain rfl := HS hm
    exact RA [.bool false] (⟨rfl, g3.pk []⟩)
   refine KC (MW 3 (WN ?_))
   cases hm
   exact N_loop fun a ha => ⟨_, rfl, g3.pk [0, 1, 2, 3, 4, 5], ha.s⟩
  refine XA ?_
  obtain rfl := HS hm
  obtain rfl := hn _ rfl
  exact NM fun a ha => ⟨_, rfl, cg.pk [], ha.s⟩
 intro nq h5 ⟨hr, hout_, g4, ka⟩
 refine N_use ka ?_
 subst hout_
 have hm := g7; simp only [Sum.elim_inl] at hm
 refine NF (MW 1 (GD hm fun o lz hm => WC ((c_s_DrawPendingOn h5 g l k (dk.mem0 g4) lz).mono ?_)))
 rintro e_ na ⟨bp, bg, og, bq, bh, oh, br, bi, oi, bs, bj, oj, ok, rfl, he, hf, hg, hh, im⟩
 have jr := g4.call im
 refine ⟨_, rfl, ?_⟩
 refine MW 3 (wN (CE 32 [SN, SN, SN, SN]) jr fun e3 o9 js => wS true 4 0 (.agg #[SL bp o.1.Routes bg, SL bq o.1.Enabled bh, SL br o.1.Raised bi, SL bs o.1.Cpus bj]) 5 [SL bp o.1.Routes bg, SL bq o.1.Enabled bh, SL br o.1.Raised bi, SL bs o.1.Cpus bj] js rfl fun ew cs => MW 1 (NA (wV (.agg #[SL bp o.1.Routes bg, SL bq o.1.Enabled bh, SL br o.1.Raised bi, SL bs o.1.Cpus bj]) ew (eL true 4 0 (cs.blk 5 rfl)) (wR 1 [(0, SL l g k), (26, pB e3 0), (27, iv o.2), (166, .agg #[SL bp o.1.Routes bg, SL bq o.1.Enabled bh, SL br o.1.Raised bi, SL bs o.1.Cpus bj]), (167, iv o.2)] ew (GD hm fun bx l0 hm => WC ((c_i_PendingOn ew o.1 bp bg (he.r cs 0) bq bh (hf.r cs 1) br bi (hg.r cs 2) bs bj (hh.r2 cs 3 4) o.2 l0).mono ?_))))))
 rintro e_ ex ⟨cm, ci, ol, rfl, lf, io⟩
 have ct := cs.call io
 refine ⟨_, rfl, ?_⟩
 refine MW 5 (NB (wV (.agg #[SL bp o.1.Routes bg, SL bq o.1.Enabled bh, SL br o.1.Raised bi, SL bs o.1.Cpus bj]) ex (eL true 4 0 (ct.blk 5 rfl)) (MW 1 (GD hm fun co l1 hm => WC ((c_s_PendingOn ex o.1 bp bg (he.r ct 0) bq bh (hf.r ct 1) br bi (hg.r ct 2) bs bj (hh.r2 ct 3 4) o.2 l1).mono ?_)))))
 rintro e_ du ⟨dm, di, om, rfl, lg, ip⟩
 have d0 := ct.call ip
 refine ⟨_, rfl, ?_⟩
 refine MW 5 (NE (GD hm fun me lh kl => G_meet (fun a w' => Mem [] w w' [] ∧ Sat Tryz.f11.ntmps [(0, SL l g k), (185, .bool me)] a) ?_ ?_))
 ·have hm := lh
  refine GR (wR 4 [(0, SL l g k), (28, SL cm bx.1 ci), (30, SL dm co.1 di), (180, .bool (!(bx.2 == co.2)))] du ?_)
  rcases gx_bif hm with ⟨fr, hm⟩ | ⟨fr, hm⟩
  ·refine wK 180 true fr (MW 5 (WN ?_))
   obtain rfl := HS hm
   exact NM fun a ha => ⟨d0.pk [], ha.s⟩
  refine wK 180 false fr (MW 2 (GD hm fun ml l2 hm => WD (c_l_vInts du bx.1 cm ci (lf.r d0 6) co.1 dm di (lg.r d0 7) l2) d0 fun nb jt => MW 2 (WN ?_)))
  obtain rfl := HS hm
  exact NM fun a ha => ⟨jt.pk [], ha.s⟩
 intro nr gs ⟨e2, kb⟩
 refine N_use kb ?_
 have hm := kl
 refine TN (GT hm (fun fs hm => ?_) fun fs hm => ?_)
 ·refine QA (MW 1 (ND ?_))
  obtain rfl := HS hm
  exact RA [.bool false] (⟨rfl, e2.pk []⟩)
 refine KA (MW 1 (GD hm fun q l3 hm => WC ((c_s_DrawRunningOn gs g l k (dk.mem0 e2) l3).mono ?_)))
 rintro e_ nc ⟨bt, bk, on, bu, bl, oo, bv, bm, op, bw, bn, oq, os, rfl, hi, hj, hk, hl, ir⟩
 have ju := e2.call ir
 refine ⟨_, rfl, ?_⟩
 refine MW 3 (wN (CE 32 [SN, SN, SN, SN]) ju fun e4 pa jv => wS true 4 0 (.agg #[SL bt q.1.Routes bk, SL bu q.1.Enabled bl, SL bv q.1.Raised bm, SL bw q.1.Cpus bn]) 5 [SL bt q.1.Routes bk, SL bu q.1.Enabled bl, SL bv q.1.Raised bm, SL bw q.1.Cpus bn] jv rfl fun ey cu => MW 1 (NA (wV (.agg #[SL bt q.1.Routes bk, SL bu q.1.Enabled bl, SL bv q.1.Raised bm, SL bw q.1.Cpus bn]) ey (eL true 4 0 (cu.blk 5 rfl)) (wR 1 [(32, pB e4 0), (33, iv q.2), (192, .agg #[SL bt q.1.Routes bk, SL bu q.1.Enabled bl, SL bv q.1.Raised bm, SL bw q.1.Cpus bn]), (193, iv q.2)] ey (GD hm fun bz l4 hm => WC ((c_i_RunningOn ey q.1 bt bk (hi.r cu 0) bu bl (hj.r cu 1) bv bm (hk.r cu 2) bw bn (hl.r2 cu 3 4) q.2 l4).mono ?_))))))
 rintro e_ ez ⟨cn, cj, ot, rfl, li, it⟩
 have cv := cu.call it
 refine ⟨_, rfl, ?_⟩
 refine MW 5 (NA (wV (.agg #[SL bt q.1.Routes bk, SL bu q.1.Enabled bl, SL bv q.1.Raised bm, SL bw q.1.Cpus bn]) ez (eL true 4 0 (cv.blk 5 rfl)) (MW 1 (GD hm fun cp l5 hm => WC ((c_s_RunningOn ez q.1 bt bk (hi.r cv 0) bu bl (hj.r cv 1) bv bm (hk.r cv 2) bw bn (hl.r2 cv 3 4) q.2 l5).mono ?_)))))
 rintro e_ dv ⟨dn, dj, ou, rfl, lj, iu⟩
 have d1 := cv.call iu
 refine ⟨_, rfl, ?_⟩
 refine MW 5 (NE (GD hm fun hs lk km => G_meet (fun a w' => Mem [] w w' [] ∧ Sat Tryz.f11.ntmps [(2, .bool hs)] a) ?_ ?_))
 ·have hm := lk
  refine GR (wR 4 [(34, SL cn bz.1 cj), (36, SL dn cp.1 dj), (206, .bool (bz.2 == cp.2))] dv ?_)
  rcases gx_bif hm with ⟨ft, hm⟩ | ⟨ft, hm⟩
  ·refine wK 206 true ft (MW 2 (GD hm fun mm l6 hm => WD (c_l_vInts dv bz.1 cn cj (li.r d1 6) cp.1 dn dj (lj.r d1 7) l6) d1 fun nd jw => MW 2 (WN ?_)))
   obtain rfl := HS hm
   exact NM fun a ha => ⟨jw.pk [], ha.s⟩
  refine wK 206 false ft (MW 5 (WN ?_))
  obtain rfl := HS hm
  exact NM fun a ha => ⟨d1.pk [], ha.s⟩
 intro ns pb ⟨jx, kc⟩
 refine N_use kc ?_
 have hm := km
 refine TN (G_ret ?_)
 obtain rfl := HS hm
 exact RA [.bool hs] (⟨rfl, jx.pk []⟩)
end Go.Proofs.YtllhajkgkghhdaaGreat
set_option linter.unusedVariables false
set_option linter.unusedSimpArgs false
namespace Go.Gx
theorem w64_id {z : Int} (h1 : -9223372036854775808 ≤ z) (h2 : z ≤ 9223372036854775807) : w64 z = z := by
  unfold w64
  simp [IntKind.wrap, IntKind.bits, IntKind.signed, Int.bmod]
  omega
theorem while_for {σ ρ : Type} {body : σ → Option (σ ⊕ ρ)} (st : Nat → σ) (r : ρ) : ∀ (n k fuel : Nat), (∀ i, k ≤ i → i < k + n → body (st i) = some (.inl (st (i + 1)))) → body (st (k + n)) = some (.inr r) → n < fuel → whileM body fuel (st k) = some r
  | 0, k, fuel, _, he, hf => by
    obtain ⟨m, rfl⟩ : ∃ m, fuel = m + 1 := ⟨fuel - 1, by omega⟩
    rw [Nat.add_zero] at he
    simp only [whileM, he]
  | n + 1, k, fuel, h, he, hf => by
    obtain ⟨m, rfl⟩ : ∃ m, fuel = m + 1 := ⟨fuel - 1, by omega⟩
    simp only [whileM, h k (Nat.le_refl _) (by omega)]
    exact while_for st r n (k + 1) m (fun i h1 h2 => h i (by omega) (by omega)) (by rw [show k + 1 + n = k + (n + 1) by omega]; exact he) (by omega)
theorem while_run {σ ρ : Type} {body : σ → Option (σ ⊕ ρ)} {s0 : σ} (st : Nat → σ) (r : ρ) (n : Nat) (h0 : s0 = st 0) (hn : n ≤ 4611686018427387904) (h : ∀ i, i < n → body (st i) = some (.inl (st (i + 1)))) (he : body (st n) = some (.inr r)) : whileM body gxFuel s0 = some r := by
  rw [h0]
  exact while_for st r n 0 gxFuel (fun i _ h2 => h i (by omega)) (by rw [Nat.zero_add]; exact he) (by unfold gxFuel; omega)
theorem gxIdx_nat {α : Type} {xs : List α} {i : Nat} (h : i < xs.length) : gxIdx xs (i : Int) = some xs[i] := by
  unfold gxIdx
  rw [if_pos (by omega), Int.toNat_natCast, List.getElem?_eq_getElem h]
theorem w64_succ {i : Nat} (h : i ≤ 4611686018427387904) : w64 ((i : Int) + 1) = ((i + 1 : Nat) : Int) := by
  rw [w64_id (by omega) (by omega)]; omega
theorem gxApp_ok {α : Type} {B : Nat} {xs ys : List α} (h : (xs.length + ys.length) * B ≤ 140737488355328) : gxApp B xs ys = some (xs ++ ys) := by
  unfold gxApp
  rw [if_pos h]
def okU (n : Int) : Prop := (Lit.int .u8 n).wf = true
def okS (s : ByteArray) : Prop := s.size ≤ maxLen
def okL {α : Type} (ok : α → Prop) (xs : List α) : Prop := xs.length ≤ 9223372036854775807 ∧ ∀ x ∈ xs, ok x
end Go.Gx
set_option linter.unusedVariables false
set_option linter.unusedSimpArgs false
set_option maxHeartbeats 4000000
namespace Go.Proofs.YtllhajkgkghhdaaGreat
open Go.Gx
theorem s_in (x a b : Int) : M.s_l1In x a b = some (decide (a ≤ x) && decide (x ≤ b)) := by
  unfold M.s_l1In
  by_cases h : x ≥ a <;> simp [h]
theorem i_in (x a b : Int) : M.i_inside x a b = some (decide (a ≤ x) && decide (x ≤ b)) := by
  unfold M.i_inside
  by_cases h : x ≥ a <;> simp [h]
theorem while_first {σ ρ : Type} {body : σ → Option (σ ⊕ ρ)} {s0 : σ} (st : Nat → σ) (p : Nat → Bool) (hit : Nat → ρ) (r : ρ) (n : Nat) (h0 : s0 = st 0) (hn : n ≤ 4611686018427387904) (h : ∀ i, i < n → body (st i) = some (bif p i then .inr (hit i) else .inl (st (i + 1)))) (he : body (st n) = some (.inr r)) :
    whileM body gxFuel s0 = some (match (List.range n).find? p with
      | some i => hit i
      | none => r) := by
  cases hf : (List.range n).find? p with
  | none =>
    rw [List.find?_eq_none] at hf
    refine while_run st r n h0 hn (fun i hi => ?_) he
    have : p i = false := by
      have := hf i (List.mem_range.2 hi)
      simpa using this
    rw [h i hi, this]
    rfl
  | some i =>
    rw [List.find?_range_eq_some] at hf
    obtain ⟨h1, h2, h3⟩ := hf
    have hi : i < n := List.mem_range.1 h2
    refine while_run st (hit i) i h0 (by omega) (fun j hj => ?_) (by rw [h i hi, h1]; rfl)
    have : p j = false := by
      have := h3 j hj
      simpa using this
    rw [h j (by omega), this]
    rfl
theorem while_all {σ ρ : Type} {body : σ → Option (σ ⊕ ρ)} {s0 : σ} (st : Nat → σ) (ok : Nat → Bool) (bad r : ρ) (n : Nat) (h0 : s0 = st 0) (hn : n ≤ 4611686018427387904) (h : ∀ i, i < n → body (st i) = some (bif ok i then .inl (st (i + 1)) else .inr bad)) (he : body (st n) = some (.inr r)) :
    whileM body gxFuel s0 = some (bif (List.range n).all ok then r else bad) := by
  rw [while_first st (fun i => !(ok i)) (fun _ => bad) r n h0 hn (fun i hi => by rw [h i hi]; cases ok i <;> rfl) he]
  cases hf : (List.range n).find? (fun i => !(ok i)) with
  | none =>
    rw [List.find?_eq_none] at hf
    have : (List.range n).all ok = true := List.all_eq_true.2 fun i hi => by simpa using hf i hi
    rw [this]
    rfl
  | some i =>
    have h1 := List.find?_some hf
    have h2 := List.mem_of_find?_eq_some hf
    have : (List.range n).all ok = false := by
      rw [List.all_eq_false]
      exact ⟨i, h2, by simpa using h1⟩
    rw [this]
    rfl
theorem getD_at {α : Type} {xs : List α} {i : Nat} {z : α} (h : i < xs.length) : xs.getD i z = xs[i] := by
  rw [List.getD_eq_getElem?_getD, List.getElem?_eq_getElem h]; rfl
def fitIf (x : Interface) : Prop := x.Stack.length ≤ 1048576 ∧ x.Queue.Slots.length ≤ 1048576 ∧ x.Queue.Waiting.length ≤ 1048576
def wIf (x : Interface) : Nat := 1 + x.Stack.length + 3 * x.Queue.Slots.length + 2 * x.Queue.Waiting.length
def wIfs (xs : List Interface) : Nat := (xs.map wIf).sum
def fitM (m : Machine) : Prop := m.Routes.length ≤ 1048576 ∧ m.Enabled.length ≤ 1048576 ∧ m.Raised.length ≤ 1048576 ∧ m.Cpus.length ≤ 1048576 ∧ (∀ x ∈ m.Cpus, fitIf x) ∧ wIfs m.Cpus ≤ 1099500000000
def okRt (c : Int) (r : Route) : Bool := (decide (0 ≤ r.Priority) && decide (r.Priority ≤ 15)) && (decide (0 ≤ r.Target) && decide (r.Target ≤ w64 (c - 1)))
def okRts (xs : List Route) (c : Int) : Bool := (decide (1 ≤ c) && decide (c ≤ 2)) && (((xs.length : Int) == 8) && (List.range xs.length).all (fun i => okRt c (xs.getD i ⟨0, 0⟩)))
theorem s_routes (xs : List Route) (c : Int) (h : xs.length ≤ 1048576) : M.s_l21Routes xs c = some (okRts xs c) := by
  unfold M.s_l21Routes okRts
  rw [while_all (fun i => (i : Int)) (fun i => okRt c (xs.getD i ⟨0, 0⟩)) (.inr false) (.inl ()) xs.length (by simp) (by omega)]
  · cases (List.range xs.length).all (fun i => okRt c (xs.getD i ⟨0, 0⟩)) with
    | false => simp
    | true =>
      simp only [cond_true, Option.bind_some, Sum.elim_inl, s_in, Bool.and_true]
      cases (decide (1 ≤ c) && decide (c ≤ 2)) <;> rfl
  · intro i hi
    have e0 : ((i : Int) < (xs.length : Int)) := by omega
    simp only [e0, decide_true, cond_true, gxIdx_nat hi, Option.bind_some, M.s_l6Prio, s_in, getD_at hi, w64_succ (show i ≤ 4611686018427387904 by omega)]
    unfold okRt
    cases (decide (0 ≤ xs[i].Priority) && decide (xs[i].Priority ≤ 15)) with
    | false => rfl
    | true =>
      simp only [Bool.not_true, cond_false, Option.bind_some, Bool.true_and]
      cases (decide (0 ≤ xs[i].Target) && decide (xs[i].Target ≤ w64 (c - 1))) <;> rfl
  · simp
def freshIf : Interface := ⟨16, [], ⟨[⟨0, 0, 0⟩, ⟨0, 0, 0⟩, ⟨0, 0, 0⟩, ⟨0, 0, 0⟩], []⟩⟩
end Go.Proofs.YtllhajkgkghhdaaGreat
set_option linter.unusedVariables false
set_option linter.unusedSimpArgs false
set_option maxHeartbeats 4000000
namespace Go.Proofs.YtllhajkgkghhdaaGreat
open Go.Gx
theorem while_upto {σ ρ : Type} {body : σ → Option (σ ⊕ ρ)} {s0 : σ} (st : Nat → σ) (ok : Nat → Bool) (bad r : ρ) (n : Nat) (h0 : s0 = st 0) (hn : n ≤ 4611686018427387904) (h : ∀ i, i < n → (∀ j, j < i → ok j = true) → body (st i) = some (bif ok i then .inl (st (i + 1)) else .inr bad)) (he : (∀ j, j < n → ok j = true) → body (st n) = some (.inr r)) :
    whileM body gxFuel s0 = some (bif (List.range n).all ok then r else bad) := by
  cases hf : (List.range n).find? (fun i => !(ok i)) with
  | none =>
    have hall : ∀ j, j < n → ok j = true := fun j hj => by
      have := List.find?_eq_none.1 hf j (List.mem_range.2 hj)
      simpa using this
    have : (List.range n).all ok = true := List.all_eq_true.2 fun j hj => hall j (List.mem_range.1 hj)
    rw [this]
    refine while_run st _ n h0 hn (fun i hi => ?_) (he hall)
    rw [h i hi (fun j hj => hall j (by omega)), hall i hi]
    rfl
  | some i =>
    obtain ⟨h1, h2, h3⟩ := List.find?_range_eq_some.1 hf
    have h2 := List.mem_range.1 h2
    have hb : ∀ j, j < i → ok j = true := fun j hj => by simpa using h3 j hj
    have hi : ok i = false := by simpa using h1
    have : (List.range n).all ok = false := List.all_eq_false.2 ⟨i, List.mem_range.2 h2, by simp [hi]⟩
    rw [this]
    refine while_run st _ i h0 (by omega) (fun j hj => ?_) ?_
    · rw [h j (by omega) (fun k hk => hb k (by omega)), hb j hj]
      rfl
    · rw [h i h2 hb, hi]
      rfl
theorem nodup_bound : ∀ (n : Nat) (l : List Nat), l.Nodup → (∀ x ∈ l, x < n) → l.length ≤ n
  | 0, [], _, _ => Nat.le_refl _
  | 0, x :: r, _, h => absurd (h x List.mem_cons_self) (Nat.not_lt_zero _)
  | n + 1, l, hd, h => by
    by_cases hn : n ∈ l
    · have hp := List.perm_cons_erase hn
      have hd2 := hp.nodup_iff.1 hd
      rw [List.nodup_cons] at hd2
      have hl := hp.length_eq
      have := nodup_bound n (l.erase n) hd2.2 fun x hx => by
        have h1 := h x (List.mem_of_mem_erase hx)
        have h2 : x ≠ n := fun e => hd2.1 (e ▸ hx)
        omega
      rw [List.length_cons] at hl
      omega
    · have := nodup_bound n l hd fun x hx => by
        have h1 := h x hx
        have h2 : x ≠ n := fun e => hn (e ▸ hx)
        omega
      omega
theorem nodup_perm {α : Type} [BEq α] [LawfulBEq α] : ∀ {a b : List α}, a.Nodup → (∀ x ∈ a, x ∈ b) → b.length ≤ a.length → a.Perm b
  | [], b, _, _, hl => by
    have : b = [] := List.length_eq_zero_iff.1 (by simpa using hl)
    rw [this]
  | x :: t, b, hd, h, hl => by
    rw [List.nodup_cons] at hd
    have hp := List.perm_cons_erase (h x List.mem_cons_self)
    have hlen := hp.length_eq
    have := nodup_perm (a := t) (b := b.erase x) hd.2 (fun y hy => by
      have h1 := hp.mem_iff.1 (h y (List.mem_cons_of_mem _ hy))
      rcases List.mem_cons.1 h1 with e | e
      · exact absurd (e ▸ hy) hd.1
      · exact e) (by simp at hl hlen; omega)
    exact (this.cons x).trans hp.symm
theorem first_lt {n : Nat} {p : Nat → Bool} : (match (List.range n).find? p with | some i => (i : Int) | none => -1) < 0 ↔ ∀ i, i < n → p i = false := by
  cases hf : (List.range n).find? p with
  | none =>
    simp only
    refine ⟨fun _ i hi => ?_, fun _ => by omega⟩
    have := List.find?_eq_none.1 hf i (List.mem_range.2 hi)
    simpa using this
  | some i =>
    obtain ⟨h1, h2, _⟩ := List.find?_range_eq_some.1 hf
    simp only
    refine ⟨fun h => by omega, fun h => ?_⟩
    rw [h i (List.mem_range.1 h2)] at h1
    cases h1
def gS : Slot := ⟨0, 0, 0⟩
def mtS (q : Int) (s : Slot) : Bool := s.State != 0 && s.Irq == q
def fndS (xs : List Slot) (q : Int) : Int := match (List.range xs.length).find? (fun i => mtS q (xs.getD i gS)) with
  | some i => (i : Int)
  | none => -1
theorem s_find (xs : List Slot) (q : Int) (h : xs.length ≤ 1048576) : M.s_l8Find xs q = some (fndS xs q) := by
  unfold M.s_l8Find fndS
  rw [while_first (fun i => (i : Int)) (fun i => mtS q (xs.getD i gS)) (fun i => (Sum.inr (i : Int) : Unit ⊕ Int)) (Sum.inl ()) xs.length (by simp) (by omega)]
  · cases (List.range xs.length).find? (fun i => mtS q (xs.getD i gS)) <;> rfl
  · intro i hi
    have e0 : ((i : Int) < (xs.length : Int)) := by omega
    simp only [e0, decide_true, cond_true, gxIdx_nat hi, Option.bind_some, getD_at hi, w64_succ (show i ≤ 4611686018427387904 by omega), mtS]
    cases (xs[i].State != 0) with
    | false => rfl
    | true => cases (xs[i].Irq == q) <;> rfl
  · simp
theorem i_find (xs : List Slot) (q : Int) (h : xs.length ≤ 1048576) : M.i_findSlot xs q = some (fndS xs q) := by
  unfold M.i_findSlot M.slices_IndexFunc_210__i_findSlot_1 fndS
  rw [while_first (fun i => (i : Int)) (fun i => mtS q (xs.getD i gS)) (fun i => (Sum.inr (i : Int) : Unit ⊕ Int)) (Sum.inl ()) xs.length (by simp) (by omega)]
  · cases (List.range xs.length).find? (fun i => mtS q (xs.getD i gS)) <;> rfl
  · intro i hi
    have e0 : ((i : Int) < (xs.length : Int)) := by omega
    simp only [e0, decide_true, cond_true, gxIdx_nat hi, Option.bind_some, getD_at hi, w64_succ (show i ≤ 4611686018427387904 by omega), mtS, M.i_findSlot_1]
    cases (xs[i].State != 0) with
    | false => rfl
    | true => cases (xs[i].Irq == q) <;> rfl
  · simp
theorem fndS_neg {xs : List Slot} {q : Int} : fndS xs q < 0 ↔ ∀ i, (hi : i < xs.length) → mtS q xs[i] = false := by
  unfold fndS
  rw [first_lt]
  exact ⟨fun h i hi => by have := h i hi; rwa [getD_at hi] at this, fun h i hi => by rw [getD_at hi]; exact h i hi⟩
theorem fndS_at {xs : List Slot} {q : Int} (h : ¬ fndS xs q < 0) : ∃ i, ∃ hi : i < xs.length, fndS xs q = (i : Int) ∧ mtS q xs[i] = true ∧ ∀ j, (hj : j < i) → mtS q (xs[j]'(by omega)) = false := by
  unfold fndS at h ⊢
  cases hf : (List.range xs.length).find? (fun i => mtS q (xs.getD i gS)) with
  | none => rw [hf] at h; simp at h
  | some i =>
    obtain ⟨h1, h2, h3⟩ := List.find?_range_eq_some.1 hf
    have h2 := List.mem_range.1 h2
    rw [getD_at h2] at h1
    refine ⟨i, h2, rfl, h1, fun j hj => ?_⟩
    have := h3 j hj
    rw [getD_at (show j < xs.length by omega)] at this
    simpa using this
def inR (x a b : Int) : Bool := decide (a ≤ x) && decide (x ≤ b)
def freshS (xs : List Slot) (i : Nat) : Bool := (List.range i).all fun j => !(mtS (xs.getD i gS).Irq (xs.getD j gS))
def okSl (xs : List Slot) (i : Nat) : Bool := inR (xs.getD i gS).State 0 3 && (inR (xs.getD i gS).Irq 0 7 && (inR (xs.getD i gS).Priority 0 15 && (bif (xs.getD i gS).State == 0 then (xs.getD i gS).Irq == 0 && (xs.getD i gS).Priority == 0 else freshS xs i)))
def goodS (xs : List Slot) : Bool := (xs.length : Int) == 4 && (List.range xs.length).all (okSl xs)
theorem fresh_find {xs : List Slot} {i : Nat} (hi : i < xs.length) (hs : (xs[i].State == 0) = false) : (fndS xs xs[i].Irq != (i : Int)) = !(freshS xs i) := by
  have hm : mtS xs[i].Irq xs[i] = true := by unfold mtS; simp [bne, hs]
  have hnn : ¬ fndS xs xs[i].Irq < 0 := fun h => by rw [fndS_neg.1 h i hi] at hm; cases hm
  obtain ⟨k, hk, he, h1, h2⟩ := fndS_at hnn
  cases hf : freshS xs i with
  | true =>
    unfold freshS at hf
    rw [List.all_eq_true] at hf
    have hki : k = i := by
      rcases Nat.lt_trichotomy k i with h | h | h
      · have := hf k (List.mem_range.2 h)
        rw [getD_at hi, getD_at hk, h1] at this
        cases this
      · exact h
      · have := h2 i h
        rw [hm] at this
        cases this
    rw [he, hki]
    simp
  | false =>
    unfold freshS at hf
    rw [List.all_eq_false] at hf
    obtain ⟨j, hj, hjf⟩ := hf
    have hj := List.mem_range.1 hj
    rw [getD_at hi, getD_at (show j < xs.length by omega)] at hjf
    have hkj : k ≠ i := fun e => by
      have := h2 j (by omega)
      rw [this] at hjf
      simp at hjf
    rw [he]
    simp
    omega
theorem fresh_take {xs : List Slot} {i : Nat} (hi : i < xs.length) : decide (fndS (xs.take i) xs[i].Irq ≥ 0) = !(freshS xs i) := by
  have hl : (xs.take i).length = i := by simp; omega
  cases hf : freshS xs i with
  | true =>
    unfold freshS at hf
    rw [List.all_eq_true] at hf
    have : fndS (xs.take i) xs[i].Irq < 0 := fndS_neg.2 fun j hj => by
      have hji : j < i := by omega
      have := hf j (List.mem_range.2 hji)
      rw [getD_at hi, getD_at (show j < xs.length by omega)] at this
      rw [List.getElem_take]
      simpa using this
    have : ¬ (fndS (xs.take i) xs[i].Irq ≥ 0) := by omega
    simp [this]
  | false =>
    unfold freshS at hf
    rw [List.all_eq_false] at hf
    obtain ⟨j, hj, hjf⟩ := hf
    have hj := List.mem_range.1 hj
    rw [getD_at hi, getD_at (show j < xs.length by omega)] at hjf
    have : ¬ fndS (xs.take i) xs[i].Irq < 0 := fun h => by
      have := fndS_neg.1 h j (by omega)
      rw [List.getElem_take] at this
      rw [this] at hjf
      simp at hjf
    have : fndS (xs.take i) xs[i].Irq ≥ 0 := by omega
    simp [this]
theorem s_goodS (xs : List Slot) (h : xs.length ≤ 1048576) : M.s_l8Good xs = some (goodS xs) := by
  unfold M.s_l8Good goodS
  rw [while_all (fun i => (i : Int)) (okSl xs) (Sum.inr false : Unit ⊕ Bool) (Sum.inl ()) xs.length (by simp) (by omega)]
  · cases (List.range xs.length).all (okSl xs) <;> simp
  · intro i hi
    have e0 : ((i : Int) < (xs.length : Int)) := by omega
    simp only [e0, decide_true, cond_true, gxIdx_nat hi, Option.bind_some, M.s_l6Irq, M.s_l6Prio, s_in, w64_succ (show i ≤ 4611686018427387904 by omega)]
    unfold okSl inR
    rw [getD_at hi]
    cases (decide (0 ≤ xs[i].State) && decide (xs[i].State ≤ 3)) with
    | false => rfl
    | true => cases (decide (0 ≤ xs[i].Irq) && decide (xs[i].Irq ≤ 7)) with
      | false => rfl
      | true => cases (decide (0 ≤ xs[i].Priority) && decide (xs[i].Priority ≤ 15)) with
        | false => rfl
        | true =>
          cases hs : (xs[i].State == 0) with
          | true =>
            simp only [Bool.not_true, cond_false, cond_true, Option.bind_some, Bool.true_and, bne, hs]
            cases (xs[i].Irq == 0) with
            | false => rfl
            | true => cases (xs[i].Priority == 0) <;> rfl
          | false =>
            have := fresh_find hi hs
            simp only [Bool.not_true, Bool.not_false, cond_false, cond_true, Option.bind_some, Bool.true_and, bne, hs, s_find xs _ h] at this ⊢
            rw [this]
            cases freshS xs i <;> rfl
  · simp
theorem i_goodS (xs : List Slot) (h : xs.length ≤ 1048576) : M.i_AreSlots xs = some (goodS xs) := by
  unfold M.i_AreSlots goodS
  cases h4 : ((xs.length : Int) == 4) with
  | false => simp only [bne, h4, Bool.not_false, cond_true, Bool.false_and]
  | true =>
    simp only [bne, h4, Bool.not_true, cond_false, Bool.true_and]
    rw [while_all (fun i => (i : Int)) (okSl xs) (Sum.inr false : Unit ⊕ Bool) (Sum.inl ()) xs.length (by simp) (by omega)]
    · cases (List.range xs.length).all (okSl xs) <;> simp
    · intro i hi
      have e0 : ((i : Int) < (xs.length : Int)) := by omega
      have hsl : gxSlice xs 0 (i : Int) = some (xs.take i) := by
        unfold gxSlice
        rw [if_pos ⟨by omega, by omega, by omega⟩]
        simp
      have hfd := i_find (xs.take i) xs[i].Irq (by simp; omega)
      simp only [e0, decide_true, cond_true, gxIdx_nat hi, Option.bind_some, M.i_isIrq, M.i_isPriority, i_in, w64_succ (show i ≤ 4611686018427387904 by omega), hsl, hfd, fresh_take hi]
      unfold okSl inR
      rw [getD_at hi]
      cases hs : (xs[i].State == 0) with
      | true =>
        have hs0 : xs[i].State = 0 := by simpa using hs
        simp only [cond_true, hs, Bool.true_and, Bool.and_true, hs0]
        cases h1 : (xs[i].Irq == 0) with
        | false => simp
        | true => cases h2 : (xs[i].Priority == 0) with
          | false => simp
          | true =>
            have h1 : xs[i].Irq = 0 := by simpa using h1
            have h2 : xs[i].Priority = 0 := by simpa using h2
            simp [h1, h2]
      | false =>
        have hs0 : xs[i].State ≠ 0 := by simpa using hs
        have e1 : (decide (1 ≤ xs[i].State) && decide (xs[i].State ≤ 3)) = (decide (0 ≤ xs[i].State) && decide (xs[i].State ≤ 3)) := by
          rw [Bool.eq_iff_iff]
          simp only [Bool.and_eq_true, decide_eq_true_eq]
          omega
        simp only [cond_false, e1]
        cases (decide (0 ≤ xs[i].State) && decide (xs[i].State ≤ 3)) with
        | false => rfl
        | true => cases (decide (0 ≤ xs[i].Irq) && decide (xs[i].Irq ≤ 7)) with
          | false => rfl
          | true => cases (decide (0 ≤ xs[i].Priority) && decide (xs[i].Priority ≤ 15)) with
            | false => rfl
            | true =>
              simp only [Bool.not_true, cond_false, Option.bind_some, Bool.true_and]
              cases freshS xs i <;> rfl
    · simp
def lessU (p q r s : Int) : Bool := decide (p < r) || (p == r && decide (q < s))
theorem s_less (p q r s : Int) : M.s_l8Less p q r s = some (lessU p q r s) := by
  unfold M.s_l8Less lessU
  by_cases h : p < r
  · simp [h]
  · simp only [h, decide_false, cond_false, Bool.false_or]
    cases (p == r) <;> rfl
def cmpI (a b : Int) : Int := if a < b then -1 else if a > b then 1 else 0
theorem i_cmp (a b : Int) : M.cmp_Compare_170 a b = some (cmpI a b) := by
  unfold M.cmp_Compare_170 M.cmp_isNaN_222 cmpI
  simp only [bne_self_eq_false, Option.bind_some, cond_false]
  by_cases h : a < b
  · simp [h]
  · by_cases h2 : a > b
    · simp [h, h2]
    · simp [h, h2]
def cmpU (a b : Waiter) : Int := if cmpI a.Priority b.Priority ≠ 0 then cmpI a.Priority b.Priority else cmpI a.Irq b.Irq
theorem i_cmpU (a b : Waiter) : M.i_compareUrgency a b = some (cmpU a b) := by
  unfold M.i_compareUrgency M.cmp_Or_169 cmpU
  simp only [i_cmp, Option.bind_some]
  by_cases h1 : cmpI a.Priority b.Priority = 0
  · by_cases h2 : cmpI a.Irq b.Irq = 0
    · rw [while_run (fun i => (i : Int)) (Sum.inl ()) 2 (by simp) (by omega)]
      · simp [h1, h2]
      · intro i hi
        have hi' : i = 0 ∨ i = 1 := by omega
        rcases hi' with rfl | rfl <;> simp [gxIdx, h1, h2] <;> rfl
      · rfl
    · rw [while_run (fun i => (i : Int)) (Sum.inr (cmpI a.Irq b.Irq)) 1 (by simp) (by omega)]
      · simp [h1]
      · intro i hi
        have hi' : i = 0 := by omega
        subst hi'
        simp [gxIdx, h1]
        rfl
      · simp [gxIdx, bne_iff_ne.2 h2]
  · rw [while_run (fun i => (i : Int)) (Sum.inr (cmpI a.Priority b.Priority)) 0 (by simp) (by omega)]
    · simp [h1]
    · intro i hi; omega
    · simp [gxIdx, bne_iff_ne.2 h1]
theorem cmpU_lt (a b : Waiter) : decide (cmpU a b < 0) = lessU a.Priority a.Irq b.Priority b.Irq := by
  unfold cmpU cmpI lessU
  rw [Bool.eq_iff_iff]
  simp only [decide_eq_true_eq, Bool.or_eq_true, Bool.and_eq_true, beq_iff_eq]
  by_cases h1 : a.Priority < b.Priority <;> by_cases h2 : a.Priority > b.Priority <;> by_cases h3 : a.Irq < b.Irq <;> by_cases h4 : a.Irq > b.Irq <;> simp [h1, h2, h3, h4] <;> omega
theorem cmpU_gt (a b : Waiter) : decide (cmpU a b > 0) = lessU b.Priority b.Irq a.Priority a.Irq := by
  unfold cmpU cmpI lessU
  rw [Bool.eq_iff_iff]
  simp only [decide_eq_true_eq, Bool.or_eq_true, Bool.and_eq_true, beq_iff_eq]
  by_cases h1 : a.Priority < b.Priority <;> by_cases h2 : a.Priority > b.Priority <;> by_cases h3 : a.Irq < b.Irq <;> by_cases h4 : a.Irq > b.Irq <;> simp [h1, h2, h3, h4] <;> omega
theorem cmpU_ge (a b : Waiter) : decide (cmpU a b ≥ 0) = !(lessU a.Priority a.Irq b.Priority b.Irq) := by
  rw [← cmpU_lt, ← decide_not]
  congr 1
  rw [eq_iff_iff]
  omega
end Go.Proofs.YtllhajkgkghhdaaGreat
set_option linter.unusedVariables false
set_option linter.unusedSimpArgs false
set_option maxHeartbeats 4000000
namespace Go.Proofs.YtllhajkgkghhdaaGreat
open Go.Gx
def gW : Waiter := ⟨0, 0⟩
def freshW (ws : List Waiter) (i : Nat) : Bool := (List.range i).all fun j => !((ws.getD j gW).Irq == (ws.getD i gW).Irq)
def okW (xs : List Slot) (ws : List Waiter) (i : Nat) : Bool := inR (ws.getD i gW).Irq 0 7 && (inR (ws.getD i gW).Priority 0 15 && (decide (fndS xs (ws.getD i gW).Irq < 0) && (freshW ws i && (decide (i = 0) || lessU (ws.getD (i - 1) gW).Priority (ws.getD (i - 1) gW).Irq (ws.getD i gW).Priority (ws.getD i gW).Irq))))
def goodP (xs : List Slot) (ws : List Waiter) : Bool := goodS xs && (List.range ws.length).all (okW xs ws)
theorem okW_irq {xs : List Slot} {ws : List Waiter} {i : Nat} (h : okW xs ws i = true) : (0 ≤ (ws.getD i gW).Irq ∧ (ws.getD i gW).Irq ≤ 7) ∧ ∀ j, j < i → (ws.getD j gW).Irq ≠ (ws.getD i gW).Irq := by
  unfold okW inR freshW at h
  simp only [Bool.and_eq_true, decide_eq_true_eq, List.all_eq_true] at h
  refine ⟨h.1, fun j hj => ?_⟩
  have := h.2.2.2.1 j (List.mem_range.2 hj)
  simpa using this
theorem w_len {xs : List Slot} {ws : List Waiter} (h : ∀ i, i < 9 → i < ws.length → okW xs ws i = true) : ws.length ≤ 8 := by
  by_cases hl : ws.length ≤ 8
  · exact hl
  · exfalso
    have h9 : ∀ i, i < 9 → okW xs ws i = true := fun i hi => h i hi (by omega)
    have := nodup_bound 8 ((List.range 9).map fun i => (ws.getD i gW).Irq.toNat) (by
      rw [List.Nodup, List.pairwise_map]
      refine List.Pairwise.imp_of_mem (fun {a b} ha hb hab => ?_) List.pairwise_lt_range
      have h1 := okW_irq (h9 a (List.mem_range.1 ha))
      have h2 := okW_irq (h9 b (List.mem_range.1 hb))
      have h3 := h2.2 a hab
      omega) (fun x hx => by
      obtain ⟨i, hi, rfl⟩ := List.mem_map.1 hx
      have h1 := okW_irq (h9 i (List.mem_range.1 hi))
      omega)
    simp at this
theorem gxIdx_prevZ {α : Type} {xs : List α} {i : Nat} {z : α} (h : i < xs.length) (h0 : 0 < i) (hl : i ≤ 4611686018427387904) : gxIdx xs (w64 ((i : Int) - 1)) = some (xs.getD (i - 1) z) := by
  rw [w64_id (by omega) (by omega)]
  obtain ⟨k, rfl⟩ : ∃ k, i = k + 1 := ⟨i - 1, by omega⟩
  have e : ((k + 1 : Nat) : Int) - 1 = (k : Int) := by omega
  rw [e, gxIdx_nat (by omega), Nat.add_sub_cancel, getD_at (by omega)]
theorem s_waiting (xs : List Slot) (ws : List Waiter) (hx : xs.length ≤ 1048576) (hw : ws.length ≤ 1048576) : M.s_l9Waiting xs ws = some (goodP xs ws) := by
  unfold M.s_l9Waiting
  rw [while_all (fun i => (i : Int)) (okW xs ws) (Sum.inr false : Unit ⊕ Bool) (Sum.inl ()) (min ws.length 9) (by simp) (by omega)]
  · have hval : (bif (List.range (min ws.length 9)).all (okW xs ws) then (goodS xs && decide ((ws.length : Int) ≤ 8)) else false) = goodP xs ws := by
      unfold goodP
      cases ha : (List.range (min ws.length 9)).all (okW xs ws) with
      | true =>
        rw [List.all_eq_true] at ha
        have h8 := w_len (xs := xs) (ws := ws) fun i h9 hi => ha i (List.mem_range.2 (by omega))
        have hall : (List.range ws.length).all (okW xs ws) = true := List.all_eq_true.2 fun i hi => ha i (List.mem_range.2 (by have := List.mem_range.1 hi; omega))
        have h8' : ((ws.length : Int) ≤ 8) := by omega
        simp [hall, h8']
      | false =>
        rw [List.all_eq_false] at ha
        obtain ⟨i, hi, hf⟩ := ha
        have hall : (List.range ws.length).all (okW xs ws) = false := List.all_eq_false.2 ⟨i, List.mem_range.2 (by have := List.mem_range.1 hi; omega), hf⟩
        simp [hall]
    rw [← hval]
    cases (List.range (min ws.length 9)).all (okW xs ws) with
    | false => simp
    | true =>
      simp only [cond_true, Option.bind_some, Sum.elim_inl, s_goodS xs hx]
      cases goodS xs <;> rfl
  · intro i hi
    have hi' : i < ws.length := by omega
    have e0 : ((i : Int) < (ws.length : Int)) := by omega
    have e8 : ((i : Int) ≤ 8) := by omega
    simp only [e0, e8, decide_true, cond_true, gxIdx_nat hi', Option.bind_some, M.s_l6Irq, M.s_l6Prio, s_in, s_find xs _ hx, s_less]
    unfold okW inR
    rw [getD_at hi']
    cases (decide (0 ≤ ws[i].Irq) && decide (ws[i].Irq ≤ 7)) with
    | false => rfl
    | true => cases (decide (0 ≤ ws[i].Priority) && decide (ws[i].Priority ≤ 15)) with
      | false => rfl
      | true =>
        by_cases hf : fndS xs ws[i].Irq < 0
        · have hf2 : ¬ (fndS xs ws[i].Irq ≥ 0) := by omega
          simp only [hf, hf2, decide_true, decide_false, Bool.not_true, cond_false, Option.bind_some, Bool.true_and]
          have hin : whileM (σ := Int) (ρ := (Unit) ⊕ (Bool)) (fun s1770 =>
              bif decide (s1770 < (i : Int)) then (Option.bind (gxIdx ws s1770) fun y1782 =>
              bif y1782.Irq == ws[i].Irq then some (.inr (.inr false))
              else some (.inl (w64 (s1770 + 1))))
              else some (.inr (.inl ()))) gxFuel 0 = some (bif freshW ws i then .inl () else .inr false) := by
            unfold freshW
            refine while_all (fun j => (j : Int)) (fun j => !((ws.getD j gW).Irq == (ws.getD i gW).Irq)) (Sum.inr false : Unit ⊕ Bool) (Sum.inl ()) i (by simp) (by omega) (fun j hj => ?_) ?_
            · have e1 : ((j : Int) < (i : Int)) := by omega
              simp only [e1, decide_true, cond_true, gxIdx_nat (show j < ws.length by omega), Option.bind_some, getD_at hi', getD_at (show j < ws.length by omega), w64_succ (show j ≤ 4611686018427387904 by omega)]
              cases (ws[j].Irq == ws[i].Irq) <;> rfl
            · simp
          by_cases h0 : i = 0
          · subst h0
            have hz : ¬ (((0 : Nat) : Int) > 0) := by omega
            simp only [hz, decide_false, cond_false, Option.bind_some, decide_true, Bool.true_or, Bool.and_true]
            rw [hin]
            cases freshW ws 0 <;> rfl
          · have hz : ((i : Int) > 0) := by omega
            simp only [hz, h0, decide_true, decide_false, cond_true, Option.bind_some, Bool.false_or, gxIdx_prevZ (z := gW) hi' (show 0 < i by omega) (by omega)]
            cases lessU (ws.getD (i - 1) gW).Priority (ws.getD (i - 1) gW).Irq ws[i].Priority ws[i].Irq with
            | false => simp
            | true =>
              simp only [Bool.not_true, cond_false, Bool.and_true]
              rw [hin, Option.bind_some]
              cases freshW ws i with
              | false => rfl
              | true =>
                simp only [cond_true, Sum.elim_inl, w64_succ (show i ≤ 4611686018427387904 by omega)]
        · have hf2 : (fndS xs ws[i].Irq ≥ 0) := by omega
          simp [hf, hf2]
  · by_cases hl : ws.length ≤ 9
    · have e1 : min ws.length 9 = ws.length := by omega
      rw [e1]
      simp
    · have e1 : min ws.length 9 = 9 := by omega
      have e2 : (((9 : Nat) : Int) < (ws.length : Int)) := by omega
      rw [e1]
      simp only [e2, decide_true, cond_true]
      rfl
theorem i_windex (ws : List Waiter) (i : Nat) (hi : i < ws.length) (hw : ws.length ≤ 1048576) : ∃ r, M.i_waiterIndex (ws.take i) ws[i].Irq = some r ∧ decide (r ≥ 0) = !(freshW ws i) := by
  unfold M.i_waiterIndex M.slices_IndexFunc_166__i_waiterIndex_1
  have hl : (ws.take i).length = i := by simp; omega
  rw [while_first (fun j => (j : Int)) (fun j => (ws.getD j gW).Irq == (ws.getD i gW).Irq) (fun j => (Sum.inr (j : Int) : Unit ⊕ Int)) (Sum.inl ()) i (by simp) (by omega)]
  · unfold freshW
    cases hf : (List.range i).find? (fun j => (ws.getD j gW).Irq == (ws.getD i gW).Irq) with
    | none =>
      have hall : (List.range i).all (fun j => !((ws.getD j gW).Irq == (ws.getD i gW).Irq)) = true := List.all_eq_true.2 fun j hj => by
        have := List.find?_eq_none.1 hf j hj
        simpa using this
      rw [hall]
      exact ⟨_, rfl, rfl⟩
    | some j =>
      obtain ⟨h1, h2, _⟩ := List.find?_range_eq_some.1 hf
      have hall : (List.range i).all (fun j => !((ws.getD j gW).Irq == (ws.getD i gW).Irq)) = false := List.all_eq_false.2 ⟨j, h2, by simpa using h1⟩
      rw [hall]
      have : ((j : Int) ≥ 0) := by omega
      exact ⟨_, rfl, by simp [this]⟩
  · intro j hj
    have e0 : ((j : Int) < ((ws.take i).length : Int)) := by omega
    have hj' : j < (ws.take i).length := by omega
    simp only [e0, decide_true, cond_true, gxIdx_nat hj', List.getElem_take, Option.bind_some, M.i_waiterIndex_1, getD_at hi, getD_at (show j < ws.length by omega), w64_succ (show j ≤ 4611686018427387904 by omega)]
    cases (ws[j].Irq == ws[i].Irq) <;> rfl
  · rw [hl]
    simp
theorem i_parts (xs : List Slot) (ws : List Waiter) (hx : xs.length ≤ 1048576) (hw : ws.length ≤ 1048576) : M.i_areParts xs ws = some (goodP xs ws) := by
  unfold M.i_areParts goodP
  rw [i_goodS xs hx, Option.bind_some]
  cases goodS xs with
  | false => rfl
  | true =>
    simp only [Bool.not_true, cond_false, Bool.true_and]
    rw [while_all (fun i => (i : Int)) (okW xs ws) (Sum.inr false : Unit ⊕ Bool) (Sum.inl ()) ws.length (by simp) (by omega)]
    · cases (List.range ws.length).all (okW xs ws) <;> simp
    · intro i hi
      have e0 : ((i : Int) < (ws.length : Int)) := by omega
      have hsl : gxSlice ws 0 (i : Int) = some (ws.take i) := by
        unfold gxSlice
        rw [if_pos ⟨by omega, by omega, by omega⟩]
        simp
      obtain ⟨r, hr, hr2⟩ := i_windex ws i hi hw
      simp only [e0, decide_true, cond_true, gxIdx_nat hi, Option.bind_some, M.i_isIrq, M.i_isPriority, i_in, i_find xs _ hx, hsl, hr, hr2, i_cmpU, cmpU_ge, w64_succ (show i ≤ 4611686018427387904 by omega)]
      unfold okW inR
      rw [getD_at hi]
      cases (decide (0 ≤ ws[i].Irq) && decide (ws[i].Irq ≤ 7)) with
      | false => rfl
      | true => cases (decide (0 ≤ ws[i].Priority) && decide (ws[i].Priority ≤ 15)) with
        | false => rfl
        | true =>
          by_cases hf : fndS xs ws[i].Irq < 0
          · have hf2 : ¬ (fndS xs ws[i].Irq ≥ 0) := by omega
            simp only [hf, hf2, decide_true, decide_false, Bool.not_true, cond_false, Option.bind_some, Bool.true_and]
            cases freshW ws i with
            | false => rfl
            | true =>
              by_cases h0 : i = 0
              · subst h0
                have hz : ¬ (((0 : Nat) : Int) > 0) := by omega
                simp [hz]
              · have hz : ((i : Int) > 0) := by omega
                simp only [hz, h0, decide_true, decide_false, Bool.not_true, cond_false, cond_true, Option.bind_some, Bool.false_or, Bool.true_and, gxIdx_prevZ (z := gW) hi (show 0 < i by omega) (by omega)]
                cases lessU (ws.getD (i - 1) gW).Priority (ws.getD (i - 1) gW).Irq ws[i].Priority ws[i].Irq <;> rfl
          · have hf2 : (fndS xs ws[i].Irq ≥ 0) := by omega
            simp [hf, hf2]
    · simp
def frS (xs : List Slot) : Int := match (List.range xs.length).find? (fun i => (xs.getD i gS).State == 0) with
  | some i => (i : Int)
  | none => -1
theorem s_free (xs : List Slot) (h : xs.length ≤ 1048576) : M.s_l8Free xs = some (frS xs) := by
  unfold M.s_l8Free frS
  rw [while_first (fun i => (i : Int)) (fun i => (xs.getD i gS).State == 0) (fun i => (Sum.inr (i : Int) : Unit ⊕ Int)) (Sum.inl ()) xs.length (by simp) (by omega)]
  · cases (List.range xs.length).find? (fun i => (xs.getD i gS).State == 0) <;> rfl
  · intro i hi
    have e0 : ((i : Int) < (xs.length : Int)) := by omega
    simp only [e0, decide_true, cond_true, gxIdx_nat hi, Option.bind_some, getD_at hi, w64_succ (show i ≤ 4611686018427387904 by omega)]
    cases (xs[i].State == 0) <;> rfl
  · simp
theorem i_free (xs : List Slot) (h : xs.length ≤ 1048576) : M.i_firstEmpty xs = some (frS xs) := by
  unfold M.i_firstEmpty M.slices_IndexFunc_210__i_firstEmpty_1 frS
  rw [while_first (fun i => (i : Int)) (fun i => (xs.getD i gS).State == 0) (fun i => (Sum.inr (i : Int) : Unit ⊕ Int)) (Sum.inl ()) xs.length (by simp) (by omega)]
  · cases (List.range xs.length).find? (fun i => (xs.getD i gS).State == 0) <;> rfl
  · intro i hi
    have e0 : ((i : Int) < (xs.length : Int)) := by omega
    simp only [e0, decide_true, cond_true, gxIdx_nat hi, Option.bind_some, M.i_firstEmpty_1, getD_at hi, w64_succ (show i ≤ 4611686018427387904 by omega)]
    cases (xs[i].State == 0) <;> rfl
  · simp
def bestF (xs : List Slot) : Nat → Int
  | 0 => -1
  | i + 1 => bif (xs.getD i gS).State == 1 then (bif decide (bestF xs i < 0) || lessU (xs.getD (bestF xs i).toNat gS).Priority (xs.getD (bestF xs i).toNat gS).Irq (xs.getD i gS).Priority (xs.getD i gS).Irq then (i : Int) else bestF xs i) else bestF xs i
theorem bestF_at (xs : List Slot) : ∀ i, bestF xs i < 0 ∨ ∃ k, k < i ∧ bestF xs i = (k : Int) ∧ (xs.getD k gS).State = 1
  | 0 => Or.inl (by simp [bestF])
  | i + 1 => by
    have ih := bestF_at xs i
    have hih : bestF xs i < 0 ∨ ∃ k, k < i + 1 ∧ bestF xs i = (k : Int) ∧ (xs.getD k gS).State = 1 := by
      rcases ih with h | ⟨k, h1, h2, h3⟩
      · exact Or.inl h
      · exact Or.inr ⟨k, by omega, h2, h3⟩
    unfold bestF
    cases hs : ((xs.getD i gS).State == 1) with
    | false => exact hih
    | true =>
      simp only [cond_true]
      cases (decide (bestF xs i < 0) || lessU (xs.getD (bestF xs i).toNat gS).Priority (xs.getD (bestF xs i).toNat gS).Irq (xs.getD i gS).Priority (xs.getD i gS).Irq) with
      | false => exact hih
      | true => exact Or.inr ⟨i, by omega, rfl, by simpa using hs⟩
theorem s_best (xs : List Slot) (h : xs.length ≤ 1048576) : M.s_l8Best xs false = some (bestF xs xs.length) := by
  unfold M.s_l8Best
  rw [while_run (fun i => (bestF xs i, (i : Int))) (bestF xs xs.length) xs.length (by simp [bestF]) (by omega)]
  · rfl
  · intro i hi
    have e0 : ((i : Int) < (xs.length : Int)) := by omega
    simp only [e0, decide_true, cond_true, gxIdx_nat hi, Option.bind_some, s_less, w64_succ (show i ≤ 4611686018427387904 by omega)]
    have hb : bestF xs (i + 1) = bif xs[i].State == 1 then (bif decide (bestF xs i < 0) || lessU (xs.getD (bestF xs i).toNat gS).Priority (xs.getD (bestF xs i).toNat gS).Irq xs[i].Priority xs[i].Irq then (i : Int) else bestF xs i) else bestF xs i := by
      rw [bestF, getD_at hi]
    rw [hb]
    cases hs : (xs[i].State == 1) with
    | false => simp [bne, hs]
    | true =>
      simp only [bne, hs, Bool.not_true, cond_false, cond_true]
      rcases bestF_at xs i with hn | ⟨k, hk, he, _⟩
      · simp [hn]
      · have hkl : k < xs.length := by omega
        have hnn : ¬ ((k : Int) < 0) := by omega
        simp only [he, hnn, decide_false, cond_false, Bool.not_false, cond_true, gxIdx_nat hkl, Option.bind_some, Int.toNat_natCast, getD_at hkl, Bool.false_or]
        cases lessU xs[k].Priority xs[k].Irq xs[i].Priority xs[i].Irq <;> rfl
  · simp
theorem lessU_not {p q r s : Int} (h : q ≠ s) : (!(lessU p q r s)) = lessU r s p q := by
  unfold lessU
  rw [Bool.eq_iff_iff]
  simp only [Bool.not_eq_true', Bool.or_eq_false_iff, Bool.and_eq_false_iff, decide_eq_false_iff_not, Bool.or_eq_true, Bool.and_eq_true, decide_eq_true_eq, beq_iff_eq, beq_eq_false_iff_ne]
  omega
theorem irq_ne {xs : List Slot} (hg : goodS xs = true) {k i : Nat} (hk : k < i) (hi : i < xs.length) (hs : (xs[i].State == 0) = false) (hs2 : ((xs[k]'(by omega)).State == 0) = false) : (xs[k]'(by omega)).Irq ≠ xs[i].Irq := by
  unfold goodS at hg
  rw [Bool.and_eq_true, List.all_eq_true] at hg
  have := hg.2 i (List.mem_range.2 hi)
  unfold okSl freshS at this
  rw [getD_at hi, hs] at this
  simp only [Bool.and_eq_true, cond_false, List.all_eq_true] at this
  have h2 := this.2.2.2 k (List.mem_range.2 hk)
  rw [getD_at (show k < xs.length by omega)] at h2
  unfold mtS at h2
  simp only [bne, hs2, Bool.not_false, Bool.true_and, Bool.not_eq_true', beq_eq_false_iff_ne] at h2
  exact h2
theorem i_best (xs : List Slot) (h : xs.length ≤ 1048576) (hg : goodS xs = true) : M.i_pendingSlot xs false = some (bestF xs xs.length) := by
  unfold M.i_pendingSlot
  rw [while_run (fun i => (bestF xs i, (i : Int))) (bestF xs xs.length) xs.length (by simp [bestF]) (by omega)]
  · rfl
  · intro i hi
    have e0 : ((i : Int) < (xs.length : Int)) := by omega
    simp only [e0, decide_true, cond_true, gxIdx_nat hi, Option.bind_some, M.i_waiterOf, i_cmpU, w64_succ (show i ≤ 4611686018427387904 by omega)]
    have hb : bestF xs (i + 1) = bif xs[i].State == 1 then (bif decide (bestF xs i < 0) || lessU (xs.getD (bestF xs i).toNat gS).Priority (xs.getD (bestF xs i).toNat gS).Irq xs[i].Priority xs[i].Irq then (i : Int) else bestF xs i) else bestF xs i := by
      rw [bestF, getD_at hi]
    rw [hb]
    cases hs : (xs[i].State == 1) with
    | false => simp
    | true =>
      simp only [cond_true]
      rcases bestF_at xs i with hn | ⟨k, hk, he, hk1⟩
      · simp [hn]
      · have hkl : k < xs.length := by omega
        have hnn : ¬ ((k : Int) < 0) := by omega
        rw [getD_at hkl] at hk1
        have hs1 : xs[i].State = 1 := by simpa using hs
        have hne := irq_ne hg hk hi (by simp [hs1]) (by simp [hk1])
        have hl := lessU_not (p := xs[i].Priority) (r := xs[k].Priority) (q := xs[i].Irq) (s := xs[k].Irq) (fun e => hne e.symm)
        simp only [he, hnn, decide_false, cond_false, gxIdx_nat hkl, Option.bind_some, Int.toNat_natCast, getD_at hkl, Bool.false_or, cmpU_lt, beq_false, hl]
        cases lessU xs[k].Priority xs[k].Irq xs[i].Priority xs[i].Irq <;> rfl
  · simp
def setQ (q : Queue) : Bool := bif (q.Waiting.length : Int) == 0 then true else (bif decide (frS q.Slots ≥ 0) then false else (bif decide (bestF q.Slots q.Slots.length < 0) then true else lessU (q.Slots.getD (bestF q.Slots q.Slots.length).toNat gS).Priority (q.Slots.getD (bestF q.Slots q.Slots.length).toNat gS).Irq (q.Waiting.getD 0 gW).Priority (q.Waiting.getD 0 gW).Irq))
theorem s_settled (q : Queue) (h : q.Slots.length ≤ 1048576) : M.s_l9Settled q = some (setQ q) := by
  unfold M.s_l9Settled setQ
  cases hw : ((q.Waiting.length : Int) == 0) with
  | true => rfl
  | false =>
    have hw' : 0 < q.Waiting.length := by
      have : ¬ ((q.Waiting.length : Int) = 0) := by simpa using hw
      omega
    have h0 : gxIdx q.Waiting 0 = some (q.Waiting.getD 0 gW) := by rw [getD_at hw']; exact gxIdx_nat hw'
    simp only [cond_false, s_free _ h, Option.bind_some, s_best _ h, s_less, h0]
    cases decide (frS q.Slots ≥ 0) with
    | true => rfl
    | false =>
      simp only [cond_false]
      rcases bestF_at q.Slots q.Slots.length with hn | ⟨k, hk, he, _⟩
      · simp [hn]
      · have hnn : ¬ ((k : Int) < 0) := by omega
        simp only [he, hnn, decide_false, cond_false, gxIdx_nat hk, Option.bind_some, Int.toNat_natCast, getD_at hk]
theorem i_settled (q : Queue) (h : q.Slots.length ≤ 1048576) (hg : goodS q.Slots = true) : M.i_isSettled q = some (setQ q) := by
  unfold M.i_isSettled setQ
  cases hw : ((q.Waiting.length : Int) == 0) with
  | true => rfl
  | false =>
    have hw' : 0 < q.Waiting.length := by
      have : ¬ ((q.Waiting.length : Int) = 0) := by simpa using hw
      omega
    have h0 : gxIdx q.Waiting 0 = some (q.Waiting.getD 0 gW) := by rw [getD_at hw']; exact gxIdx_nat hw'
    simp only [cond_false, i_free _ h, Option.bind_some, i_best _ h hg, i_cmpU, h0, M.i_waiterOf, cmpU_gt]
    by_cases hf : frS q.Slots < 0
    · have hf2 : ¬ (frS q.Slots ≥ 0) := by omega
      simp only [hf, hf2, decide_true, decide_false, cond_true, cond_false]
      rcases bestF_at q.Slots q.Slots.length with hn | ⟨k, hk, he, _⟩
      · simp [hn]
      · have hnn : ¬ ((k : Int) < 0) := by omega
        simp only [he, hnn, decide_false, cond_false, gxIdx_nat hk, Option.bind_some, Int.toNat_natCast, getD_at hk]
    · have hf2 : (frS q.Slots ≥ 0) := by omega
      simp [hf, hf2]
def goodQ (q : Queue) : Bool := goodP q.Slots q.Waiting && setQ q
theorem s_goodQ (q : Queue) (h : q.Slots.length ≤ 1048576 ∧ q.Waiting.length ≤ 1048576) : M.s_l9Good q = some (goodQ q) := by
  unfold M.s_l9Good goodQ
  rw [s_waiting _ _ h.1 h.2, Option.bind_some, s_settled q h.1]
  cases goodP q.Slots q.Waiting <;> rfl
theorem i_goodQ (q : Queue) (h : q.Slots.length ≤ 1048576 ∧ q.Waiting.length ≤ 1048576) : M.i_IsQueue q = some (goodQ q) := by
  unfold M.i_IsQueue goodQ
  rw [i_parts _ _ h.1 h.2, Option.bind_some]
  cases hg : goodP q.Slots q.Waiting with
  | false => rfl
  | true =>
    unfold goodP at hg
    rw [Bool.and_eq_true] at hg
    rw [cond_true, i_settled q h.1 hg.1]
    rfl
end Go.Proofs.YtllhajkgkghhdaaGreat
