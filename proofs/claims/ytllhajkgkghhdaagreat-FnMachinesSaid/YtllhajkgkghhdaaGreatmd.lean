/- Part of a proof: what its last text rests on. -/
import Derived.Test.YtllhajkgkghhdaaGreatProg
import Derived.Test.YtllhajkgkghhdaaGreatSh
import Derived.Test.YtllhajkgkghhdaaGreatmc
set_option linter.unusedVariables false
set_option linter.unusedSimpArgs false
set_option maxRecDepth 100000
set_option maxHeartbeats 4000000
namespace Go.Proofs.YtllhajkgkghhdaaGreat
open Go.Gx
theorem c_i_newMachine (w : World) (l : Machine) (am ai) (dq : rdS encRoute w l.Routes am ai) (an aj) (dr : rdS Gx.encB w l.Enabled an aj) (ao ak) (ds : rdS Gx.encB w l.Raised ao ak) (O S) (dt : rdD deepInterface w l.Cpus O S) {r : Machine} (hm : M.i_newMachine l = some r) :
  Calls Tryz.prog 78 #[.agg #[SL am l.Routes ai, SL an l.Enabled aj, SL ao l.Raised ak, SL O l.Cpus S]] w fun e w' => ∃ ch ca cl ci cb cm cj cc cn ck cd co cp, e = .returned (.agg #[SL ch r.Routes ca, SL ci r.Enabled cb, SL cj r.Raised cc, SL ck r.Cpus cd]) ∧ ownS encRoute r.Routes ch ca cl ∧ ownS Gx.encB r.Enabled ci cb cm ∧ ownS Gx.encB r.Raised cj cc cn ∧ ownD deepInterface r.Cpus ck cd co cp ∧ Mem [] w w' [cl, cm, cn, co, cp] := by
 unfold M.i_newMachine at hm
 refine cE Tryz.func78 ?_
 have M0 := Mem.refl [] w
 refine QA (wN (CE 32 [SL am l.Routes ai, SL an l.Enabled aj, SL ao l.Raised ak, SL O l.Cpus S]) M0 fun J ex cv => wN (CE 32 [SN, SN, SN, SN]) cv fun I ey cw => NE (GD hm fun C dw hm => GD hm fun F dx hm => GD hm fun G dy hm => GU [(0, .agg #[SL am l.Routes ai, SL an l.Enabled aj, SL ao l.Raised ak, SL O l.Cpus S]), (1, pB J 0), (2, pB I 0)] (DL 15 [[],[],[1],[0,2],[],[],[5],[4,6],[],[],[9],[8,10],[],[],[]] [[],[],[],[0],[],[],[],[4],[],[],[],[8],[],[],[]] (EM 15) [[],[],[],[],[],[],[],[],[],[],[],[],[],[3,7,11,12],[]] [[],[],[],[],[],[],[],[],[],[],[],[],[],[3,7,11,12],[]] (EM 15) (fun _ => []) [fun f v s => ∃ av ap, v = (.slice av ([] : List Route).length ap : Value) ∧ ownS encRoute ([] : List Route) av ap s, QV (pB J 0), QV (.slice am l.Routes.length ai), fun f v s => ∃ y t, v = (.slice y C.length t : Value) ∧ ownS encRoute C y t s, fun f v s => ∃ aw aq, v = (.slice aw ([] : List Bool).length aq : Value) ∧ ownS Gx.encB ([] : List Bool) aw aq s, QV (pB J 1), QV (.slice an l.Enabled.length aj), fun f v s => ∃ z u, v = (.slice z F.length u : Value) ∧ ownS Gx.encB F z u s, fun f v s => ∃ ax ar, v = (.slice ax ([] : List Bool).length ar : Value) ∧ ownS Gx.encB ([] : List Bool) ax ar s, QV (pB J 2), QV (.slice ao l.Raised.length ak), fun f v s => ∃ B x, v = (.slice B G.length x : Value) ∧ ownS Gx.encB G B x s, fun f v s => ∃ L K af az, v = (.slice L ([] : List Interface).length K : Value) ∧ s = (af ++ az) ∧ ownD deepInterface ([] : List Interface) L K af az, fun f v s => v = (.agg #[(atPath (f 3) []), (atPath (f 7) []), (atPath (f 11) []), (atPath (f 12) [])] : Value) ∧ s = [], fun f v s => ∃ q, v = (pB q 0 : Value) ∧ s = (BK q 32 [SN, SN, SN, SN])] [] [3, 7, 11, 12, 13, 14] [3, 7, 11, 12, 14] (cw.preNil 15) (AC ?_ (AC ?_ (AC ?_ (AC ?_ (AC ?_ (AC ?_ (AC ?_ (AC ?_ (AC ?_ (AC ?_ (AC ?_ (AC ?_ (AC ?_ (AC ?_ (AC ?_ AN))))))))))))))) ?_)))
 ·intro m N R ez cx
  exact wL (E := encRoute) ([] : List Route) 0 [] 129 cx fun av ap ea e0 bj cy => WN (oE (SL av ([] : List Route) ap) ea ⟨av, ap, rfl, bj⟩ (Mem.mid cy))
 ·intro m N R eg cz
  exact OM ⟨rfl, rfl⟩ cz
 ·rintro m N v1_ ⟨rfl, _⟩ R eh bz
  exact OV ⟨rfl, rfl⟩ (eL false 1 0 (bz.blk 0 rfl)) bz
 ·intro m N v0_ hb0_
  obtain ⟨av, ap, rfl, bj⟩ := hb0_
  rintro v2_ ⟨rfl, _⟩ R e1 b0
  exact wA 16 [iv 0, iv 0] 3 b0 bj (dq.mem0 b0) dw fun y t eb e2 bk c0 => WN (oE (SL y C t) eb ⟨y, t, rfl, bk⟩ (Mem.takeOver c0))
 ·intro m N R e3 c1
  exact wL (E := Gx.encB) ([] : List Bool) 0 [] 4 c1 fun aw aq ec e4 bl c2 => WN (oE (SL aw ([] : List Bool) aq) ec ⟨aw, aq, rfl, bl⟩ (Mem.mid c2))
 ·intro m N R ei c3
  exact OM ⟨rfl, rfl⟩ c3
 ·rintro m N v5_ ⟨rfl, _⟩ R ej b1
  exact OV ⟨rfl, rfl⟩ (eL false 1 1 (b1.blk 0 rfl)) b1
 ·intro m N v4_ hb4_
  obtain ⟨aw, aq, rfl, bl⟩ := hb4_
  rintro v6_ ⟨rfl, _⟩ R e5 b2
  exact wA 1 [.bool false] 3 b2 bl (dr.mem0 b2) dx fun z u ed e6 bm c4 => WN (oE (SL z F u) ed ⟨z, u, rfl, bm⟩ (Mem.takeOver c4))
 ·intro m N R e7 c5
  exact wL (E := Gx.encB) ([] : List Bool) 0 [] 4 c5 fun ax ar ee e8 bn c6 => WN (oE (SL ax ([] : List Bool) ar) ee ⟨ax, ar, rfl, bn⟩ (Mem.mid c6))
 ·intro m N R ek c7
  exact OM ⟨rfl, rfl⟩ c7
 ·rintro m N v9_ ⟨rfl, _⟩ R el b3
  exact OV ⟨rfl, rfl⟩ (eL false 1 2 (b3.blk 0 rfl)) b3
 ·intro m N v8_ hb8_
  obtain ⟨ax, ar, rfl, bn⟩ := hb8_
  rintro v10_ ⟨rfl, _⟩ R e9 b4
  exact wA 1 [.bool false] 3 b4 bn (ds.mem0 b4) dy fun B x ef fa bo c8 => WN (oE (SL B G x) ef ⟨B, x, rfl, bo⟩ (Mem.takeOver c8))
 ·intro m N R fb c9
  exact W_litD (D := deepInterface) (s1 := []) [] ([] : List Interface) rfl 0 [] 87 c9 (by kernel_rfl) (by kernel_rfl) (by kernel_rfl) (by kernel_rfl) (by kernel_rfl) ownI_nil fun L K af fc bp da => WN (oE (.slice L ([] : List Interface).length K) (af ++ []) ⟨L, K, af, [], rfl, rfl, bp⟩ (Mem.mid (by rw [List.append_nil]; exact da)))
 ·intro m N v3_ hb3_
  obtain ⟨_, y, t, rfl, _⟩ := hb3_
  intro v7_ hb7_
  obtain ⟨_, z, u, rfl, _⟩ := hb7_
  intro v11_ hb11_
  obtain ⟨_, B, x, rfl, _⟩ := hb11_
  intro v12_ hb12_
  obtain ⟨_, L, K, _, _, rfl, _⟩ := hb12_
  intro R em db
  exact OM ⟨rfl, rfl⟩ db
 ·intro m N R fd dc
  exact wN (CE 32 [SN, SN, SN, SN]) dc fun q fe dd => WN (oE (pB q 0) (BK q 32 [SN, SN, SN, SN]) ⟨q, rfl, rfl⟩ (Mem.mid dd))
 intro m N v3_ hb3_
 obtain ⟨y, t, rfl, bk⟩ := hb3_
 intro v7_ hb7_
 obtain ⟨z, u, rfl, bm⟩ := hb7_
 intro v11_ hb11_
 obtain ⟨B, x, rfl, bo⟩ := hb11_
 intro v12_ hb12_
 obtain ⟨L, K, af, az, rfl, hs12_, bp⟩ := hb12_
 intro v13_ hb13_
 obtain ⟨hv13_, _⟩ := hb13_
 obtain rfl : v13_ = (.agg #[SL y C t, SL z F u, SL B G x, SL L ([] : List Interface) K] : Value) := hv13_.trans (by kernel_rfl)
 intro v14_ hb14_
 obtain ⟨q, rfl, hs14_⟩ := hb14_
 intro cq de
 have a5 : Mem [] w cq [(BK J 32 [SL am l.Routes ai, SL an l.Enabled aj, SL ao l.Raised ak, SL O l.Cpus S]), (BK I 32 [SN, SN, SN, SN]), (m 3), (m 7), (m 11), af, az, (BK q 32 [SN, SN, SN, SN])] := de.permF (by simp [hs12_, hs14_, SL])
 refine wS true 4 0 (.agg #[SL y C t, SL z F u, SL B G x, SL L ([] : List Interface) K]) 7 [SL y C t, SL z F u, SL B G x, SL L ([] : List Interface) K] a5 rfl fun bv b5 => NB (MW 1 (wV (SL O l.Cpus S) bv (eL false 1 3 (b5.blk 0 rfl)) (MW 2 (NO (GD hm fun au d7 d1 => G_meet (fun a w' => ∃ ab X be bf, ownD deepInterface au ab X be bf ∧ Mem [] w w' [(BK I 32 [SN, SN, SN, SN]), (m 3), (m 7), (m 11), (BK q 32 [SL y C t, SL z F u, SL B G x, SL ab au X]), be, bf] ∧ Sat Tryz.f78.ntmps [(2, pB I 0), (3, pB q 0)] a) ?_ ?_)))))
 ·refine GB (G_while (σ := Int × List Interface) (ρ := List Interface) (fun H a w' => ∃ Q P a0 ag, ownD deepInterface H.2 Q P a0 ag ∧ Mem [] w w' [(BK I 32 [SN, SN, SN, SN]), (m 3), (m 7), (m 11), (BK q 32 [SL y C t, SL z F u, SL B G x, SL Q H.2 P]), a0, ag] ∧ Sat Tryz.f78.ntmps [(2, pB I 0), (3, pB q 0), (21, SL O l.Cpus S), (22, iv (l.Cpus.length : Int)), (23, iv H.1)] a) d7 (fun a ha => ⟨L, K, af, az, bp, b5.pk [1, 2, 3, 4, 7, 5, 6], ha.s⟩) ?_)
  clear hm
  intro H fk hm d4 ev bw ⟨Q, P, a0, ag, ce, a9, du⟩
  refine G_use du (QA (MW 1 (NE (GT hm (fun bh hm => ?_) fun bh hm => ?_))))
  ·refine KD (GD hm fun d d8 hm => ?_)
   obtain ⟨fl, cg, cf, bi⟩ := id dt
   obtain ⟨c, a8⟩ := gxIdx_fst cg d8
   refine wV (elemP O (H.1.toNat * 4)) bw (eI (cf.mem0 a9) (len_fst cg) a8) (wV (.agg #[iv d.Mask, SL ((c 0).1) d.Stack ((c 0).2), SL ((c 1).1) d.Queue.Slots ((c 1).2), SL ((c 2).1) d.Queue.Waiting ((c 2).2)]) bw (eE true 4 0 (H.1.toNat * 4) (cf.mem0 a9) a8) (wN (CE 87 [iv 0, SN, SN, SN]) a9 fun a3 ff df => wS true 4 0 (.agg #[iv d.Mask, SL ((c 0).1) d.Stack ((c 0).2), SL ((c 1).1) d.Queue.Slots ((c 1).2), SL ((c 2).1) d.Queue.Waiting ((c 2).2)]) 7 [iv d.Mask, SL ((c 0).1) d.Stack ((c 0).2), SL ((c 1).1) d.Queue.Slots ((c 1).2), SL ((c 2).1) d.Queue.Waiting ((c 2).2)] df rfl fun fg dg => NO (GD hm fun n d5 hm => GU [(2, pB I 0), (3, pB q 0), (5, pB a3 0), (21, SL O l.Cpus S), (22, iv (l.Cpus.length : Int)), (23, iv H.1), (24, .bool (decide (H.1 < (l.Cpus.length : Int)))), (25, elemP O (H.1.toNat * 4)), (26, .agg #[iv d.Mask, SL ((c 0).1) d.Stack ((c 0).2), SL ((c 1).1) d.Queue.Slots ((c 1).2), SL ((c 2).1) d.Queue.Waiting ((c 2).2)])] (DL 5 [[],[0],[],[2],[3]] [[],[],[],[],[3]] (EM 5) (EM 5) (EM 5) (EM 5) (fun _ => []) [QV (pB q 3), QV (.slice Q H.2.length P), QV (.agg #[iv d.Mask, SL ((c 0).1) d.Stack ((c 0).2), SL ((c 1).1) d.Queue.Slots ((c 1).2), SL ((c 2).1) d.Queue.Waiting ((c 2).2)]), fun f v s => ∃ ac Y T ad Z U ae aa V, v = (.agg #[iv n.Mask, SL ac n.Stack Y, SL ad n.Queue.Slots Z, SL ae n.Queue.Waiting aa] : Value) ∧ s = (T ++ (U ++ V)) ∧ ownS Gx.encI n.Stack ac Y T ∧ ownS encSlot n.Queue.Slots ad Z U ∧ ownS encWaiter n.Queue.Waiting ae aa V, fun f v s => ∃ ay al W ah, v = (.slice ay [n].length al : Value) ∧ s = (W ++ ah) ∧ ownD deepInterface [n] ay al W ah] [] [1, 4] [4] (dg.preNil 5) (AC ?_ (AC ?_ (AC ?_ (AC ?_ (AC ?_ AN))))) ?_))))
   ·intro a4 a7 R en dh
    exact OM ⟨rfl, rfl⟩ dh
   ·rintro a4 a7 v0_ ⟨rfl, _⟩ R eo b6
    exact OV ⟨rfl, rfl⟩ (eL false 1 3 (b6.blk 4 rfl)) b6
   ·intro a4 a7 R ep b7
    exact OV ⟨rfl, rfl⟩ (eL true 4 0 (b7.blk 7 rfl)) b7
   ·rintro a4 a7 v2_ ⟨rfl, _⟩ R er ba
    refine WC ((c_i_newInterface er d ((c 0).1) ((c 0).2) ((bi.mem0 ba).a_ a8 0) ((c 1).1) ((c 1).2) ((bi.mem0 ba).a_ a8 1) ((c 2).1) ((c 2).2) ((bi.mem0 ba).a_ a8 2) d5).mono ?_)
    rintro e_ fh ⟨ac, Y, T, ad, Z, U, ae, aa, V, rfl, bq, br, bs, cu⟩
    refine ⟨_, rfl, ?_⟩
    exact WN (oE (.agg #[iv n.Mask, SL ac n.Stack Y, SL ad n.Queue.Slots Z, SL ae n.Queue.Waiting aa]) (T ++ (U ++ V)) ⟨ac, Y, T, ad, Z, U, ae, aa, V, rfl, rfl, bq, br, bs⟩ (Mem.callMid ba (cu.permF (by simp))))
   ·intro a4 a7 v3_ hb3_
    obtain ⟨ac, Y, T, ad, Z, U, ae, aa, V, rfl, hs3_, bq, br, bs⟩ := hb3_
    intro R cr di
    have bb : Mem [] w cr ([(BK I 32 [SN, SN, SN, SN]), (m 3), (m 7), (m 11), (BK q 32 [SL y C t, SL z F u, SL B G x, SL Q H.2 P]), a0, ag, (BK a3 87 [iv d.Mask, SL ((c 0).1) d.Stack ((c 0).2), SL ((c 1).1) d.Queue.Slots ((c 1).2), SL ((c 2).1) d.Queue.Waiting ((c 2).2)])] ++ ([[]] ++ ([(a4 3)] ++ ([] ++ R)))) := di
    rw [hs3_] at bb
    replace bb : Mem [] w cr ([(BK I 32 [SN, SN, SN, SN]), (m 3), (m 7), (m 11), (BK q 32 [SL y C t, SL z F u, SL B G x, SL Q H.2 P]), a0, ag, (BK a3 87 [iv d.Mask, SL ((c 0).1) d.Stack ((c 0).2), SL ((c 1).1) d.Queue.Slots ((c 1).2), SL ((c 2).1) d.Queue.Waiting ((c 2).2)])] ++ ([[]] ++ ([T, U, V] ++ ([] ++ R)))) := bb.permF (by simp)
    exact W_litD (D := deepInterface) [(n, plOf [(ac, Y), (ad, Z), (ae, aa)])] [n] rfl 1 [iv n.Mask, SL ac n.Stack Y, SL ad n.Queue.Slots Z, SL ae n.Queue.Waiting aa] 87 bb (by kernel_rfl) (by kernel_rfl) (by kernel_rfl) (by kernel_rfl) (by kernel_rfl) (ownI_cons (i := ⟨Int, Gx.encI, _, _, _⟩) bq (ownI_cons (i := ⟨Slot, encSlot, _, _, _⟩) br (ownI_cons (i := ⟨Waiter, encWaiter, _, _, _⟩) bs ownI_nil))) fun ay al W fi bt dj => WN (oE (SL ay [n] al) (W ++ (T ++ (U ++ (V ++ [])))) ⟨ay, al, W, (T ++ (U ++ (V ++ []))), rfl, rfl, bt⟩ (Mem.midJ (A := [T, U, V]) dj))
   rintro a4 a7 v1_ ⟨rfl, _⟩ v4_ hb4_
   obtain ⟨ay, al, W, ah, rfl, hs4_, bt⟩ := hb4_
   intro ct dk
   have a6 : Mem [] w ct [(BK I 32 [SN, SN, SN, SN]), (m 3), (m 7), (m 11), (BK q 32 [SL y C t, SL z F u, SL B G x, SL Q H.2 P]), a0, ag, (BK a3 87 [iv d.Mask, SL ((c 0).1) d.Stack ((c 0).2), SL ((c 1).1) d.Queue.Slots ((c 1).2), SL ((c 2).1) d.Queue.Waiting ((c 2).2)]), W, ah] := dk.permF (by simp [hs4_, SL])
   refine GD hm fun bg dz hm => ?_
   obtain ⟨eu, d9, d6, d0⟩ := id bt
   refine W_appendD (D := deepInterface) (us := eu) (s2 := ah) _ _ _ 80 [iv 0, SN, SN, SN] 5 al a6 ce (by kernel_rfl) (by kernel_rfl) (by kernel_rfl) rfl (by kernel_rfl) (by kernel_rfl) (by kernel_rfl) (by kernel_rfl) (by kernel_rfl) (by kernel_rfl) (d6.r a6 8) d9 d0 dz ?_
   intro bd bc bu bx d3 dl
   have dm : Mem [] w bx [(BK I 32 [SN, SN, SN, SN]), (m 3), (m 7), (m 11), (BK q 32 [SL y C t, SL z F u, SL B G x, SL Q H.2 P]), bu, (BK a3 87 [iv d.Mask, SL ((c 0).1) d.Stack ((c 0).2), SL ((c 1).1) d.Queue.Slots ((c 1).2), SL ((c 2).1) d.Queue.Waiting ((c 2).2)]), W, ag, ah] := dl.pk [0, 1, 2, 3, 4, 5, 7, 8, 6, 9]
   have dn : Mem [] w bx [(BK I 32 [SN, SN, SN, SN]), (m 3), (m 7), (m 11), (BK q 32 [SL y C t, SL z F u, SL B G x, SL Q H.2 P]), bu, (BK a3 87 [iv d.Mask, SL ((c 0).1) d.Stack ((c 0).2), SL ((c 1).1) d.Queue.Slots ((c 1).2), SL ((c 2).1) d.Queue.Waiting ((c 2).2)]), W, (ag ++ ah)] := dm.regroup (by simp)
   refine MW 1 (wS false 1 3 (SL bd bg bc) 4 [SL y C t, SL z F u, SL B G x, SL bd bg bc] dn rfl fun es dp => NG (MW 2 (WN ?_)))
   cases hm
   exact N_loop fun a ha => ⟨_, rfl, bd, bc, bu, (ag ++ ah), d3, dp.pk [0, 1, 2, 3, 4, 5, 8], ha.s⟩
  refine XA ?_
  obtain rfl := HS hm
  obtain rfl := d4 _ rfl
  exact NM fun a ha => ⟨Q, P, a0, ag, ce, a9.pk [0, 1, 2, 3, 4, 5, 6], ha.s⟩
 intro ew et ⟨ab, X, be, bf, d2, b8, dv⟩
 refine N_use dv ?_
 have hm := d1
 refine NF (wV (.agg #[SL y C t, SL z F u, SL B G x, SL ab au X]) et (eL true 4 0 (b8.blk 4 rfl)) (wS true 4 0 (.agg #[SL y C t, SL z F u, SL B G x, SL ab au X]) 0 [SL y C t, SL z F u, SL B G x, SL ab au X] b8 rfl fun fj b9 => NC ?_))
 obtain rfl := HS hm
 exact N_ret [.agg #[SL y C t, SL z F u, SL B G x, SL ab au X]] (RX true 4 0 (b9.blk 0 rfl) RVs_nil) (⟨y, t, (m 3), z, u, (m 7), B, x, (m 11), ab, X, be, bf, rfl, bk, bm, bo, d2, b9.pk [1, 2, 3, 5, 6]⟩)
theorem c_slices_Index_178 (w : World) (b : List Int) (d g) (l : rdS Gx.encI w b d g) (f : Int) {r : Int} (hm : M.slices_Index_178 b f = some r) :
  Calls Tryz.prog 178 #[SL d b g, iv f] w fun e w' => e = .returned (iv r) ∧ Mem [] w w' [] := by
 unfold M.slices_Index_178 at hm
 refine cE Tryz.func178 ?_
 have M0 := Mem.refl [] w
 refine QA (MW 1 (NB (MW 3 (NO (GD hm fun z y m => G_meet (fun a w' => ∃ (q : Unit), z = .inl q ∧ Mem [] w w' [] ∧ Sat Tryz.f178.ntmps [] a) ?_ ?_)))))
 ·refine GB (G_while (σ := Int) (ρ := (Unit) ⊕ (Int)) (fun c a w' => Mem [] w w' [] ∧ Sat Tryz.f178.ntmps [(0, SL d b g), (1, iv f), (7, iv (b.length : Int)), (8, iv c)] a) y (fun a ha => ⟨M0.pk [], ha.s⟩) ?_)
  clear hm
  intro c D hm n B h ⟨i, v⟩
  refine G_use v (QA (MW 1 (NE (GT hm (fun j hm => ?_) fun j hm => ?_))))
  ·refine KD (MW 2 (NA (MW 3 (GD hm fun t o hm => wV (elemP d (c.toNat * 1)) h (eI (l.mem0 i) rfl o) (wV (iv t) h (eE false 1 0 (c.toNat * 1) (l.mem0 i) o) (MW 1 (NO (GT hm (fun k hm => ?_) fun k hm => ?_))))))))
   ·refine QA (MW 2 (NX ?_))
    obtain rfl := HS hm
    obtain rfl := n _ rfl
    have hm := m; simp only [Sum.elim_inr] at hm
    refine BR (N_meet_ret (TR ?_))
    obtain rfl := HS hm
    exact RA [iv c] (⟨rfl, i.pk []⟩)
   refine KC (MW 2 (WN ?_))
   cases hm
   exact N_loop fun a ha => ⟨_, rfl, i.pk [], ha.s⟩
  refine XA ?_
  obtain rfl := HS hm
  obtain rfl := n _ rfl
  exact NM fun a ha => ⟨_, rfl, i.pk [], ha.s⟩
 intro C A ⟨q, hout_, u, x⟩
 refine N_use x ?_
 subst hout_
 have hm := m; simp only [Sum.elim_inl] at hm
 refine NF (wR 1 [(4, iv (-1))] A (NC ?_))
 cases hm
 exact RA [iv (-1)] (⟨rfl, u.pk []⟩)
theorem c_slices_Contains_136 (w : World) (a : List Int) (c b) (i : rdS Gx.encI w a c b) (d : Int) {r : Bool} (hm : M.slices_Contains_136 a d = some r) :
  Calls Tryz.prog 136 #[SL c a b, iv d] w fun e w' => e = .returned (.bool r) ∧ Mem [] w w' [] := by
 unfold M.slices_Contains_136 at hm
 refine cE Tryz.func136 ?_
 have M0 := Mem.refl [] w
 refine QA (MW 1 (NA (MW 2 (GD hm fun f j hm => WD (c_slices_Index_178 w a c b (i.mem0 M0) d j) M0 fun k h => MW 2 (NC ?_)))))
 cases hm
 exact RA [.bool (decide (f ≥ 0))] (⟨rfl, h.pk []⟩)
theorem c_i_withSlot (w : World) (g : List Slot) (j i) (z : rdS encSlot w g j i) (b : Int) (a : Slot) {r : (List Slot)} (hm : M.i_withSlot g b a = some r) :
  Calls Tryz.prog 230 #[SL j g i, iv b, .agg #[iv a.State, iv a.Irq, iv a.Priority]] w fun e w' => ∃ t n u, e = .returned (SL t r n) ∧ ownS encSlot r t n u ∧ Mem [] w w' [u] := by
 unfold M.i_withSlot at hm
 refine cE Tryz.func230 ?_
 have M0 := Mem.refl [] w
 refine QA (wN (CE 117 [iv a.State, iv a.Irq, iv a.Priority]) M0 fun h G v => MW 1 (NA (wL (E := encSlot) ([] : List Slot) 0 [] 117 v fun D y K H B m => MW 1 (GD hm fun c A hm => wA 24 [iv 0, iv 0, iv 0] 1 m B (z.mem0 m) A fun d f L k o l => MW 1 (NA (MW 2 (wV (.agg #[iv a.State, iv a.Irq, iv a.Priority]) k (eL true 3 0 (l.blk 0 rfl)) (GD hm fun J q hm => wV (elemP d (b.toNat * 3)) k (eI (o.r l 1) rfl q) (wE true 3 b.toNat 0 (b.toNat * 3) J a (.agg #[iv a.State, iv a.Irq, iv a.Priority]) 1 l o (gxIdx_spec q).2 fun I F C x => LX 7 d f c b.toNat a (LX 11 d f c b.toNat a (NA (MW 2 (NC ?_)))))))))))))
 cases hm
 exact RA [SL d (c.set b.toNat a) f] (⟨d, f, F, rfl, C, x.pk [1]⟩)
theorem c_i_putIrq (w : World) (c : List Slot) (b d) (l : rdS encSlot w c b d) (g : Int) (i : Int) {r : (List Slot) × Bool} (hm : M.i_putIrq c g i = some r) :
  Calls Tryz.prog 228 #[SL b c d, iv g, iv i] w fun e w' => ∃ I G L, e = .returned (.tuple #[SL I r.1 G, .bool r.2]) ∧ ownS encSlot r.1 I G L ∧ Mem [] w w' [L] := by
 unfold M.i_putIrq at hm
 refine cE Tryz.func228 ?_
 have M0 := Mem.refl [] w
 refine QA (MW 2 (NB (MW 2 (GD hm fun h aa hm => WD (c_i_findSlot w c b d (l.mem0 M0) g aa) M0 fun k n => MW 1 (NA (MW 2 (NO (GT hm (fun A hm => ?_) fun A hm => ?_))))))))
 ·refine QA (MW 2 (GD hm fun f H hm => wV (elemP b (h.toNat * 3)) k (eI (l.mem0 n) rfl H) (wV (.agg #[iv f.State, iv f.Irq, iv f.Priority]) k (eE true 3 0 (h.toNat * 3) (l.mem0 n) H) (wN (CE 117 [iv 0, iv 0, iv 0]) n fun j aj R => wS true 3 0 (.agg #[iv f.State, iv f.Irq, iv f.Priority]) 0 [iv f.State, iv f.Irq, iv f.Priority] R rfl fun t u => NB (MW 1 (wV (iv f.State) t (eL false 1 0 (u.blk 0 rfl)) (MW 1 (NO (GD hm fun q X W => G_meet (fun a w' => Mem [] w w' [(BK j 117 [iv q, iv f.Irq, iv f.Priority])] ∧ Sat Tryz.f228.ntmps [(0, SL b c d), (8, iv h), (9, pB j 0)] a) ?_ ?_)))))))))
  ·have hm := X
   refine GT hm (fun B hm => ?_) fun B hm => ?_
   ·refine GR (MW 1 (wS false 1 0 (iv 3) 0 [iv 3, iv f.Irq, iv f.Priority] u rfl fun ak S => WN ?_))
    obtain rfl := HS hm
    exact NM fun a ha => ⟨S.pk [0], ha.s⟩
   refine GK ?_
   obtain rfl := HS hm
   exact NM fun a ha => ⟨u.pk [0], ha.s⟩
  intro ai F ⟨v, V⟩
  refine N_use V ?_
  have hm := W
  refine NF (MW 2 (wV (.agg #[iv q, iv f.Irq, iv f.Priority]) F (eL true 3 0 (v.blk 0 rfl)) (GD hm fun J ab hm => WC ((c_i_withSlot F c b d (l.mem0 v) h (⟨q, f.Irq, f.Priority⟩ : Slot) ab).mono ?_))))
  rintro e_ ag ⟨D, y, ae, rfl, Y, O⟩
  have T := v.call O
  refine ⟨_, rfl, ?_⟩
  refine wR 2 [(6, SL D J y), (7, .bool true)] ag (ND ?_)
  cases hm
  exact RA [SL D J y, .bool true] (⟨D, y, ae, rfl, Y, T.pk [1]⟩)
 refine KA (MW 1 (GD hm fun m ac hm => WD (c_i_firstEmpty k c b d (l.mem0 n) ac) n fun o x => MW 1 (NB (MW 2 (NO (GT hm (fun C hm => ?_) fun C hm => ?_))))))
 ·refine QA (MW 2 (ND ?_))
  cases hm
  exact RA [SN, .bool false] (⟨none, 0, [], rfl, ownS_nil, x.pk [100000]⟩)
 refine KA (MW 5 (GD hm fun K ad hm => WC ((c_i_withSlot o c b d (l.mem0 x) m (⟨1, g, i⟩ : Slot) ad).mono ?_)))
 rintro e_ ah ⟨E, z, af, rfl, Z, Q⟩
 have U := x.call Q
 refine ⟨_, rfl, ?_⟩
 refine MW 2 (NC ?_)
 cases hm
 exact RA [SL E K z, .bool true] (⟨E, z, af, rfl, Z, U.pk [0]⟩)
theorem c_slices_Insert_252 (w : World) (x18172 : List Waiter) (p18174 : Option Addr) (c18175 : Nat) (sg18176 : Seg) (ho18177 : ownS encWaiter x18172 p18174 c18175 sg18176) (x18178 : Int) (x18179 : List Waiter) (p18181 : Option Addr) (c18182 : Nat) (sg18183 : Seg) (ho18184 : ownS encWaiter x18179 p18181 c18182 sg18183) (hA : ∀ q ∈ List.flatten [sg18176, sg18183], w.heap[q.1]? = some q.2) (hN : (idsOf [sg18176, sg18183]).Nodup) {r : (List Waiter)} (hm : M.slices_Insert_252 x18172 x18178 x18179 = some r) :
    Calls Tryz.prog 252 #[.slice p18174 x18172.length c18175, .int .i64 x18178, .slice p18181 x18179.length c18182] w fun e w' => ∃ (p18186 : Option Addr) (c18187 : Nat) (sg18188 : Seg), e = .returned (.slice p18186 r.length c18187) ∧ ownS encWaiter r p18186 c18187 sg18188 ∧ Mem (idsOf [sg18176, sg18183]) w w' [sg18188] := by
  unfold M.slices_Insert_252 at hm
  rcases gx_bif hm with ⟨h, hm⟩ | ⟨h, hm⟩
  · obtain rfl := Option.some.inj hm
    simp only [Bool.and_eq_true, decide_eq_true_eq] at h
    obtain ⟨⟨h0, h1⟩, h2, h3⟩ := h
    obtain ⟨i, rfl⟩ : ∃ i : Nat, x18178 = i := ⟨x18178.toNat, by omega⟩
    have hc0 : x18172.length ≤ c18175 := ho18177.len_le
    have h1' : i ≤ x18172.length := by omega
    rw [Int.toNat_natCast]
    refine C_enter Tryz.func252 rfl (by kernel_rfl) ?_
    have M0 := Mem.start' w [sg18176, sg18183] hA hN
    refine G_seq ?_
    refine G_region ?_
    refine W_run 1 [(0, .slice p18174 x18172.length c18175), (1, .int .i64 (i : Int)), (2, .slice p18181 x18179.length c18182)] w (by kernel_rfl) ?_
    refine W_nil ?_
    refine N_then ?_
    refine G_seq ?_
    refine G_region ?_
    refine W_run 2 [(0, .slice p18174 x18172.length c18175), (1, .int .i64 (i : Int)), (2, .slice p18181 x18179.length c18182), (10, .slice p18174 x18172.length c18175), (11, .int .i64 (i : Int))] w (by kernel_rfl) ?_
    refine W_sliceC (p := p18174) (c := c18175) _ _ _ _ x18172.length (i : Int) x18172.length 2 (by kernel_rfl) rfl (by kernel_rfl) (Or.inr ⟨_, rfl, (by kernel_rfl)⟩) (Or.inl ⟨rfl, rfl⟩) (by kernel_rfl) hc0 (by omega) (by omega) (by omega) rfl ?_
    refine W_nil ?_
    refine N_then ?_
    refine G_sub [(0, .slice p18174 x18172.length c18175), (1, .int .i64 (i : Int)), (2, .slice p18181 x18179.length c18182)] (by kernel_rfl) ?_
    refine G_seq ?_
    refine G_region ?_
    refine W_run 3 [(0, .slice p18174 x18172.length c18175), (1, .int .i64 (i : Int)), (2, .slice p18181 x18179.length c18182), (7, .int .i64 (x18179.length : Int))] w (by kernel_rfl) ?_
    refine W_nil ?_
    refine N_then ?_
    refine G_seq ?_
    refine G_seq ?_
    refine G_region ?_
    refine W_run 2 [(0, .slice p18174 x18172.length c18175), (1, .int .i64 (i : Int)), (2, .slice p18181 x18179.length c18182), (7, .int .i64 (x18179.length : Int)), (16, .bool ((x18179.length : Int) == 0))] w (by kernel_rfl) ?_
    refine W_nil ?_
    refine N_then ?_
    refine G_cond_f (b := ((x18179.length : Int) == 0)) (by simp [h2]) (by kernel_rfl) ?_
    refine G_skip ?_
    refine N_then ?_
    refine G_seq ?_
    refine G_region ?_
    refine W_run 3 [(0, .slice p18174 x18172.length c18175), (1, .int .i64 (i : Int)), (2, .slice p18181 x18179.length c18182), (7, .int .i64 (x18179.length : Int)), (8, .int .i64 (x18172.length : Int))] w (by kernel_rfl) ?_
    refine W_nil ?_
    refine N_then ?_
    refine G_seq ?_
    refine G_seq ?_
    refine G_region ?_
    refine W_run 3 [(0, .slice p18174 x18172.length c18175), (1, .int .i64 (i : Int)), (2, .slice p18181 x18179.length c18182), (7, .int .i64 (x18179.length : Int)), (8, .int .i64 (x18172.length : Int)), (22, .bool ((i : Int) == (x18172.length : Int)))] w (by kernel_rfl) ?_
    refine W_nil ?_
    refine N_then ?_
    have rd2 : rdS encWaiter w x18179 p18181 c18182 := ho18184.rd M0 1 (by kernel_rfl)
    by_cases hi : i = x18172.length
    · refine G_cond_t (b := ((i : Int) == (x18172.length : Int))) (by simp [hi]) (by kernel_rfl) ?_
      refine G_seq ?_
      refine G_region ?_
      refine W_run 2 [(0, .slice p18174 x18172.length c18175), (1, .int .i64 (i : Int)), (2, .slice p18181 x18179.length c18182), (7, .int .i64 (x18179.length : Int)), (8, .int .i64 (x18172.length : Int)), (23, .slice p18174 x18172.length c18175), (24, .slice p18181 x18179.length c18182)] w (by kernel_rfl) ?_
      have happ : gxApp 16 x18172 x18179 = some (x18172 ++ x18179) := by unfold gxApp; rw [if_pos (by rw [h2]; omega)]
      refine W_append (E := encWaiter) _ _ _ 16 [.int .i64 0, .int .i64 0] 0 c18182 M0 ho18177 (by kernel_rfl) (by kernel_rfl) (by kernel_rfl) rfl (by kernel_rfl) (by kernel_rfl) (by kernel_rfl) (by kernel_rfl) (by kernel_rfl) (by kernel_rfl) rd2 happ ?_
      intro p1 c1 sg1 w1 ho1 M1
      refine W_run 1 [(6, .slice p1 (x18172 ++ x18179).length c1)] w1 (by kernel_rfl) ?_
      refine W_nil ?_
      refine N_then ?_
      refine G_ret ?_
      refine N_then_ret ?_
      refine N_ret [.slice p1 (x18172 ++ x18179).length c1] (RVs_cons (RV_tmp (by kernel_rfl)) RVs_nil) ?_
      have er : x18172.take i ++ x18179 ++ x18172.drop i = x18172 ++ x18179 := by rw [hi, List.take_length, List.drop_length, List.append_nil]
      rw [er]
      exact ⟨p1, c1, sg1, rfl, ho1, M1.pick [0] (by kernel_rfl)⟩
    refine G_cond_f (b := ((i : Int) == (x18172.length : Int))) (by simpa using fun h => hi (by omega)) (by kernel_rfl) ?_
    refine G_skip ?_
    refine N_then ?_
    have hin : i < x18172.length := by omega
    rcases ho18177 with ⟨_, hx, _⟩ | ⟨b, off, cs, e0, hp0, hs0, _, hcm0, hz0, hh0⟩
    · rw [hx] at hin
      simp at hin
    rcases ho18184 with ⟨_, hx, _⟩ | ⟨b2, off2, cs2, e2, hp2, hs2, hl2, hcm2, hz2, hh2⟩
    · rw [hx] at h2
      simp at h2
    subst hp0 hs0 hp2 hs2
    have hv2 : 1 ≤ c18182 := by omega
    have H0 : w.heap[b]? = some (.cells cs e0 (0, 0)) := hA (b, _) (by simp)
    have H2 : w.heap[b2]? = some (.cells cs2 e2 (0, 0)) := hA (b2, _) (by simp)
    have hne : b2 ≠ b := by intro h; subst h; simp [idsOf] at hN
    have kE : (encWaiter).k = 2 := rfl
    rw [kE] at hz0 hz2
    have fa := flat_length (encWaiter) x18172
    have fv := flat_length (encWaiter) x18179
    have ft := flat_length (encWaiter) (x18172.take i)
    have fd := flat_length (encWaiter) (x18172.drop i)
    rw [kE] at fa fv ft fd
    rw [List.length_take, Nat.min_eq_left h1'] at ft
    rw [List.length_drop] at fd
    rw [h2] at fv
    have hf0 : holdsF cs off (flat (encWaiter) x18172) := holds_flat.1 hh0
    have hf2 : holdsF cs2 off2 (flat (encWaiter) x18179) := holds_flat.1 hh2
    have hft : holdsF cs off (flat (encWaiter) (x18172.take i)) := by rw [flat_take, kE]; exact holdsF_take hf0 _
    have hfd : holdsF cs (off + i * 2) (flat (encWaiter) (x18172.drop i)) := by rw [flat_drop, kE]; exact holdsF_drop hf0 _
    have o1 : ∀ v ∈ flat (encWaiter) x18179, v.oneCell' = true := flat_one (encWaiter) x18179
    have o2 : ∀ v ∈ flat (encWaiter) (x18172.drop i), v.oneCell' = true := flat_one (encWaiter) _
    have eL : x18172.length + 1 = (x18172.take i ++ x18179 ++ x18172.drop i).length := by rw [List.length_append, List.length_append, List.length_take, List.length_drop, h2, Nat.min_eq_left h1']; omega
    have eF : flat (encWaiter) (x18172.take i ++ x18179 ++ x18172.drop i) = flat (encWaiter) (x18172.take i) ++ flat (encWaiter) x18179 ++ flat (encWaiter) (x18172.drop i) := by rw [flat_append, flat_append]
    have ew : w64 (x18172.length + 1 : Int) = ((x18172.length + 1 : Nat) : Int) := by rw [w64_idV (by omega) (by omega)]; omega
    refine G_seq ?_
    refine G_seq ?_
    refine G_region ?_
    refine W_run 6 [(0, .slice (some ⟨b, off, none⟩) x18172.length c18175), (1, .int .i64 (i : Int)), (2, .slice (some ⟨b2, off2, none⟩) x18179.length c18182), (7, .int .i64 (x18179.length : Int)), (8, .int .i64 (x18172.length : Int)), (31, .bool (decide (w64 ((x18172.length : Int) + (x18179.length : Int)) > (c18175 : Int))))] w (by kernel_rfl) ?_
    refine W_nil ?_
    refine N_then ?_
    have eN : w64 ((x18172.length : Int) + (x18179.length : Int)) = ((x18172.length + 1 : Nat) : Int) := by rw [h2, w64_idV (by omega) (by omega)]; omega
    have eI : w64 ((i : Int) + (x18179.length : Int)) = ((i + 1 : Nat) : Int) := by rw [h2, w64_idV (by omega) (by omega)]; omega
    by_cases hg : c18175 < x18172.length + 1
    · refine G_cond_t (b := (decide (w64 ((x18172.length : Int) + (x18179.length : Int)) > (c18175 : Int)))) (by rw [eN]; exact decide_eq_true (by omega)) (by kernel_rfl) ?_
      refine G_seq ?_
      refine G_region ?_
      refine W_run 2 [(0, .slice (some ⟨b, off, none⟩) x18172.length c18175), (1, .int .i64 (i : Int)), (2, .slice (some ⟨b2, off2, none⟩) x18179.length c18182), (7, .int .i64 (x18179.length : Int)), (8, .int .i64 (x18172.length : Int)), (32, .slice (some ⟨b, off, none⟩) x18172.length c18175), (33, .int .i64 (i : Int))] w (by kernel_rfl) ?_
      refine W_sliceC (p := (some ⟨b, off, none⟩)) (c := c18175) _ _ _ _ (x18172.length) 0 (i : Int) 2 (by kernel_rfl) rfl (by kernel_rfl) (Or.inl ⟨rfl, rfl⟩) (Or.inr ⟨_, rfl, (by kernel_rfl)⟩) (by kernel_rfl) (by omega) (by omega) (by omega) (by omega) (v := .slice (some ⟨b, off, none⟩) i c18175) (by simp [subP, addr_add]) ?_
      refine W_run 5 [(0, .slice (some ⟨b, off, none⟩) x18172.length c18175), (1, .int .i64 (i : Int)), (2, .slice (some ⟨b2, off2, none⟩) x18179.length c18182), (7, .int .i64 (x18179.length : Int)), (8, .int .i64 (x18172.length : Int)), (34, .slice (some ⟨b, off, none⟩) i c18175), (39, .int .i64 (w64 (w64 ((x18172.length : Int) + (x18179.length : Int)) - (i : Int))))] w (by kernel_rfl) ?_
      refine W_conv 39 (.int .i64 (w64 (w64 ((x18172.length : Int) + (x18179.length : Int)) - (i : Int)))) (.int .i64 (((x18172.length + 1 - i : Nat)) : Int)) (by kernel_rfl) (by rw [eN, w64_idV (by omega) (by omega), show ((x18172.length + 1 : Nat) : Int) - (i : Int) = (((x18172.length + 1 - i : Nat)) : Int) by omega]) ?_
      refine W_madeOn (c := c18175) (encWaiter) 83 3 _ _ 16 [.int .i64 0, .int .i64 0] .i64 b off cs e0 (flat (encWaiter) (x18172.take i)) i ((x18172.length + 1 - i : Nat)) M0 (by kernel_rfl) rfl (by kernel_rfl) (by kernel_rfl) (by kernel_rfl) (by kernel_rfl) (by kernel_rfl) (by kernel_rfl) (by kernel_rfl) H0 (by rw [ft, kE]) hft (by omega) (by omega) (by rw [show i + ((x18172.length + 1 - i : Nat)) = x18172.length + 1 by omega]; omega) ?_
      rw [show i + ((x18172.length + 1 - i : Nat)) = x18172.length + 1 by omega]
      intro c9 cs9 e9 w9 hc9 hcm9 hz9 hf9 M9
      rw [kE] at hz9
      refine W_run 1 [(0, .slice (some ⟨b, off, none⟩) x18172.length c18175), (1, .int .i64 (i : Int)), (2, .slice (some ⟨b2, off2, none⟩) x18179.length c18182), (7, .int .i64 (x18179.length : Int)), (8, .int .i64 (x18172.length : Int)), (9, .slice (some ⟨w.heap.size, 0, none⟩) (x18172.length + 1) c9)] w9 (by kernel_rfl) ?_
      refine W_nil ?_
      refine N_then ?_
      refine G_seq ?_
      refine G_region ?_
      refine W_run 2 [(0, .slice (some ⟨b, off, none⟩) x18172.length c18175), (1, .int .i64 (i : Int)), (2, .slice (some ⟨b2, off2, none⟩) x18179.length c18182), (7, .int .i64 (x18179.length : Int)), (8, .int .i64 (x18172.length : Int)), (9, .slice (some ⟨w.heap.size, 0, none⟩) (x18172.length + 1) c9), (41, .slice (some ⟨w.heap.size, 0, none⟩) (x18172.length + 1) c9), (42, .int .i64 (i : Int))] w9 (by kernel_rfl) ?_
      refine W_sliceC (p := some ⟨w.heap.size, 0, none⟩) (c := c9) _ _ _ _ (x18172.length + 1) (i : Int) ((x18172.length + 1 : Nat) : Int) 2 (by kernel_rfl) rfl (by kernel_rfl) (Or.inr ⟨_, rfl, (by kernel_rfl)⟩) (Or.inl ⟨rfl, rfl⟩) (by kernel_rfl) (by omega) (by omega) (by omega) (by omega) (v := .slice (some ⟨w.heap.size, i * 2, none⟩) (x18172.length + 1 - i) (c9 - i)) (by rw [Int.toNat_natCast, Int.toNat_natCast]; simp [subP, addr_add, show ¬ (c9 = i) by omega]) ?_
      refine W_run 1 [(0, .slice (some ⟨b, off, none⟩) x18172.length c18175), (1, .int .i64 (i : Int)), (2, .slice (some ⟨b2, off2, none⟩) x18179.length c18182), (7, .int .i64 (x18179.length : Int)), (8, .int .i64 (x18172.length : Int)), (9, .slice (some ⟨w.heap.size, 0, none⟩) (x18172.length + 1) c9), (43, .slice (some ⟨w.heap.size, i * 2, none⟩) (x18172.length + 1 - i) (c9 - i)), (44, .slice (some ⟨b2, off2, none⟩) x18179.length c18182)] w9 (by kernel_rfl) ?_
      refine W_copy _ _ _ 2 16 [.int .i64 0, .int .i64 0] 2 w.heap.size (i * 2) (x18172.length + 1 - i) (c9 - i) cs9 e9 ⟨b2, off2, none⟩ x18179.length c18182 (flat (encWaiter) x18179) M9 rfl (by kernel_rfl) rfl (by kernel_rfl) (by kernel_rfl) (by kernel_rfl) (by rw [fv, h2, show Nat.min 1 (x18172.length + 1 - i) = 1 from Nat.min_eq_left (by omega)]) (fun j v hj => by rw [addr_add, cell_of_heap (M9.blk 1 (b := b2) rfl)]; exact hf2 j v hj) (by rw [fv]; omega) o1 ?_
      intro w10 M10
      refine W_nil ?_
      refine N_then ?_
      refine G_seq ?_
      refine G_sub [(0, .slice (some ⟨b, off, none⟩) x18172.length c18175), (1, .int .i64 (i : Int)), (2, .slice (some ⟨b2, off2, none⟩) x18179.length c18182), (7, .int .i64 (x18179.length : Int)), (8, .int .i64 (x18172.length : Int)), (9, .slice (some ⟨w.heap.size, 0, none⟩) (x18172.length + 1) c9)] (by kernel_rfl) ?_
      refine G_dagL 8 [[], [], [], [1, 2], [0, 3], [], [], [5, 6]] [[], [], [], [], [], [], [], []] [[], [], [], [], [], [], [], []] [[], [], [], [], [], [], [], []] [[], [], [], [], [], [], [], []] [[], [], [], [], [], [], [], []] (fun _ => []) (fun q_ => ([fun f v s => v = (.slice (some ⟨w.heap.size, 0, none⟩) (x18172.length + 1) c9 : Value) ∧ s = [], fun f v s => v = (.int .i64 (i : Int) : Value) ∧ s = [], fun f v s => v = (.int .i64 (x18179.length : Int) : Value) ∧ s = [], fun f v s => v = (.int .i64 ((i + 1 : Nat) : Int) : Value) ∧ s = [], fun f v s => v = (.slice (some ⟨w.heap.size, (i + 1) * 2, none⟩) (x18172.length + 1 - (i + 1)) (c9 - (i + 1)) : Value) ∧ s = [], fun f v s => v = (.slice (some ⟨b, off, none⟩) x18172.length c18175 : Value) ∧ s = [], fun f v s => v = (.int .i64 (i : Int) : Value) ∧ s = [], fun f v s => v = (.slice (some ⟨b, off + i * 2, none⟩) (x18172.length - i) (c18175 - i) : Value) ∧ s = []] : List ((Nat → Value) → Value → Seg → Prop)).getD q_ (fun _ _ _ => False)) (fun j f v => ∃ s, (fun q_ => ([fun f v s => v = (.slice (some ⟨w.heap.size, 0, none⟩) (x18172.length + 1) c9 : Value) ∧ s = [], fun f v s => v = (.int .i64 (i : Int) : Value) ∧ s = [], fun f v s => v = (.int .i64 (x18179.length : Int) : Value) ∧ s = [], fun f v s => v = (.int .i64 ((i + 1 : Nat) : Int) : Value) ∧ s = [], fun f v s => v = (.slice (some ⟨w.heap.size, (i + 1) * 2, none⟩) (x18172.length + 1 - (i + 1)) (c9 - (i + 1)) : Value) ∧ s = [], fun f v s => v = (.slice (some ⟨b, off, none⟩) x18172.length c18175 : Value) ∧ s = [], fun f v s => v = (.int .i64 (i : Int) : Value) ∧ s = [], fun f v s => v = (.slice (some ⟨b, off + i * 2, none⟩) (x18172.length - i) (c18175 - i) : Value) ∧ s = []] : List ((Nat → Value) → Value → Seg → Prop)).getD q_ (fun _ _ _ => False)) j f v s) [] [4, 7] [] (fun _ _ _ s h => ⟨s, h⟩) (by kernel_rfl) (by kernel_rfl) (M10.preNil 8) (by kernel_rfl) (by kernel_rfl) (by kernel_rfl) (by kernel_rfl) (allOb_cons ?_ (allOb_cons ?_ (allOb_cons ?_ (allOb_cons ?_ (allOb_cons ?_ (allOb_cons ?_ (allOb_cons ?_ (allOb_cons ?_ allOb_nil)))))))) ?_
      · intro g f
        intro R wq Mq
        refine W_run 1 [(46, .slice (some ⟨w.heap.size, 0, none⟩) (x18172.length + 1) c9)] wq (by kernel_rfl) ?_
        exact W_nil (ob_end (.slice (some ⟨w.heap.size, 0, none⟩) (x18172.length + 1) c9) [] rfl (by kernel_rfl) ⟨(by kernel_rfl), rfl⟩ Mq)
      · intro g f
        intro R wq Mq
        refine W_run 1 [(47, .int .i64 (i : Int))] wq (by kernel_rfl) ?_
        exact W_nil (ob_end (.int .i64 (i : Int)) [] rfl (by kernel_rfl) ⟨(by kernel_rfl), rfl⟩ Mq)
      · intro g f
        intro R wq Mq
        refine W_run 1 [(48, .int .i64 (x18179.length : Int))] wq (by kernel_rfl) ?_
        exact W_nil (ob_end (.int .i64 (x18179.length : Int)) [] rfl (by kernel_rfl) ⟨(by kernel_rfl), rfl⟩ Mq)
      · intro g f
        intro v1 hb1
        obtain ⟨rfl, _⟩ := hb1
        intro v2 hb2
        obtain ⟨rfl, _⟩ := hb2
        intro R wq Mq
        refine W_run 1 [(49, .int .i64 (w64 ((i : Int) + (x18179.length : Int))))] wq (by kernel_rfl) ?_
        refine W_conv 49 (.int .i64 (w64 ((i : Int) + (x18179.length : Int)))) (.int .i64 ((i + 1 : Nat) : Int)) (by kernel_rfl) (by rw [eI]) ?_
        exact W_nil (ob_end (.int .i64 ((i + 1 : Nat) : Int)) [] rfl (by kernel_rfl) ⟨(by kernel_rfl), rfl⟩ Mq)
      · intro g f
        intro v0 hb0
        obtain ⟨rfl, _⟩ := hb0
        intro v3 hb3
        obtain ⟨rfl, _⟩ := hb3
        intro R wq Mq
        refine W_sliceC (p := some ⟨w.heap.size, 0, none⟩) (c := c9) _ _ _ _ (x18172.length + 1) ((i + 1 : Nat) : Int) ((x18172.length + 1 : Nat) : Int) 2 (by kernel_rfl) rfl (by kernel_rfl) (Or.inr ⟨_, rfl, (by kernel_rfl)⟩) (Or.inl ⟨rfl, rfl⟩) (by kernel_rfl) (by omega) (by omega) (by omega) (by omega) (v := .slice (some ⟨w.heap.size, (i + 1) * 2, none⟩) (x18172.length + 1 - (i + 1)) (c9 - (i + 1))) (by rw [Int.toNat_natCast, Int.toNat_natCast, subP, if_neg (by omega), Option.map_some, addr_add, Nat.zero_add]) ?_
        exact W_nil (ob_end (.slice (some ⟨w.heap.size, (i + 1) * 2, none⟩) (x18172.length + 1 - (i + 1)) (c9 - (i + 1))) [] rfl (by kernel_rfl) ⟨(by kernel_rfl), rfl⟩ Mq)
      · intro g f
        intro R wq Mq
        refine W_run 1 [(51, .slice (some ⟨b, off, none⟩) x18172.length c18175)] wq (by kernel_rfl) ?_
        exact W_nil (ob_end (.slice (some ⟨b, off, none⟩) x18172.length c18175) [] rfl (by kernel_rfl) ⟨(by kernel_rfl), rfl⟩ Mq)
      · intro g f
        intro R wq Mq
        refine W_run 1 [(52, .int .i64 (i : Int))] wq (by kernel_rfl) ?_
        exact W_nil (ob_end (.int .i64 (i : Int)) [] rfl (by kernel_rfl) ⟨(by kernel_rfl), rfl⟩ Mq)
      · intro g f
        intro v5 hb5
        obtain ⟨rfl, _⟩ := hb5
        intro v6 hb6
        obtain ⟨rfl, _⟩ := hb6
        intro R wq Mq
        refine W_sliceC (p := some ⟨b, off, none⟩) (c := c18175) _ _ _ _ (x18172.length) (i : Int) ((x18172.length : Nat) : Int) 2 (by kernel_rfl) rfl (by kernel_rfl) (Or.inr ⟨_, rfl, (by kernel_rfl)⟩) (Or.inl ⟨rfl, rfl⟩) (by kernel_rfl) (by omega) (by omega) (by omega) (by omega) (v := .slice (some ⟨b, off + i * 2, none⟩) (x18172.length - i) (c18175 - i)) (by rw [Int.toNat_natCast, Int.toNat_natCast, subP, if_neg (by omega), Option.map_some, addr_add]) ?_
        exact W_nil (ob_end (.slice (some ⟨b, off + i * 2, none⟩) (x18172.length - i) (c18175 - i)) [] rfl (by kernel_rfl) ⟨(by kernel_rfl), rfl⟩ Mq)
      intro g f
      intro v4 hb4
      obtain ⟨rfl, _⟩ := hb4
      intro v7 hb7
      obtain ⟨rfl, _⟩ := hb7
      intro w11 M11
      have z9 := wr_size cs9 (i * 2) (flat (encWaiter) x18179) (by rw [fv]; omega)
      refine W_copy _ _ _ 2 16 [.int .i64 0, .int .i64 0] 2 w.heap.size ((i + 1) * 2) (x18172.length + 1 - (i + 1)) (c9 - (i + 1)) (wr cs9 (i * 2) (flat (encWaiter) x18179)) e9 ⟨b, off + i * 2, none⟩ (x18172.length - i) (c18175 - i) (flat (encWaiter) (x18172.drop i)) M11 rfl (by kernel_rfl) rfl (by kernel_rfl) (by kernel_rfl) (by kernel_rfl) (by rw [fd, show Nat.min (x18172.length - i) (x18172.length + 1 - (i + 1)) = x18172.length - i from Nat.min_eq_left (by omega)]) (fun j v hj => by rw [addr_add, cell_of_heap (M11.blk 0 (b := b) rfl)]; exact hfd j v hj) (by rw [z9, fd]; omega) o2 ?_
      intro w12 M12
      refine W_nil ?_
      refine N_then ?_
      refine G_seq ?_
      refine G_region ?_
      refine W_run 2 [(6, .slice (some ⟨w.heap.size, 0, none⟩) (x18172.length + 1) c9)] w12 (by kernel_rfl) ?_
      refine W_nil ?_
      refine N_then ?_
      refine G_ret ?_
      refine N_then_ret ?_
      refine N_ret [.slice (some ⟨w.heap.size, 0, none⟩) (x18172.length + 1) c9] (RVs_cons (RV_tmp (by kernel_rfl)) RVs_nil) ?_
      have z10 := wr_size (wr cs9 (i * 2) (flat (encWaiter) x18179)) ((i + 1) * 2) (flat (encWaiter) (x18172.drop i)) (by rw [z9, fd]; omega)
      have hfin := (ins_holds (cs := cs9) (off := 0) (A := flat (encWaiter) (x18172.take i)) (V := flat (encWaiter) x18179) (B := flat (encWaiter) (x18172.drop i)) hf9 (by rw [ft, fv, fd]; omega)).1
      rw [ft, fv, show 0 + i * 2 = i * 2 by omega, show i * 2 + 1 * 2 = (i + 1) * 2 by omega] at hfin
      refine ⟨some ⟨w.heap.size, 0, none⟩, c9, _, by rw [← eL]; rfl, Or.inr ⟨w.heap.size, 0, _, e9, rfl, rfl, by omega, hcm9, by rw [kE, z10, z9]; omega, ?_⟩, M12.pick [2] (by kernel_rfl)⟩
      rw [holds_flat, eF]
      exact hfin
    refine G_cond_f (b := (decide (w64 ((x18172.length : Int) + (x18179.length : Int)) > (c18175 : Int)))) (by rw [eN]; exact decide_eq_false (by omega)) (by kernel_rfl) ?_
    refine G_skip ?_
    refine N_then ?_
    refine G_seq ?_
    refine G_region ?_
    refine W_run 4 [(0, .slice (some ⟨b, off, none⟩) x18172.length c18175), (1, .int .i64 (i : Int)), (2, .slice (some ⟨b2, off2, none⟩) x18179.length c18182), (7, .int .i64 (x18179.length : Int)), (8, .int .i64 (x18172.length : Int)), (56, .slice (some ⟨b, off, none⟩) x18172.length c18175), (59, .int .i64 (w64 ((x18172.length : Int) + (x18179.length : Int))))] w (by kernel_rfl) ?_
    refine W_conv 59 (.int .i64 (w64 ((x18172.length : Int) + (x18179.length : Int)))) (.int .i64 ((x18172.length + 1 : Nat) : Int)) (by kernel_rfl) (by rw [eN]) ?_
    refine W_sliceC (p := (some ⟨b, off, none⟩)) (c := c18175) _ _ _ _ (x18172.length) 0 ((x18172.length + 1 : Nat) : Int) 2 (by kernel_rfl) rfl (by kernel_rfl) (Or.inl ⟨rfl, rfl⟩) (Or.inr ⟨_, rfl, (by kernel_rfl)⟩) (by kernel_rfl) (by omega) (by omega) (by omega) (by omega) (v := .slice (some ⟨b, off, none⟩) (x18172.length + 1) c18175) (by rw [Int.toNat_natCast]; simp [subP, addr_add]) ?_
    refine W_run 1 [(0, .slice (some ⟨b, off, none⟩) (x18172.length + 1) c18175), (1, .int .i64 (i : Int)), (2, .slice (some ⟨b2, off2, none⟩) x18179.length c18182), (7, .int .i64 (x18179.length : Int)), (8, .int .i64 (x18172.length : Int))] w (by kernel_rfl) ?_
    refine W_nil ?_
    refine N_then ?_
    refine G_seq ?_
    refine G_seq ?_
    refine G_region ?_
    refine W_run 5 [(0, .slice (some ⟨b, off, none⟩) (x18172.length + 1) c18175), (1, .int .i64 (i : Int)), (2, .slice (some ⟨b2, off2, none⟩) x18179.length c18182), (7, .int .i64 (x18179.length : Int)), (8, .int .i64 (x18172.length : Int)), (61, .slice (some ⟨b2, off2, none⟩) x18179.length c18182), (62, .slice (some ⟨b, off, none⟩) (x18172.length + 1) c18175), (65, .int .i64 (w64 ((i : Int) + (x18179.length : Int))))] w (by kernel_rfl) ?_
    refine W_conv 65 (.int .i64 (w64 ((i : Int) + (x18179.length : Int)))) (.int .i64 ((i + 1 : Nat) : Int)) (by kernel_rfl) (by rw [eI]) ?_
    obtain ⟨oo, hoo⟩ : ∃ oo, subP (some ⟨b, off, none⟩) (i + 1) c18175 2 = some ⟨b, oo, none⟩ := ⟨off + (i + 1) * 2, by rw [subP, if_neg (by omega), Option.map_some, addr_add]⟩
    refine W_sliceC (p := (some ⟨b, off, none⟩)) (c := c18175) _ _ _ _ (x18172.length + 1) ((i + 1 : Nat) : Int) ((x18172.length + 1 : Nat) : Int) 2 (by kernel_rfl) rfl (by kernel_rfl) (Or.inr ⟨_, rfl, (by kernel_rfl)⟩) (Or.inl ⟨rfl, rfl⟩) (by kernel_rfl) (by omega) (by omega) (by omega) (by omega) (v := .slice (some ⟨b, oo, none⟩) (x18172.length + 1 - (i + 1)) (c18175 - (i + 1))) (by rw [Int.toNat_natCast, Int.toNat_natCast, hoo]) ?_
    refine W_overlaps 255 83 4 _ _ 2 16 [.int .i64 0, .int .i64 0] _ b2 off2 x18179.length c18182 b oo (x18172.length + 1 - (i + 1)) (c18175 - (i + 1)) cs2 cs e2 e0 (by kernel_rfl) rfl (by kernel_rfl) (by kernel_rfl) (by kernel_rfl) Tryz.func255 (by kernel_rfl) (by kernel_rfl) (by kernel_rfl) (by kernel_rfl) H2 H0 hne (by omega) ?_
    refine W_run 1 [(0, .slice (some ⟨b, off, none⟩) (x18172.length + 1) c18175), (1, .int .i64 (i : Int)), (2, .slice (some ⟨b2, off2, none⟩) x18179.length c18182), (7, .int .i64 (x18179.length : Int)), (8, .int .i64 (x18172.length : Int)), (68, .bool true)] w (by kernel_rfl) ?_
    refine W_nil ?_
    refine N_then ?_
    refine G_cond_t (b := true) rfl (by kernel_rfl) ?_
    refine G_seq ?_
    refine G_sub [(0, .slice (some ⟨b, off, none⟩) (x18172.length + 1) c18175), (1, .int .i64 (i : Int)), (2, .slice (some ⟨b2, off2, none⟩) x18179.length c18182), (7, .int .i64 (x18179.length : Int)), (8, .int .i64 (x18172.length : Int))] (by kernel_rfl) ?_
    refine G_dagL 8 [[], [], [], [1, 2], [0, 3], [], [], [5, 6]] [[], [], [], [], [], [], [], []] [[], [], [], [], [], [], [], []] [[], [], [], [], [], [], [], []] [[], [], [], [], [], [], [], []] [[], [], [], [], [], [], [], []] (fun _ => []) (fun q_ => ([fun f v s => v = (.slice (some ⟨b, off, none⟩) (x18172.length + 1) c18175 : Value) ∧ s = [], fun f v s => v = (.int .i64 (i : Int) : Value) ∧ s = [], fun f v s => v = (.int .i64 (x18179.length : Int) : Value) ∧ s = [], fun f v s => v = (.int .i64 ((i + 1 : Nat) : Int) : Value) ∧ s = [], fun f v s => v = (.slice (some ⟨b, off + (i + 1) * 2, none⟩) (x18172.length + 1 - (i + 1)) (c18175 - (i + 1)) : Value) ∧ s = [], fun f v s => v = (.slice (some ⟨b, off, none⟩) (x18172.length + 1) c18175 : Value) ∧ s = [], fun f v s => v = (.int .i64 (i : Int) : Value) ∧ s = [], fun f v s => v = (.slice (some ⟨b, off + i * 2, none⟩) (x18172.length + 1 - i) (c18175 - i) : Value) ∧ s = []] : List ((Nat → Value) → Value → Seg → Prop)).getD q_ (fun _ _ _ => False)) (fun j f v => ∃ s, (fun q_ => ([fun f v s => v = (.slice (some ⟨b, off, none⟩) (x18172.length + 1) c18175 : Value) ∧ s = [], fun f v s => v = (.int .i64 (i : Int) : Value) ∧ s = [], fun f v s => v = (.int .i64 (x18179.length : Int) : Value) ∧ s = [], fun f v s => v = (.int .i64 ((i + 1 : Nat) : Int) : Value) ∧ s = [], fun f v s => v = (.slice (some ⟨b, off + (i + 1) * 2, none⟩) (x18172.length + 1 - (i + 1)) (c18175 - (i + 1)) : Value) ∧ s = [], fun f v s => v = (.slice (some ⟨b, off, none⟩) (x18172.length + 1) c18175 : Value) ∧ s = [], fun f v s => v = (.int .i64 (i : Int) : Value) ∧ s = [], fun f v s => v = (.slice (some ⟨b, off + i * 2, none⟩) (x18172.length + 1 - i) (c18175 - i) : Value) ∧ s = []] : List ((Nat → Value) → Value → Seg → Prop)).getD q_ (fun _ _ _ => False)) j f v s) [] [4, 7] [] (fun _ _ _ s h => ⟨s, h⟩) (by kernel_rfl) (by kernel_rfl) (M0.preNil 8) (by kernel_rfl) (by kernel_rfl) (by kernel_rfl) (by kernel_rfl) (allOb_cons ?_ (allOb_cons ?_ (allOb_cons ?_ (allOb_cons ?_ (allOb_cons ?_ (allOb_cons ?_ (allOb_cons ?_ (allOb_cons ?_ allOb_nil)))))))) ?_
    · intro g f
      intro R wq Mq
      refine W_run 1 [(69, .slice (some ⟨b, off, none⟩) (x18172.length + 1) c18175)] wq (by kernel_rfl) ?_
      exact W_nil (ob_end (.slice (some ⟨b, off, none⟩) (x18172.length + 1) c18175) [] rfl (by kernel_rfl) ⟨(by kernel_rfl), rfl⟩ Mq)
    · intro g f
      intro R wq Mq
      refine W_run 1 [(70, .int .i64 (i : Int))] wq (by kernel_rfl) ?_
      exact W_nil (ob_end (.int .i64 (i : Int)) [] rfl (by kernel_rfl) ⟨(by kernel_rfl), rfl⟩ Mq)
    · intro g f
      intro R wq Mq
      refine W_run 1 [(71, .int .i64 (x18179.length : Int))] wq (by kernel_rfl) ?_
      exact W_nil (ob_end (.int .i64 (x18179.length : Int)) [] rfl (by kernel_rfl) ⟨(by kernel_rfl), rfl⟩ Mq)
    · intro g f
      intro v1 hb1
      obtain ⟨rfl, _⟩ := hb1
      intro v2 hb2
      obtain ⟨rfl, _⟩ := hb2
      intro R wq Mq
      refine W_run 1 [(72, .int .i64 (w64 ((i : Int) + (x18179.length : Int))))] wq (by kernel_rfl) ?_
      refine W_conv 72 (.int .i64 (w64 ((i : Int) + (x18179.length : Int)))) (.int .i64 ((i + 1 : Nat) : Int)) (by kernel_rfl) (by rw [eI]) ?_
      exact W_nil (ob_end (.int .i64 ((i + 1 : Nat) : Int)) [] rfl (by kernel_rfl) ⟨(by kernel_rfl), rfl⟩ Mq)
    · intro g f
      intro v0 hb0
      obtain ⟨rfl, _⟩ := hb0
      intro v3 hb3
      obtain ⟨rfl, _⟩ := hb3
      intro R wq Mq
      refine W_sliceC (p := some ⟨b, off, none⟩) (c := c18175) _ _ _ _ (x18172.length + 1) ((i + 1 : Nat) : Int) ((x18172.length + 1 : Nat) : Int) 2 (by kernel_rfl) rfl (by kernel_rfl) (Or.inr ⟨_, rfl, (by kernel_rfl)⟩) (Or.inl ⟨rfl, rfl⟩) (by kernel_rfl) (by omega) (by omega) (by omega) (by omega) (v := .slice (some ⟨b, off + (i + 1) * 2, none⟩) (x18172.length + 1 - (i + 1)) (c18175 - (i + 1))) (by rw [Int.toNat_natCast, Int.toNat_natCast, subP, if_neg (by omega), Option.map_some, addr_add]) ?_
      exact W_nil (ob_end (.slice (some ⟨b, off + (i + 1) * 2, none⟩) (x18172.length + 1 - (i + 1)) (c18175 - (i + 1))) [] rfl (by kernel_rfl) ⟨(by kernel_rfl), rfl⟩ Mq)
    · intro g f
      intro R wq Mq
      refine W_run 1 [(74, .slice (some ⟨b, off, none⟩) (x18172.length + 1) c18175)] wq (by kernel_rfl) ?_
      exact W_nil (ob_end (.slice (some ⟨b, off, none⟩) (x18172.length + 1) c18175) [] rfl (by kernel_rfl) ⟨(by kernel_rfl), rfl⟩ Mq)
    · intro g f
      intro R wq Mq
      refine W_run 1 [(75, .int .i64 (i : Int))] wq (by kernel_rfl) ?_
      exact W_nil (ob_end (.int .i64 (i : Int)) [] rfl (by kernel_rfl) ⟨(by kernel_rfl), rfl⟩ Mq)
    · intro g f
      intro v5 hb5
      obtain ⟨rfl, _⟩ := hb5
      intro v6 hb6
      obtain ⟨rfl, _⟩ := hb6
      intro R wq Mq
      refine W_sliceC (p := some ⟨b, off, none⟩) (c := c18175) _ _ _ _ (x18172.length + 1) (i : Int) ((x18172.length + 1 : Nat) : Int) 2 (by kernel_rfl) rfl (by kernel_rfl) (Or.inr ⟨_, rfl, (by kernel_rfl)⟩) (Or.inl ⟨rfl, rfl⟩) (by kernel_rfl) (by omega) (by omega) (by omega) (by omega) (v := .slice (some ⟨b, off + i * 2, none⟩) (x18172.length + 1 - i) (c18175 - i)) (by rw [Int.toNat_natCast, Int.toNat_natCast, subP, if_neg (by omega), Option.map_some, addr_add]) ?_
      exact W_nil (ob_end (.slice (some ⟨b, off + i * 2, none⟩) (x18172.length + 1 - i) (c18175 - i)) [] rfl (by kernel_rfl) ⟨(by kernel_rfl), rfl⟩ Mq)
    intro g f
    intro v4 hb4
    obtain ⟨rfl, _⟩ := hb4
    intro v7 hb7
    obtain ⟨rfl, _⟩ := hb7
    intro w13 M13
    refine W_copy _ _ _ 2 16 [.int .i64 0, .int .i64 0] 0 b (off + (i + 1) * 2) (x18172.length + 1 - (i + 1)) (c18175 - (i + 1)) cs e0 ⟨b, off + i * 2, none⟩ (x18172.length + 1 - i) (c18175 - i) (flat (encWaiter) (x18172.drop i)) M13 rfl (by kernel_rfl) rfl (by kernel_rfl) (by kernel_rfl) (by kernel_rfl) (by rw [fd, show Nat.min (x18172.length + 1 - i) (x18172.length + 1 - (i + 1)) = x18172.length - i from (Nat.min_eq_right (by omega)).trans (by omega)]) (fun j v hj => by rw [addr_add, cell_of_heap (M13.blk 0 (b := b) rfl)]; exact hfd j v hj) (by rw [fd]; omega) o2 ?_
    intro w14 M14
    refine W_nil ?_
    refine N_then ?_
    refine G_seq ?_
    refine G_region ?_
    refine W_run 2 [(0, .slice (some ⟨b, off, none⟩) (x18172.length + 1) c18175), (1, .int .i64 (i : Int)), (2, .slice (some ⟨b2, off2, none⟩) x18179.length c18182), (7, .int .i64 (x18179.length : Int)), (8, .int .i64 (x18172.length : Int)), (78, .slice (some ⟨b, off, none⟩) (x18172.length + 1) c18175), (79, .int .i64 (i : Int))] w14 (by kernel_rfl) ?_
    refine W_sliceC (p := (some ⟨b, off, none⟩)) (c := c18175) _ _ _ _ (x18172.length + 1) (i : Int) ((x18172.length + 1 : Nat) : Int) 2 (by kernel_rfl) rfl (by kernel_rfl) (Or.inr ⟨_, rfl, (by kernel_rfl)⟩) (Or.inl ⟨rfl, rfl⟩) (by kernel_rfl) (by omega) (by omega) (by omega) (by omega) (v := .slice (some ⟨b, off + i * 2, none⟩) (x18172.length + 1 - i) (c18175 - i)) (by rw [Int.toNat_natCast, Int.toNat_natCast, subP, if_neg (by omega), Option.map_some, addr_add]) ?_
    refine W_run 1 [(0, .slice (some ⟨b, off, none⟩) (x18172.length + 1) c18175), (1, .int .i64 (i : Int)), (2, .slice (some ⟨b2, off2, none⟩) x18179.length c18182), (7, .int .i64 (x18179.length : Int)), (8, .int .i64 (x18172.length : Int)), (80, .slice (some ⟨b, off + i * 2, none⟩) (x18172.length + 1 - i) (c18175 - i)), (81, .slice (some ⟨b2, off2, none⟩) x18179.length c18182)] w14 (by kernel_rfl) ?_
    have z0 := wr_size cs (off + (i + 1) * 2) (flat (encWaiter) (x18172.drop i)) (by rw [fd]; omega)
    refine W_copy _ _ _ 2 16 [.int .i64 0, .int .i64 0] 0 b (off + i * 2) (x18172.length + 1 - i) (c18175 - i) (wr cs (off + (i + 1) * 2) (flat (encWaiter) (x18172.drop i))) e0 ⟨b2, off2, none⟩ x18179.length c18182 (flat (encWaiter) x18179) M14 rfl (by kernel_rfl) rfl (by kernel_rfl) (by kernel_rfl) (by kernel_rfl) (by rw [fv, h2, show Nat.min 1 (x18172.length + 1 - i) = 1 from Nat.min_eq_left (by omega)]) (fun j v hj => by rw [addr_add, cell_of_heap (M14.blk 1 (b := b2) rfl)]; exact hf2 j v hj) (by rw [z0, fv]; omega) o1 ?_
    intro w15 M15
    refine W_nil ?_
    refine N_then ?_
    refine G_seq ?_
    refine G_region ?_
    refine W_run 2 [(6, .slice (some ⟨b, off, none⟩) (x18172.length + 1) c18175)] w15 (by kernel_rfl) ?_
    refine W_nil ?_
    refine N_then ?_
    refine G_ret ?_
    refine N_then_ret ?_
    refine N_ret [.slice (some ⟨b, off, none⟩) (x18172.length + 1) c18175] (RVs_cons (RV_tmp (by kernel_rfl)) RVs_nil) ?_
    have z1 := wr_size (wr cs (off + (i + 1) * 2) (flat (encWaiter) (x18172.drop i))) (off + i * 2) (flat (encWaiter) x18179) (by rw [z0, fv]; omega)
    have hfin := (ins_holds (cs := cs) (off := off) (A := flat (encWaiter) (x18172.take i)) (V := flat (encWaiter) x18179) (B := flat (encWaiter) (x18172.drop i)) hft (by rw [ft, fv, fd]; omega)).2
    rw [ft, fv, show off + i * 2 + 1 * 2 = off + (i + 1) * 2 by omega] at hfin
    refine ⟨some ⟨b, off, none⟩, c18175, _, by rw [← eL]; rfl, Or.inr ⟨b, off, _, e0, rfl, rfl, by omega, hcm0, by rw [kE, z1, z0]; exact hz0, ?_⟩, M15.pick [0] (by kernel_rfl)⟩
    rw [holds_flat, eF]
    exact hfin
  cases hm
theorem c_i_withWaiter (w : World) (c : List Waiter) (d g) (G : rdS encWaiter w c d g) (b : Waiter) {r : (List Waiter)} (hm : M.i_withWaiter c b = some r) :
  Calls Tryz.prog 229 #[SL d c g, .agg #[iv b.Irq, iv b.Priority]] w fun e w' => ∃ U S W, e = .returned (SL U r S) ∧ ownS encWaiter r U S W ∧ Mem [] w w' [W] := by
 unfold M.i_withWaiter at hm
 refine cE Tryz.func229 ?_
 have M0 := Mem.refl [] w
 refine QA (wN (CE 142 [iv b.Irq, iv b.Priority]) M0 fun l X aa => MW 1 (NA (MW 1 (NE (GD hm fun y a3 av => G_meet (fun a w' => Mem [] w w' [(BK l 142 [iv b.Irq, iv b.Priority])] ∧ Sat Tryz.f229.ntmps [(0, SL d c g), (3, pB l 0), (5, iv y)] a) ?_ ?_)))))
 ·refine GB (G_while (σ := Int) (ρ := Int) (fun k a w' => Mem [] w w' [(BK l 142 [iv b.Irq, iv b.Priority])] ∧ Sat Tryz.f229.ntmps [(0, SL d c g), (3, pB l 0), (5, iv k)] a) a3 (fun a ha => ⟨aa.pk [0], ha.s⟩) ?_)
  clear hm
  intro k br hm ay be bh ⟨ab, ao⟩
  refine G_use ao (GS (GS (GD hm fun a4 aw au => G_meet (fun a w' => Mem [] w w' [(BK l 142 [iv b.Irq, iv b.Priority])] ∧ Sat Tryz.f229.ntmps [(0, SL d c g), (3, pB l 0), (5, iv k), (18, .bool a4)] a) ?_ ?_)))
  ·have hm := aw
   refine G_quiet (by kernel_rfl) (by kernel_rfl) ab (MS 5 [(0, SL d c g), (3, pB l 0), (5, iv k), (10, .bool (decide (k < (c.length : Int))))] ?_)
   rcases gx_bif hm with ⟨H, hm⟩ | ⟨H, hm⟩
   ·refine zK 10 true H (MZ 2 (GD hm fun B T hm => zV (elemP d (k.toNat * 2)) (fun w_ M_ => (eI (G.mem0 M_) rfl T)) (zV (.agg #[iv B.Irq, iv B.Priority]) (fun w_ M_ => (eE true 2 0 (k.toNat * 2) (G.mem0 M_) T)) (zV (.agg #[iv b.Irq, iv b.Priority]) (fun w_ M_ => (eL true 2 0 (M_.blk 0 rfl))) (GD hm fun C az hm => ZC (iv C) (fun w_ M_ => c_i_compareUrgency w_ B b az) (MZ 2 (Z_end fun bi ac => ?_)))))))
    obtain rfl := HS hm
    exact NM fun a ha => ⟨ac.pk [0], ha.s⟩
   refine zK 10 false H (MZ 8 (Z_end fun bj ad => ?_))
   obtain rfl := HS hm
   exact NM fun a ha => ⟨ad.pk [0], ha.s⟩
  intro bf a9 ⟨O, ap⟩
  refine N_use ap ?_
  have hm := au
  refine TN (GT hm (fun I hm => ?_) fun I hm => ?_)
  ·refine GK (TN (GB (GR (MW 3 (WN (BN ?_))))))
   cases hm
   exact N_loop fun a ha => ⟨_, rfl, O.pk [0], ha.s⟩
  refine XA ?_
  obtain rfl := HS hm
  obtain rfl := ay _ rfl
  exact NM fun a ha => ⟨O.pk [0], ha.s⟩
 intro bg bk ⟨ae, aq⟩
 refine N_use aq ?_
 have hm := av
 refine TN (GS (GD hm fun z ar hm => GU [(0, SL d c g), (3, pB l 0), (5, iv y)] (DL 6 [[],[],[0,1],[],[],[4]] [[],[],[0],[],[],[]] (EM 6) (EM 6) (EM 6) (EM 6) (fun _ => []) [fun f v s => ∃ x u, v = (.slice x ([] : List Waiter).length u : Value) ∧ ownS encWaiter ([] : List Waiter) x u s, QV (.slice d c.length g), fun f v s => ∃ o m, v = (.slice o z.length m : Value) ∧ ownS encWaiter z o m s, QV (iv y), QV (.agg #[iv b.Irq, iv b.Priority]), fun f v s => ∃ q n, v = (.slice q [b].length n : Value) ∧ ownS encWaiter [b] q n s] [] [2, 3, 5] [2, 5] (ae.preNil 6) (AC ?_ (AC ?_ (AC ?_ (AC ?_ (AC ?_ (AC ?_ AN)))))) ?_)))
 ·intro t A R bl af
  exact wL (E := encWaiter) ([] : List Waiter) 0 [] 142 af fun x u a5 bm J ag => WN (oE (SL x ([] : List Waiter) u) a5 ⟨x, u, rfl, J⟩ (Mem.mid ag))
 ·intro t A R ba ah
  exact OM ⟨rfl, rfl⟩ ah
 ·intro t A v0_ hb0_
  obtain ⟨x, u, rfl, J⟩ := hb0_
  rintro v1_ ⟨rfl, _⟩ R bn P
  exact wA 16 [iv 0, iv 0] 2 P J (G.mem0 P) ar fun o m a6 bo K ai => WN (oE (SL o z m) a6 ⟨o, m, rfl, K⟩ (Mem.takeOver ai))
 ·intro t A R bb aj
  exact OM ⟨rfl, rfl⟩ aj
 ·intro t A R bc Q
  exact OV ⟨rfl, rfl⟩ (eL true 2 0 (Q.blk 0 rfl)) Q
 ·rintro t A v4_ ⟨rfl, _⟩ R bp ak
  exact wL (E := encWaiter) [b] 1 [iv b.Irq, iv b.Priority] 142 ak fun q n a7 bq L al => WN (oE (SL q [b] n) a7 ⟨q, n, rfl, L⟩ (Mem.mid al))
 intro t A v2_ hb2_
 obtain ⟨o, m, rfl, K⟩ := hb2_
 rintro v3_ ⟨rfl, _⟩ v5_ hb5_
 obtain ⟨q, n, rfl, L⟩ := hb5_
 intro Y am
 have D : Mem [] w Y [(BK l 142 [iv b.Irq, iv b.Priority]), (t 2), (t 5)] := am
 refine GD hm fun V a0 hm => WC ((c_slices_Insert_252 Y z o m (t 2) K y [b] q n (t 5) L (D.hasPick [1, 2]) (D.nodupPick [1, 2] (by kernel_rfl)) a0).mono ?_)
 rintro e_ bd ⟨N, F, a8, rfl, ax, Z⟩
 have an := D.callF' [1, 2] [0] (by kernel_rfl) Z
 refine ⟨_, rfl, ?_⟩
 refine wR 1 [(4, SL N V F)] bd (NC ?_)
 obtain rfl := HS hm
 exact RA [SL N V F] (⟨N, F, a8, rfl, ax, an.pk [1]⟩)
theorem c_i_settled (w : World) (C : Queue) (W U) (cf : rdS encSlot w C.Slots W U) (X V) (cg : rdS encWaiter w C.Waiting X V) {r : Queue} (hm : M.i_settled C = some r) :
  Calls Tryz.prog 182 #[.agg #[SL W C.Slots U, SL X C.Waiting V]] w fun e w' => ∃ bg bb bj bh bc bk, e = .returned (.agg #[SL bg r.Slots bb, SL bh r.Waiting bc]) ∧ ownS encSlot r.Slots bg bb bj ∧ ownS encWaiter r.Waiting bh bc bk ∧ Mem [] w w' [bj, bk] := by
 unfold M.i_settled at hm
 refine cE Tryz.func182 ?_
 have M0 := Mem.refl [] w
 refine QA (wN (CE 85 [SL W C.Slots U, SL X C.Waiting V]) M0 fun dw dx bv => wN (CE 85 [SN, SN]) bv fun x bm ad => NA (wV (.agg #[SL W C.Slots U, SL X C.Waiting V]) bm (eL true 2 0 (ad.blk 0 rfl)) (GD hm fun ai cw hm => WC ((c_i_newQueue bm C W U (cf.mem0 ad) X V (cg.mem0 ad) cw).mono ?_))))
 rintro e_ dy ⟨c, m, c3, ar, an, c4, rfl, cm, cn, bp⟩
 have bw := ad.call bp
 refine ⟨_, rfl, ?_⟩
 refine wN (CE 85 [SN, SN]) bw fun l dz bx => wS true 2 0 (.agg #[SL c ai.Slots m, SL ar ai.Waiting an]) 4 [SL c ai.Slots m, SL ar ai.Waiting an] bx rfl fun d0 bz => NE (GD hm fun y c2 cl => G_meet (fun a w' => ∃ F D aj ak, ownS encWaiter y.1 F D aj ∧ ownS encSlot y.2 c m ak ∧ Mem [] w w' [(BK x 85 [SN, SN]), (BK l 85 [SL c y.2 m, SL F y.1 D]), aj, ak] ∧ Sat Tryz.f182.ntmps [(2, pB x 0), (3, pB l 0)] a) ?_ ?_)
 ·refine GB (G_while (σ := List Waiter × List Slot) (ρ := List Waiter × List Slot) (fun d a w' => ∃ t n S T, ownS encWaiter d.1 t n S ∧ ownS encSlot d.2 c m T ∧ Mem [] w w' [(BK x 85 [SN, SN]), (BK l 85 [SL c d.2 m, SL t d.1 n]), S, T] ∧ Sat Tryz.f182.ntmps [(2, pB x 0), (3, pB l 0)] a) c2 (fun a ha => ⟨ar, an, c4, c3, cn, cm, bz.pk [1, 4, 3, 2], ha.s⟩) ?_)
  clear hm
  intro d d7 hm cv dt bn ⟨t, n, S, T, Q, O, ae, ch⟩
  refine G_use ch (QB (wV (.agg #[SL c d.2 m, SL t d.1 n]) bn (eL true 2 0 (ae.blk 1 rfl)) (GD hm fun bi cx hm => WD (c_i_isSettled bn (⟨d.2, d.1⟩ : Queue) c m (O.r ae 3) t n (Q.r ae 2) cx) ae fun c6 av => MW 1 (NO (GT hm (fun ao hm => ?_) fun ao hm => ?_)))))
  ·refine GK (TN (GB (GS (GD hm fun q bd hm => GD hm fun I cy hm => GU [(2, pB x 0), (3, pB l 0), (10, .bool (!bi))] (DL 8 [[],[0],[1],[2],[],[4],[5],[]] (EM 8) (EM 8) (EM 8) (EM 8) (EM 8) (fun _ => []) [QV (pB l 1), QV (.slice t d.1.length n), QV (elemP t ((0 : Int).toNat * 2)), QV (.agg #[iv q.Irq, iv q.Priority]), QV (pB l 0), QV (.slice c d.2.length m), QV (iv I), fun f v s => ∃ u, v = (pB u 0 : Value) ∧ s = (BK u 142 [iv 0, iv 0])] [] [3, 6, 7] [7] (av.preNil 8) (AC ?_ (AC ?_ (AC ?_ (AC ?_ (AC ?_ (AC ?_ (AC ?_ (AC ?_ AN)))))))) ?_)))))
   ·intro H K R c7 b0
    exact OM ⟨rfl, rfl⟩ b0
   ·rintro H K v0_ ⟨rfl, _⟩ R c8 aw
    exact OV ⟨rfl, rfl⟩ (eL false 1 1 (aw.blk 1 rfl)) aw
   ·rintro H K v1_ ⟨rfl, _⟩ R c9 ax
    exact OV ⟨rfl, rfl⟩ (eI (Q.r ax 2) rfl bd) ax
   ·rintro H K v2_ ⟨rfl, _⟩ R da ay
    exact OV ⟨rfl, rfl⟩ (eE true 2 0 ((0 : Int).toNat * 2) (Q.r ay 2) bd) ay
   ·intro H K R db b1
    exact OM ⟨rfl, rfl⟩ b1
   ·rintro H K v4_ ⟨rfl, _⟩ R dc az
    exact OV ⟨rfl, rfl⟩ (eL false 1 0 (az.blk 1 rfl)) az
   ·rintro H K v5_ ⟨rfl, _⟩ R dd a0
    refine WC ((c_i_firstEmpty dd d.2 c m (O.r a0 3) cy).mono ?_)
    rintro e_ d1 ⟨rfl, br⟩
    refine ⟨_, rfl, ?_⟩
    exact WN (oE (iv I) [] ⟨rfl, rfl⟩ (a0.call0 br))
   ·intro H K R d2 b2
    exact wN (CE 142 [iv 0, iv 0]) b2 fun u d3 b3 => WN (oE (pB u 0) (BK u 142 [iv 0, iv 0]) ⟨u, rfl, rfl⟩ (Mem.mid b3))
   rintro H K v3_ ⟨rfl, _⟩
   rintro v6_ ⟨rfl, _⟩ v7_ hb7_
   obtain ⟨u, rfl, hs7_⟩ := hb7_
   intro de b4
   have a3 : Mem [] w de [(BK x 85 [SN, SN]), (BK l 85 [SL c d.2 m, SL t d.1 n]), S, T, (H 7)] := b4
   rw [hs7_] at a3
   refine wS true 2 0 (.agg #[iv q.Irq, iv q.Priority]) 4 [iv q.Irq, iv q.Priority] a3 rfl fun ac am => MW 1 (NA (MW 1 (wV (SL t d.1 n) ac (eL false 1 1 (am.blk 1 rfl)) (GD hm fun G aq hm => wV (SL (subP t (1 : Int).toNat n 2) G (n - (1 : Int).toNat)) ac (E_slice (E := encWaiter) _ _ _ _ d.1.length 1 (d.1.length : Int) rfl (by kernel_rfl) (Or.inr ⟨_, rfl, by kernel_rfl⟩) (Or.inl ⟨rfl, rfl⟩) (by kernel_rfl) (Q.r am 2) rfl aq) (MW 1 (wS false 1 1 (SL (subP t (1 : Int).toNat n 2) G (n - (1 : Int).toNat)) 1 [SL c d.2 m, SL (subP t (1 : Int).toNat n 2) G (n - (1 : Int).toNat)] am rfl fun al af => NB (MW 2 (NO (GD hm fun A cq ck => G_meet (fun a w' => ∃ aa Z ab, ownS encWaiter A.2 aa Z ab ∧ Mem [] w w' [(BK x 85 [SN, SN]), (BK l 85 [SL c d.2 m, SL aa A.2 Z]), T, (BK u 142 [iv q.Irq, iv q.Priority]), ab] ∧ Sat Tryz.f182.ntmps [(2, pB x 0), (3, pB l 0), (4, pB u 0), (5, iv A.1)] a) ?_ ?_)))))))))
   ·have hm := cq
    refine GT hm (fun ap hm => ?_) fun ap hm => ?_
    ·refine QA (MW 1 (wV (SL c d.2 m) al (eL false 1 0 (af.blk 1 rfl)) (GD hm fun B cz hm => WD (c_i_pendingSlot al d.2 c m (O.r af 3) false cz) af fun df b5 => MW 1 (NO (GD hm fun z be hm => GD hm fun J c0 hm => GU [(2, pB x 0), (3, pB l 0), (4, pB u 0), (5, iv B)] (DL 8 [[],[0],[],[2],[],[3,4],[5],[6]] (EM 8) (EM 8) (EM 8) (EM 8) (EM 8) (fun _ => []) [QV (pB l 1), QV (.slice (subP t (1 : Int).toNat n 2) G.length (n - (1 : Int).toNat)), QV (pB l 0), QV (.slice c d.2.length m), QV (iv B), QV (elemP c (B.toNat * 3)), QV (.agg #[iv z.State, iv z.Irq, iv z.Priority]), QV (.agg #[iv J.Irq, iv J.Priority])] [] [1, 7] [] (b5.preNil 8) (AC ?_ (AC ?_ (AC ?_ (AC ?_ (AC ?_ (AC ?_ (AC ?_ (AC ?_ AN)))))))) ?_))))))
     ·intro N L R dg b6
      exact OM ⟨rfl, rfl⟩ b6
     ·rintro N L v0_ ⟨rfl, _⟩ R dh a4
      exact OV ⟨rfl, rfl⟩ (eL false 1 1 (a4.blk 1 rfl)) a4
     ·intro N L R di b7
      exact OM ⟨rfl, rfl⟩ b7
     ·rintro N L v2_ ⟨rfl, _⟩ R dj a5
      exact OV ⟨rfl, rfl⟩ (eL false 1 0 (a5.blk 1 rfl)) a5
     ·intro N L R dk b8
      exact OM ⟨rfl, rfl⟩ b8
     ·rintro N L v3_ ⟨rfl, _⟩
      rintro v4_ ⟨rfl, _⟩ R dl a6
      exact OV ⟨rfl, rfl⟩ (eI (O.r a6 3) rfl be) a6
     ·rintro N L v5_ ⟨rfl, _⟩ R dm a7
      exact OV ⟨rfl, rfl⟩ (eE true 3 0 (B.toNat * 3) (O.r a7 3) be) a7
     ·rintro N L v6_ ⟨rfl, _⟩ R dn b9
      refine WC ((c_i_waiterOf dn z c0).mono ?_)
      rintro e_ d4 ⟨rfl, bt⟩
      refine ⟨_, rfl, ?_⟩
      exact WN (oE (.agg #[iv J.Irq, iv J.Priority]) [] ⟨rfl, rfl⟩ (b9.call0 bt))
     rintro N L v1_ ⟨rfl, _⟩
     rintro v7_ ⟨rfl, _⟩ bo ca
     have a8 : Mem [] w bo [(BK x 85 [SN, SN]), (BK l 85 [SL c d.2 m, SL (subP t (1 : Int).toNat n 2) G (n - (1 : Int).toNat)]), S, T, (BK u 142 [iv q.Irq, iv q.Priority])] := ca
     refine GD hm fun au c1 hm => WC ((c_i_withWaiter bo G (subP t (1 : Int).toNat n 2) (n - (1 : Int).toNat) ((Q.r a8 2).sliceM aq) J c1).mono ?_)
     rintro e_ dp ⟨ah, ag, c5, rfl, ct, bu⟩
     have cb := a8.call bu
     refine ⟨_, rfl, ?_⟩
     refine MW 1 (wS false 1 1 (SL ah au ag) 1 [SL c d.2 m, SL ah au ag] cb rfl fun d5 cc => WN ?_)
     obtain rfl := HS hm
     exact NM fun a ha => ⟨ah, ag, c5, ct, cc.pk [0, 1, 3, 4, 5], ha.s⟩
    refine GK ?_
    obtain rfl := HS hm
    exact NM fun a ha => ⟨(subP t (1 : Int).toNat n 2), (n - (1 : Int).toNat), S, (Q.partM aq), af.pk [0, 1, 3, 4, 2], ha.s⟩
   intro du P ⟨aa, Z, ab, cr, Y, ci⟩
   refine N_use ci ?_
   have hm := ck
   refine TN (GR (MW 1 (wV (SL c d.2 m) P (eL false 1 0 (Y.blk 1 rfl)) (MW 2 (wV (iv q.Irq) P (eL false 1 0 (Y.blk 3 rfl)) (MW 1 (wV (iv q.Priority) P (eL false 1 1 (Y.blk 3 rfl)) (MW 1 (GD hm fun ds bf hm => wV (elemP c (A.1.toNat * 3)) P (eI (O.r Y 2) rfl bf) (wE true 3 A.1.toNat 0 (A.1.toNat * 3) ds (⟨1, q.Irq, q.Priority⟩ : Slot) (.agg #[iv 1, iv q.Irq, iv q.Priority]) 2 Y O (gxIdx_spec bf).2 fun dq bl cu cd => LX 38 c m d.2 A.1.toNat (⟨1, q.Irq, q.Priority⟩ : Slot) ?_))))))))))
   have ce : Mem [] w dq [(BK x 85 [.slice none 0 0, .slice none 0 0]), (BK l 85 [.slice c (d.2.set A.1.toNat (⟨1, q.Irq, q.Priority⟩ : Slot)).length m, .slice aa A.2.length Z]), bl, (BK u 142 [iv q.Irq, iv q.Priority]), ab] := by rw [@List.length_set _ d.2 A.1.toNat (⟨1, q.Irq, q.Priority⟩ : Slot)]; exact cd
   refine WN (BN ?_)
   cases hm
   exact N_loop fun a ha => ⟨_, rfl, aa, Z, ab, bl, cr, cu, ce.pk [0, 1, 4, 2], ha.s⟩
  refine XA ?_
  obtain rfl := HS hm
  obtain rfl := cv _ rfl
  exact NM fun a ha => ⟨t, n, S, T, Q, O, av.pk [0, 1, 2, 3], ha.s⟩
 intro dv dr ⟨F, D, aj, ak, co, cp, a9, cj⟩
 refine N_use cj ?_
 have hm := cl
 refine NF (wV (.agg #[SL c y.2 m, SL F y.1 D]) dr (eL true 2 0 (a9.blk 1 rfl)) (wS true 2 0 (.agg #[SL c y.2 m, SL F y.1 D]) 0 [SL c y.2 m, SL F y.1 D] a9 rfl fun d6 ba => NC ?_))
 obtain rfl := HS hm
 exact N_ret [.agg #[SL c y.2 m, SL F y.1 D]] (RX true 2 0 (ba.blk 0 rfl) RVs_nil) (⟨c, m, ak, F, D, aj, rfl, cp, co, ba.pk [3, 2]⟩)
theorem c_i_offerIrq (w : World) (c : Queue) (m j) (aa : rdS encSlot w c.Slots m j) (n l) (ab : rdS encWaiter w c.Waiting n l) (d : Int) (i : Int) {r : Queue} (hm : M.i_offerIrq c d i = some r) :
  Calls Tryz.prog 179 #[.agg #[SL m c.Slots j, SL n c.Waiting l], iv d, iv i] w fun e w' => ∃ an aj ap ao ak aq, e = .returned (.agg #[SL an r.Slots aj, SL ao r.Waiting ak]) ∧ ownS encSlot r.Slots an aj ap ∧ ownS encWaiter r.Waiting ao ak aq ∧ Mem [] w w' [ap, aq] := by
 unfold M.i_offerIrq at hm
 refine cE Tryz.func179 ?_
 have M0 := Mem.refl [] w
 refine QA (wN (CE 85 [SL m c.Slots j, SL n c.Waiting l]) M0 fun t b9 a5 => wN (CE 85 [SN, SN]) a5 fun f av O => NA (wV (.agg #[SL m c.Slots j, SL n c.Waiting l]) av (eL true 2 0 (O.blk 0 rfl)) (GD hm fun C bs hm => WC ((c_i_newQueue av c m j (aa.mem0 O) n l (ab.mem0 O) bs).mono ?_))))
 rintro e_ ca ⟨K, I, ar, L, J, au, rfl, bi, al, ax⟩
 have a6 := O.call ax
 refine ⟨_, rfl, ?_⟩
 refine wN (CE 85 [SN, SN]) a6 fun h cb a7 => wS true 2 0 (.agg #[SL K C.Slots I, SL L C.Waiting J]) 4 [SL K C.Slots I, SL L C.Waiting J] a7 rfl fun Y Z => NE (GB (QA (MW 1 (wV (SL m c.Slots j) Y (eL false 1 0 (Z.blk 0 rfl)) (MW 1 (GD hm fun bz bt hm => WD (c_i_findSlot Y c.Slots m j (aa.mem0 Z) d bt) Z fun x D => MW 2 (NO (GD hm fun u bj bg => G_meet (fun a w' => ∃ G E ag H F ah, ownS encSlot u.1 G E ag ∧ ownS encWaiter u.2 H F ah ∧ Mem [] w w' [(BK f 85 [SN, SN]), (BK h 85 [SL G u.1 E, SL H u.2 F]), ag, ah] ∧ Sat Tryz.f179.ntmps [(6, pB f 0), (7, pB h 0)] a) ?_ ?_))))))))
 ·have hm := bj
  refine GT hm (fun ac hm => ?_) fun ac hm => ?_
  ·refine GR (MW 1 (wV (SL m c.Slots j) x (eL false 1 0 (D.blk 0 rfl)) (MW 2 (GD hm fun ae bu hm => WC ((c_i_putIrq x c.Slots m j (aa.mem0 D) d i bu).mono ?_)))))
   rintro e_ b5 ⟨U, R, b1, rfl, bm, az⟩
   have a8 := D.call az
   refine ⟨_, rfl, ?_⟩
   refine MW 4 (wS false 1 0 (SL U ae.1 R) 4 [SL U ae.1 R, SL L C.Waiting J] a8 rfl fun cc a9 => WN ?_)
   obtain rfl := HS hm
   exact NM fun a ha => ⟨U, R, b1, L, J, au, bm, al, a9.pk [1, 4, 5, 3], ha.s⟩
  refine QA (MW 1 (wV (SL n c.Waiting l) x (eL false 1 1 (D.blk 0 rfl)) (MW 1 (GD hm fun b0 bv hm => WD (c_i_waiterIndex x c.Waiting n l (ab.mem0 D) d bv) D fun N P => MW 2 (NO (GD hm fun am bn bh => G_meet (fun a w' => ∃ V S X, ownS encWaiter am V S X ∧ Mem [] w w' [(BK f 85 [SN, SN]), ar, (BK h 85 [SL K C.Slots I, SL V am S]), X] ∧ Sat Tryz.f179.ntmps [(6, pB f 0), (7, pB h 0)] a) ?_ ?_))))))
  ·have hm := bn
   refine GT hm (fun ad hm => ?_) fun ad hm => ?_
   ·refine GR (MW 1 (wV (SL n c.Waiting l) N (eL false 1 1 (P.blk 0 rfl)) (wR 3 [(6, pB f 0), (7, pB h 0), (32, SL n c.Waiting l), (35, .agg #[iv d, iv i])] N (GD hm fun af bw hm => WC ((c_i_withWaiter N c.Waiting n l (ab.mem0 P) (⟨d, i⟩ : Waiter) bw).mono ?_)))))
    rintro e_ b6 ⟨W, T, b2, rfl, bp, a3⟩
    have ba := P.call a3
    refine ⟨_, rfl, ?_⟩
    refine MW 1 (wS false 1 1 (SL W af T) 4 [SL K C.Slots I, SL W af T] ba rfl fun cd bb => WN ?_)
    obtain rfl := HS hm
    exact NM fun a ha => ⟨W, T, b2, bp, bb.pk [1, 2, 4, 5], ha.s⟩
   refine GK ?_
   obtain rfl := HS hm
   exact NM fun a ha => ⟨L, J, au, al, P.pk [1, 2, 4, 3], ha.s⟩
  intro b7 ce ⟨V, S, X, bo, bc, be⟩
  refine N_use be ?_
  have hm := bh
  obtain rfl := HS hm
  exact NM fun a ha => ⟨K, I, ar, V, S, X, bi, bo, bc.pk [0, 2, 1, 3], ha.s⟩
 intro b8 aw ⟨G, E, ag, H, F, ah, bk, bl, Q, bf⟩
 refine N_use bf ?_
 have hm := bg
 refine BN (NF (wV (.agg #[SL G u.1 E, SL H u.2 F]) aw (eL true 2 0 (Q.blk 1 rfl)) (GD hm fun q bx hm => WC ((c_i_settled aw (⟨u.1, u.2⟩ : Queue) G E (bk.r Q 2) H F (bl.r Q 3) bx).mono ?_))))
 rintro e_ cf ⟨A, y, b3, B, z, b4, rfl, bq, br, a4⟩
 have bd := Q.call a4
 refine ⟨_, rfl, ?_⟩
 refine wS true 2 0 (.agg #[SL A q.Slots y, SL B q.Waiting z]) 0 [SL A q.Slots y, SL B q.Waiting z] bd rfl fun cg ai => NC ?_
 obtain rfl := HS hm
 exact N_ret [.agg #[SL A q.Slots y, SL B q.Waiting z]] (RX true 2 0 (ai.blk 0 rfl) RVs_nil) (⟨A, y, b3, B, z, b4, rfl, bq, br, ai.pk [4, 5]⟩)
theorem c_i_raiseIrq (w : World) (a : Interface) (y x) (ag : rdS Gx.encI w a.Stack y x) (t n) (O : rdS encSlot w a.Queue.Slots t n) (u q) (P : rdS encWaiter w a.Queue.Waiting u q) (z : Int) (A : Int) {r : Interface} (hm : M.i_raiseIrq a z A = some r) :
  Calls Tryz.prog 137 #[.agg #[iv a.Mask, SL y a.Stack x, SL t a.Queue.Slots n, SL u a.Queue.Waiting q], iv z, iv A] w fun e w' => ∃ Q I V R J W S K X, e = .returned (.agg #[iv r.Mask, SL Q r.Stack I, SL R r.Queue.Slots J, SL S r.Queue.Waiting K]) ∧ ownS Gx.encI r.Stack Q I V ∧ ownS encSlot r.Queue.Slots R J W ∧ ownS encWaiter r.Queue.Waiting S K X ∧ Mem [] w w' [V, W, X] := by
 unfold M.i_raiseIrq at hm
 refine cE Tryz.func137 ?_
 have M0 := Mem.refl [] w
 refine QA (wN (CE 87 [iv a.Mask, SL y a.Stack x, SL t a.Queue.Slots n, SL u a.Queue.Waiting q]) M0 fun af ax ab => wN (CE 87 [iv 0, SN, SN, SN]) ab fun C Y B => NA (wV (.agg #[iv a.Mask, SL y a.Stack x, SL t a.Queue.Slots n, SL u a.Queue.Waiting q]) Y (eL true 4 0 (B.blk 0 rfl)) (GD hm fun c ak hm => WC ((c_i_newInterface Y a y x (ag.mem0 B) t n (O.mem0 B) u q (P.mem0 B) ak).mono ?_))))
 rintro e_ ay ⟨j, f, am, T, L, av, U, N, aw, rfl, ah, ar, au, Z⟩
 have ac := B.call Z
 refine ⟨_, rfl, ?_⟩
 refine wN (CE 87 [iv 0, SN, SN, SN]) ac fun E az ad => wS true 4 0 (.agg #[iv c.Mask, SL j c.Stack f, SL T c.Queue.Slots L, SL U c.Queue.Waiting N]) 5 [iv c.Mask, SL j c.Stack f, SL T c.Queue.Slots L, SL U c.Queue.Waiting N] ad rfl fun F D => NA (MW 1 (wV (.agg #[SL t a.Queue.Slots n, SL u a.Queue.Waiting q]) F (eL true 2 2 (D.blk 0 rfl)) (MW 2 (GD hm fun d al hm => WC ((c_i_offerIrq F a.Queue t n (O.mem0 D) u q (P.mem0 D) z A al).mono ?_)))))
 rintro e_ ap ⟨l, h, an, m, i, ao, rfl, ai, aj, aa⟩
 have ae := D.call aa
 refine ⟨_, rfl, ?_⟩
 refine MW 1 (wS true 2 2 (.agg #[SL l d.Slots h, SL m d.Waiting i]) 5 [iv c.Mask, SL j c.Stack f, SL l d.Slots h, SL m d.Waiting i] ae rfl fun aq G => NA (wV (.agg #[iv c.Mask, SL j c.Stack f, SL l d.Slots h, SL m d.Waiting i]) aq (eL true 4 0 (G.blk 5 rfl)) (wS true 4 0 (.agg #[iv c.Mask, SL j c.Stack f, SL l d.Slots h, SL m d.Waiting i]) 1 [iv c.Mask, SL j c.Stack f, SL l d.Slots h, SL m d.Waiting i] G rfl fun a0 H => NC ?_)))
 obtain rfl := HS hm
 exact N_ret [.agg #[iv c.Mask, SL j c.Stack f, SL l d.Slots h, SL m d.Waiting i]] (RX true 4 0 (H.blk 1 rfl) RVs_nil) (⟨j, f, am, l, h, an, m, i, ao, rfl, ah, ai, aj, H.pk [2, 6, 7]⟩)
theorem c_i_Machine_sync (w : World) (b : Machine) (m n C) (a5 : ownS encRoute b.Routes m n C) (A B D) (a6 : ownS Gx.encB b.Enabled A B D) (t u G) (cq : ownS Gx.encB b.Raised t u G) (g z H) (I) (cr : ownD deepInterface b.Cpus g z H I) (k : Nat) (hA : ∀ q ∈ List.flatten [(BK k 32 [SL m b.Routes n, SL A b.Enabled B, SL t b.Raised u, SL g b.Cpus z]), C, D, G, H, I], w.heap[q.1]? = some q.2) (hN : (idsOf [(BK k 32 [SL m b.Routes n, SL A b.Enabled B, SL t b.Raised u, SL g b.Cpus z]), C, D, G, H, I]).Nodup) {r : (List Route) × (List Bool) × (List Bool) × (List Interface)} (hm : M.i_Machine_sync b = some r) :
  Calls Tryz.prog 79 #[pB k 0] w fun e w' => ∃ bo bg bs bp bh bt bq bi bu br bj bv bw, e = .returned (.tuple #[]) ∧ ownS encRoute r.1 bo bg bs ∧ ownS Gx.encB r.2.1 bp bh bt ∧ ownS Gx.encB r.2.2.1 bq bi bu ∧ ownD deepInterface r.2.2.2 br bj bv bw ∧ Mem (idsOf [(BK k 32 [SL m b.Routes n, SL A b.Enabled B, SL t b.Raised u, SL g b.Cpus z]), C, D, G, H, I]) w w' [(BK k 32 [SL bo r.1 bg, SL bp r.2.1 bh, SL bq r.2.2.1 bi, SL br r.2.2.2 bj]), bs, bt, bu, bv, bw] := by
 unfold M.i_Machine_sync at hm
 refine cE Tryz.func79 ?_
 have M0 := Mem.start' w [(BK k 32 [SL m b.Routes n, SL A b.Enabled B, SL t b.Raised u, SL g b.Cpus z]), C, D, G, H, I] hA hN
 refine QA (MW 3 (wV (SL m b.Routes n) w (eL false 1 0 (M0.blk 0 rfl)) (MW 2 (NO (GD hm fun ao c6 cp => G_meet (fun a w' => ∃ ap aq ar, ownS Gx.encB ao.1 t u ap ∧ ownD deepInterface ao.2 g z aq ar ∧ Mem (idsOf [(BK k 32 [SL m b.Routes n, SL A b.Enabled B, SL t b.Raised u, SL g b.Cpus z]), C, D, G, H, I]) w w' [(BK k 32 [SL m b.Routes n, SL A b.Enabled B, SL t ao.1 u, SL g ao.2 z]), C, D, ap, aq, ar] ∧ Sat Tryz.f79.ntmps [] a) ?_ ?_)))))
 ·refine GB (G_while (σ := Int × List Bool × List Interface) (ρ := List Bool × List Interface) (fun c a w' => ∃ af X Y, ownS Gx.encB c.2.1 t u af ∧ ownD deepInterface c.2.2 g z X Y ∧ Mem (idsOf [(BK k 32 [SL m b.Routes n, SL A b.Enabled B, SL t b.Raised u, SL g b.Cpus z]), C, D, G, H, I]) w w' [(BK k 32 [SL m b.Routes n, SL A b.Enabled B, SL t c.2.1 u, SL g c.2.2 z]), C, D, af, X, Y] ∧ Sat Tryz.f79.ntmps [(0, pB k 0), (8, SL m b.Routes n), (9, iv (b.Routes.length : Int)), (10, iv c.1)] a) c6 (fun a ha => ⟨G, H, I, cq, cr, M0.pk [0, 1, 2, 3, 4, 5], ha.s⟩) ?_)
  clear hm
  intro c dy hm c1 dp ax ⟨af, X, Y, ac, a7, aj, cj⟩
  refine G_use cj (QA (MW 1 (NE (GT hm (fun az hm => ?_) fun az hm => ?_))))
  ·refine KD (MW 1 (GD hm fun d bk hm => wV (elemP m (c.1.toNat * 2)) ax (eI (a5.r aj 1) rfl bk) (wV (.agg #[iv d.Priority, iv d.Target]) ax (eE true 2 0 (c.1.toNat * 2) (a5.r aj 1) bk) (wN (CE 129 [iv 0, iv 0]) aj fun y db b2 => MW 1 (wS true 2 0 (.agg #[iv d.Priority, iv d.Target]) 6 [iv d.Priority, iv d.Target] b2 rfl fun dv b3 => NE (G_quiet (by kernel_rfl) (by kernel_rfl) b3 (MZ 3 (zV (SL g c.2.2 z) (fun w_ M_ => (eL false 1 3 (M_.blk 0 rfl))) (MZ 1 (zV (iv d.Target) (fun w_ M_ => (eL false 1 1 (M_.blk 6 rfl))) (GD hm fun x c7 hm => ?_)))))))))))
   obtain ⟨dz, am, aa, ah⟩ := id a7
   obtain ⟨l, N⟩ := gxIdx_fst am c7
   refine zV (elemP g (d.Target.toNat * 4)) (fun w_ M_ => (eI (aa.r M_ 4) (len_fst am) N)) (MZ 1 (Z_end fun F O => (TN (GS (GD hm fun c8 cu cn => G_meet (fun a w' => Mem (idsOf [(BK k 32 [SL m b.Routes n, SL A b.Enabled B, SL t b.Raised u, SL g b.Cpus z]), C, D, G, H, I]) w w' [(BK k 32 [SL m b.Routes n, SL A b.Enabled B, SL t c.2.1 u, SL g c.2.2 z]), C, D, af, X, Y, (BK y 129 [iv d.Priority, iv d.Target])] ∧ Sat Tryz.f79.ntmps [(0, pB k 0), (2, iv c.1), (3, pB y 0), (4, elemP g (d.Target.toNat * 4)), (8, SL m b.Routes n), (9, iv (b.Routes.length : Int)), (10, iv c.1), (46, .bool c8)] a) ?_ ?_)))))
   ·have hm := cu
    refine GR (MW 3 (wV (SL A b.Enabled B) F (eL false 1 1 (O.blk 0 rfl)) (MW 1 (GD hm fun bx bl hm => wV (elemP A (c.1.toNat * 1)) F (eI (a6.r O 2) rfl bl) (wV (.bool bx) F (eE false 1 0 (c.1.toNat * 1) (a6.r O 2) bl) (wR 1 [(0, pB k 0), (2, iv c.1), (3, pB y 0), (4, elemP g (d.Target.toNat * 4)), (8, SL m b.Routes n), (9, iv (b.Routes.length : Int)), (10, iv c.1), (29, .bool bx)] F ?_))))))
    rcases gx_bif hm with ⟨a0, hm⟩ | ⟨a0, hm⟩
    ·refine wK 29 true a0 (MW 3 (wV (SL t c.2.1 u) F (eL false 1 2 (O.blk 0 rfl)) (MW 1 (GD hm fun bz bm hm => wV (elemP t (c.1.toNat * 1)) F (eI (ac.r O 3) rfl bm) (wV (.bool bz) F (eE false 1 0 (c.1.toNat * 1) (ac.r O 3) bm) (wR 2 [(0, pB k 0), (2, iv c.1), (3, pB y 0), (4, elemP g (d.Target.toNat * 4)), (8, SL m b.Routes n), (9, iv (b.Routes.length : Int)), (10, iv c.1), (38, .bool bz)] F ?_))))))
     rcases gx_bif hm with ⟨a3, hm⟩ | ⟨a3, hm⟩
     ·refine wK 38 true a3 (MW 1 (wV (elemP g (d.Target.toNat * 4)) F (E_nilE (E := deepInterface.E) _ (d.Target.toNat * 4) rfl (by kernel_rfl) (aa.r O 4) N) (wV (elemP g (d.Target.toNat * 4 + 1)) F (eF 1 (d.Target.toNat * 4) 1 (aa.r O 4) N) (wV (SL ((l 0).1) x.Stack ((l 0).2)) F (eE false 1 1 (d.Target.toNat * 4 + 1) (aa.r O 4) N) (MW 1 (GD hm fun c9 c3 hm => WD (c_slices_Contains_136 F x.Stack ((l 0).1) ((l 0).2) ((ah.r O 5).a_ N 0) c.1 c3) O fun dc b4 => MW 2 (WN ?_)))))))
      obtain rfl := HS hm
      exact NM fun a ha => ⟨b4.pk [0, 1, 2, 3, 4, 5, 6], ha.s⟩
     refine wK 38 false a3 (MW 8 (WN ?_))
     obtain rfl := HS hm
     exact NM fun a ha => ⟨O.pk [0, 1, 2, 3, 4, 5, 6], ha.s⟩
    refine wK 29 false a0 (wR 17 [(0, pB k 0), (2, iv c.1), (3, pB y 0), (4, elemP g (d.Target.toNat * 4)), (8, SL m b.Routes n), (9, iv (b.Routes.length : Int)), (10, iv c.1), (46, .bool false)] F (WN ?_))
    obtain rfl := HS hm
    exact NM fun a ha => ⟨O.pk [0, 1, 2, 3, 4, 5, 6], ha.s⟩
   intro dq ay ⟨ak, ck⟩
   refine N_use ck ?_
   have hm := cn
   refine TN (GD hm fun an cv co => G_meet (fun a w' => ∃ au av aw, ownS Gx.encB an.1 t u au ∧ ownD deepInterface an.2 g z av aw ∧ Mem (idsOf [(BK k 32 [SL m b.Routes n, SL A b.Enabled B, SL t b.Raised u, SL g b.Cpus z]), C, D, G, H, I]) w w' [(BK k 32 [SL m b.Routes n, SL A b.Enabled B, SL t an.1 u, SL g an.2 z]), C, D, au, av, aw] ∧ Sat Tryz.f79.ntmps [(0, pB k 0), (8, SL m b.Routes n), (9, iv (b.Routes.length : Int)), (10, iv c.1)] a) ?_ ?_)
   ·have hm := cv
    refine GT hm (fun a4 hm => ?_) fun a4 hm => ?_
    ·refine QA (MW 3 (wV (SL t c.2.1 u) ay (eL false 1 2 (ak.blk 0 rfl)) (MW 1 (GD hm fun dn bn hm => wV (elemP t (c.1.toNat * 1)) ay (eI (ac.r ak 3) rfl bn) (wE false 1 c.1.toNat 0 (c.1.toNat * 1) dn false (.bool false) 3 ak ac (gxIdx_spec bn).2 fun dd ab cy b5 => LX 50 t u c.2.1 c.1.toNat false ?_)))))
     have b6 : Mem (idsOf [(BK k 32 [.slice m b.Routes.length n, .slice A b.Enabled.length B, .slice t b.Raised.length u, .slice g b.Cpus.length z]), C, D, G, H, I]) w dd [(BK k 32 [.slice m b.Routes.length n, .slice A b.Enabled.length B, .slice t (c.2.1.set c.1.toNat false).length u, .slice g c.2.2.length z]), C, D, ab, X, Y, (BK y 129 [iv d.Priority, iv d.Target])] := by rw [@List.length_set _ c.2.1 c.1.toNat false]; exact b5
     refine NO (GD hm fun o c4 hm => GU [(0, pB k 0), (2, iv c.1), (3, pB y 0), (4, elemP g (d.Target.toNat * 4)), (8, SL m b.Routes n), (9, iv (b.Routes.length : Int)), (10, iv c.1), (50, SL t (c.2.1.set c.1.toNat false) u), (51, iv c.1), (52, elemP t (c.1.toNat * 1))] (DL 8 [[],[],[1],[2],[],[],[5],[3,4,6]] (EM 8) (EM 8) (EM 8) (EM 8) (EM 8) (fun _ => []) [QV (elemP g (d.Target.toNat * 4)), QV (elemP g (d.Target.toNat * 4)), QV (elemP g (d.Target.toNat * 4)), QV (.agg #[iv x.Mask, SL ((l 0).1) x.Stack ((l 0).2), SL ((l 1).1) x.Queue.Slots ((l 1).2), SL ((l 2).1) x.Queue.Waiting ((l 2).2)]), QV (iv c.1), QV (pB y 0), QV (iv d.Priority), fun f v s => ∃ T P J U Q K V S L, v = (.agg #[iv o.Mask, SL T o.Stack P, SL U o.Queue.Slots Q, SL V o.Queue.Waiting S] : Value) ∧ s = (J ++ (K ++ L)) ∧ ownS Gx.encI o.Stack T P J ∧ ownS encSlot o.Queue.Slots U Q K ∧ ownS encWaiter o.Queue.Waiting V S L] [] [0, 7] [7] (b6.preNil 8) (AC ?_ (AC ?_ (AC ?_ (AC ?_ (AC ?_ (AC ?_ (AC ?_ (AC ?_ AN)))))))) ?_))
     ·intro W Z R de b7
      exact OM ⟨rfl, rfl⟩ b7
     ·intro W Z R df b8
      exact OM ⟨rfl, rfl⟩ b8
     ·rintro W Z v1_ ⟨rfl, _⟩ R dg bd
      exact OV ⟨rfl, rfl⟩ (E_nilE (E := deepInterface.E) _ (d.Target.toNat * 4) rfl (by kernel_rfl) (aa.r bd 4) N) bd
     ·rintro W Z v2_ ⟨rfl, _⟩ R dh be
      exact OV ⟨rfl, rfl⟩ (eE true 4 0 (d.Target.toNat * 4) (aa.r be 4) N) be
     ·intro W Z R di b9
      exact OM ⟨rfl, rfl⟩ b9
     ·intro W Z R dj ca
      exact OM ⟨rfl, rfl⟩ ca
     ·rintro W Z v5_ ⟨rfl, _⟩ R dk bf
      exact OV ⟨rfl, rfl⟩ (eL false 1 0 (bf.blk 6 rfl)) bf
     ·rintro W Z v3_ ⟨rfl, _⟩
      rintro v4_ ⟨rfl, _⟩
      rintro v6_ ⟨rfl, _⟩ R dl al
      refine WC ((c_i_raiseIrq dl x ((l 0).1) ((l 0).2) ((ah.r al 5).a_ N 0) ((l 1).1) ((l 1).2) ((ah.r al 5).a_ N 1) ((l 2).1) ((l 2).2) ((ah.r al 5).a_ N 2) c.1 d.Priority c4).mono ?_)
      rintro e_ dw ⟨T, P, J, U, Q, K, V, S, L, rfl, a8, a9, ba, b1⟩
      refine ⟨_, rfl, ?_⟩
      exact WN (oE (.agg #[iv o.Mask, SL T o.Stack P, SL U o.Queue.Slots Q, SL V o.Queue.Waiting S]) (J ++ (K ++ L)) ⟨T, P, J, U, Q, K, V, S, L, rfl, rfl, a8, a9, ba⟩ (Mem.callMid al (b1.permF (by simp))))
     rintro W Z v0_ ⟨rfl, _⟩ v7_ hb7_
     obtain ⟨T, P, J, U, Q, K, V, S, L, rfl, hs7_, a8, a9, ba⟩ := hb7_
     intro bb cb
     have ag : Mem (idsOf [(BK k 32 [SL m b.Routes n, SL A b.Enabled B, SL t b.Raised u, SL g b.Cpus z]), C, D, G, H, I]) w bb [(BK k 32 [SL m b.Routes n, SL A b.Enabled B, SL t (c.2.1.set c.1.toNat false) u, SL g c.2.2 z]), C, D, ab, X, Y, (BK y 129 [iv d.Priority, iv d.Target]), J, K, L] := cb.permF (by simp [hs7_, SL])
     refine wV (elemP g (d.Target.toNat * 4)) bb (E_nilE (E := deepInterface.E) _ (d.Target.toNat * 4) rfl (by kernel_rfl) (aa.r ag 4) N) ?_
     obtain ⟨ad, da, ae, c5, dt, c2⟩ := ah.lens (gxIdx_spec N).2
     have cc := ag.cut 5 (sa := ad) (sb := da) (sc := ae) c5 (by kernel_rfl)
     refine wE true 4 d.Target.toNat 0 (d.Target.toNat * 4) (x, l) (o, (plOf [(T, P), (U, Q), (V, S)])) (.agg #[iv o.Mask, SL T o.Stack P, SL U o.Queue.Slots Q, SL V o.Queue.Waiting S]) 4 cc aa (gxIdx_spec N).2 ?_
     intro bc ai cz cd
     have ce : Mem (idsOf [(BK k 32 [SL m b.Routes n, SL A b.Enabled B, SL t b.Raised u, SL g b.Cpus z]), C, D, G, H, I]) w bc [(BK k 32 [SL m b.Routes n, SL A b.Enabled B, SL t (c.2.1.set c.1.toNat false) u, SL g c.2.2 z]), C, D, ab, ai, (BK y 129 [iv d.Priority, iv d.Target]), ad, J, K, L, ae] := cd.pk [0, 1, 2, 3, 4, 6, 5, 7, 8, 9, 11]
     have cf : Mem (idsOf [(BK k 32 [SL m b.Routes n, SL A b.Enabled B, SL t b.Raised u, SL g b.Cpus z]), C, D, G, H, I]) w bc [(BK k 32 [SL m b.Routes n, SL A b.Enabled B, SL t (c.2.1.set c.1.toNat false) u, SL g c.2.2 z]), C, D, ab, ai, (BK y 129 [iv d.Priority, iv d.Target]), (ad ++ ((J ++ (K ++ (L ++ []))) ++ ae))] := ce.regroup (by simp)
     have c0 : ownD deepInterface (c.2.2.set d.Target.toNat o) g z ai (ad ++ ((J ++ (K ++ (L ++ []))) ++ ae)) := ⟨_, set_fst am d.Target.toNat (o, (plOf [(T, P), (U, Q), (V, S)])), cz, (c2 (o, (plOf [(T, P), (U, Q), (V, S)])) _ (ownI_cons (i := ⟨Int, Gx.encI, _, _, _⟩) a8 (ownI_cons (i := ⟨Slot, encSlot, _, _, _⟩) a9 (ownI_cons (i := ⟨Waiter, encWaiter, _, _, _⟩) ba ownI_nil))))⟩
     have du := gxIdx_put o (gxIdx_down am N)
     have cg : Mem (idsOf [(BK k 32 [.slice m b.Routes.length n, .slice A b.Enabled.length B, .slice t b.Raised.length u, .slice g b.Cpus.length z]), C, D, G, H, I]) w bc [(BK k 32 [.slice m b.Routes.length n, .slice A b.Enabled.length B, .slice t (c.2.1.set c.1.toNat false).length u, .slice g (c.2.2.set d.Target.toNat o).length z]), C, D, ab, ai, (BK y 129 [iv d.Priority, iv d.Target]), (ad ++ ((J ++ (K ++ (L ++ []))) ++ ae))] := by rw [@List.length_set _ c.2.2 d.Target.toNat o]; exact cf
     refine WN ?_
     obtain rfl := HS hm
     exact NM fun a ha => ⟨ab, ai, (ad ++ ((J ++ (K ++ (L ++ []))) ++ ae)), cy, c0, cg.pk [0, 1, 2, 3, 4, 6], ha.s⟩
    refine GK ?_
    obtain rfl := HS hm
    exact NM fun a ha => ⟨af, X, Y, ac, a7, ak.pk [0, 1, 2, 3, 4, 5], ha.s⟩
   intro dr dm ⟨au, av, aw, cw, cx, ch, cl⟩
   refine N_use cl ?_
   have hm := co
   refine BN (TN (GR (MW 2 (WN ?_))))
   cases hm
   exact N_loop fun a ha => ⟨_, rfl, au, av, aw, cw, cx, ch.pk [0, 1, 2, 3, 4, 5], ha.s⟩
  refine XA ?_
  obtain rfl := HS hm
  obtain rfl := c1 _ rfl
  exact NM fun a ha => ⟨af, X, Y, ac, a7, aj.pk [0, 1, 2, 3, 4, 5], ha.s⟩
 intro ds dx ⟨ap, aq, ar, cs, ct, ci, cm⟩
 refine N_use cm ?_
 have hm := cp
 obtain rfl := HS hm
 exact N_end [] (RVs_nil) (⟨m, n, C, A, B, D, t, u, ap, g, z, aq, ar, rfl, a5, a6, cs, ct, ci.pk [0, 1, 2, 3, 4, 5]⟩)
theorem c_i_runningPriority (w : World) (a : Interface) (d g) (o : rdS Gx.encI w a.Stack d g) (f c) (u : rdS encSlot w a.Queue.Slots f c) (m k) (x : rdS encWaiter w a.Queue.Waiting m k) {r : Int} (hm : M.i_runningPriority a = some r) :
  Calls Tryz.prog 139 #[.agg #[iv a.Mask, SL d a.Stack g, SL f a.Queue.Slots c, SL m a.Queue.Waiting k]] w fun e w' => e = .returned (iv r) ∧ Mem [] w w' [] := by
 unfold M.i_runningPriority at hm
 refine cE Tryz.func139 ?_
 have M0 := Mem.refl [] w
 refine QA (wN (CE 87 [iv a.Mask, SL d a.Stack g, SL f a.Queue.Slots c, SL m a.Queue.Waiting k]) M0 fun b h j => MW 1 (NB (MW 1 (wV (SL d a.Stack g) h (eL false 1 1 (j.blk 0 rfl)) (MW 2 (NO (GT hm (fun l hm => ?_) fun l hm => ?_)))))))
 ·refine QA (MW 1 (ND ?_))
  obtain rfl := HS hm
  exact RA [iv 16] (⟨rfl, j.pk []⟩)
 refine GK (TN (GS (G_quiet (by kernel_rfl) (by kernel_rfl) j (MZ 2 (zV (SL f a.Queue.Slots c) (fun w_ M_ => (eL false 1 2 (M_.blk 0 rfl))) (MZ 1 (zV (SL d a.Stack g) (fun w_ M_ => (eL false 1 1 (M_.blk 0 rfl))) (MZ 1 (zV (SL d a.Stack g) (fun w_ M_ => (eL false 1 1 (M_.blk 0 rfl))) (MZ 2 (GD hm fun n q hm => zV (elemP d ((w64 ((a.Stack.length : Int) - 1)).toNat * 1)) (fun w_ M_ => (eI (o.mem0 M_) rfl q)) (zV (iv n) (fun w_ M_ => (eE false 1 0 ((w64 ((a.Stack.length : Int) - 1)).toNat * 1) (o.mem0 M_) q)) (GD hm fun i v hm => ZC (iv i) (fun w_ M_ => c_i_priorityIn w_ a.Queue.Slots f c (u.mem0 M_) n v) (MZ 1 (Z_end fun y t => (TN (G_ret ?_)))))))))))))))))
 obtain rfl := HS hm
 exact RA [iv i] (⟨rfl, t.pk []⟩)
end Go.Proofs.YtllhajkgkghhdaaGreat
set_option linter.unusedVariables false
set_option linter.unusedSimpArgs false
set_option maxRecDepth 100000
set_option maxHeartbeats 4000000
namespace Go.Proofs.YtllhajkgkghhdaaGreat
open Go.Gx
theorem c_i_takeSlot (w : World) (d : List Slot) (c g) (y : rdS encSlot w d c g) (u : Int) {r : (List Slot) × Int × Bool} (hm : M.i_takeSlot d u = some r) :
  Calls Tryz.prog 180 #[SL c d g, iv u] w fun e w' => ∃ L J N, e = .returned (.tuple #[SL L r.1 J, iv r.2.1, .bool r.2.2]) ∧ ownS encSlot r.1 L J N ∧ Mem [] w w' [N] := by
 unfold M.i_takeSlot at hm
 refine cE Tryz.func180 ?_
 have M0 := Mem.refl [] w
 refine QA (MW 3 (NA (MW 1 (GD hm fun k af hm => WD (c_i_pendingSlot w d c g (y.mem0 M0) true af) M0 fun t z => MW 1 (NE (GS (GD hm fun ah ae ad => G_meet (fun a w' => Mem [] w w' [] ∧ Sat Tryz.f180.ntmps [(0, SL c d g), (7, iv k), (21, .bool ah)] a) ?_ ?_)))))))
 ·have hm := ae
  refine GR (wR 3 [(0, SL c d g), (1, iv u), (7, iv k), (13, .bool (decide (k < 0)))] t ?_)
  rcases gx_bif hm with ⟨C, hm⟩ | ⟨C, hm⟩
  ·refine wK 13 true C (MW 8 (WN ?_))
   obtain rfl := HS hm
   exact NM fun a ha => ⟨z.pk [], ha.s⟩
  refine wK 13 false C (MW 2 (GD hm fun P F hm => wV (elemP c (k.toNat * 3)) t (eI (y.mem0 z) rfl F) (wV (elemP c (k.toNat * 3 + 2)) t (eF 2 (k.toNat * 3) 2 (y.mem0 z) F) (wV (iv P.Priority) t (eE false 1 2 (k.toNat * 3 + 2) (y.mem0 z) F) (MW 3 (WN ?_))))))
  obtain rfl := HS hm
  exact NM fun a ha => ⟨z.pk [], ha.s⟩
 intro ar B ⟨A, ac⟩
 refine N_use ac ?_
 have hm := ad
 refine TN (GT hm (fun D hm => ?_) fun D hm => ?_)
 ·refine QA (wR 3 [(4, SN), (5, iv 0), (6, .bool false)] B (ND ?_))
  cases hm
  exact RA [SN, iv 0, .bool false] (⟨none, 0, [], rfl, ownS_nil, A.pk [100000]⟩)
 refine KA (MW 2 (GD hm fun b K hm => wV (elemP c (k.toNat * 3)) B (eI (y.mem0 A) rfl K) (wV (.agg #[iv b.State, iv b.Irq, iv b.Priority]) B (eE true 3 0 (k.toNat * 3) (y.mem0 A) K) (wN (CE 117 [iv 0, iv 0, iv 0]) A fun o au T => wS true 3 0 (.agg #[iv b.State, iv b.Irq, iv b.Priority]) 0 [iv b.State, iv b.Irq, iv b.Priority] T rfl fun aj U => NA (MW 1 (wS false 1 0 (iv 2) 0 [iv 2, iv b.Irq, iv b.Priority] U rfl fun av V => NE (GD hm fun n ag hm => GU [(0, SL c d g), (7, iv k), (8, pB o 0), (26, pB o 0)] (DL 7 [[],[],[],[0,1,2],[],[4],[]] (EM 7) (EM 7) [[],[],[],[],[],[],[3]] [[],[],[],[],[],[],[3]] (EM 7) (fun _ => []) [QV (.slice c d.length g), QV (iv k), QV (.agg #[iv 2, iv b.Irq, iv b.Priority]), fun f v s => ∃ m l, v = (.slice m n.length l : Value) ∧ ownS encSlot n m l s, QV (pB o 1), QV (iv b.Irq), fun f v s => v = ((atPath (f 3) []) : Value) ∧ s = []] [] [3, 5, 6] [3] (V.preNil 7) (AC ?_ (AC ?_ (AC ?_ (AC ?_ (AC ?_ (AC ?_ (AC ?_ AN))))))) ?_))))))))
 ·intro q x R ak W
  exact OM ⟨rfl, rfl⟩ W
 ·intro q x R al X
  exact OM ⟨rfl, rfl⟩ X
 ·intro q x R am G
  exact OV ⟨rfl, rfl⟩ (eL true 3 0 (G.blk 0 rfl)) G
 ·rintro q x v0_ ⟨rfl, _⟩
  rintro v1_ ⟨rfl, _⟩
  rintro v2_ ⟨rfl, _⟩ R an H
  refine WC ((c_i_withSlot an d c g (y.mem0 H) k (⟨2, b.Irq, b.Priority⟩ : Slot) ag).mono ?_)
  rintro e_ aw ⟨m, l, ai, rfl, E, S⟩
  refine ⟨_, rfl, ?_⟩
  exact WN (oE (SL m n l) ai ⟨m, l, rfl, E⟩ (Mem.callMid H S))
 ·intro q x R ao Y
  exact OM ⟨rfl, rfl⟩ Y
 ·rintro q x v4_ ⟨rfl, _⟩ R ap I
  exact OV ⟨rfl, rfl⟩ (eL false 1 1 (I.blk 0 rfl)) I
 ·intro q x v3_ hb3_
  obtain ⟨_, m, l, rfl, _⟩ := hb3_
  intro R aq Z
  exact OM ⟨rfl, rfl⟩ Z
 intro q x v3_ hb3_
 obtain ⟨m, l, rfl, E⟩ := hb3_
 rintro v5_ ⟨rfl, _⟩ v6_ hb6_
 obtain ⟨hv6_, _⟩ := hb6_
 obtain rfl : v6_ = (.slice m n.length l : Value) := hv6_.trans (by kernel_rfl)
 intro O aa
 have ab : Mem [] w O [(BK o 117 [iv 2, iv b.Irq, iv b.Priority]), (q 3)] := aa
 refine MW 2 (NC ?_)
 cases hm
 exact RA [SL m n l, iv b.Irq, .bool true] (⟨m, l, (q 3), rfl, E, ab.pk [1]⟩)
theorem c_i_takeQueue (w : World) (c : Queue) (n m) (K : rdS encSlot w c.Slots n m) (x u) (Y : rdS encWaiter w c.Waiting x u) (q : Int) {r : Queue × Int × Bool} (hm : M.i_takeQueue c q = some r) :
  Calls Tryz.prog 138 #[.agg #[SL n c.Slots m, SL x c.Waiting u], iv q] w fun e w' => ∃ L H P N I Q, e = .returned (.tuple #[.agg #[SL L r.1.Slots H, SL N r.1.Waiting I], iv r.2.1, .bool r.2.2]) ∧ ownS encSlot r.1.Slots L H P ∧ ownS encWaiter r.1.Waiting N I Q ∧ Mem [] w w' [P, Q] := by
 unfold M.i_takeQueue at hm
 refine cE Tryz.func138 ?_
 have M0 := Mem.refl [] w
 refine QA (wN (CE 85 [SL n c.Slots m, SL x c.Waiting u]) M0 fun t ak U => wN (CE 85 [SN, SN]) U fun d z B => MW 2 (NA (MW 1 (wV (SL n c.Slots m) z (eL false 1 0 (B.blk 0 rfl)) (MW 1 (GD hm fun a ab hm => WC ((c_i_takeSlot z c.Slots n m (K.mem0 B) q ab).mono ?_)))))))
 rintro e_ A ⟨h, f, ad, rfl, Z, S⟩
 have y := B.call S
 refine ⟨_, rfl, ?_⟩
 refine MW 7 (NB (MW 2 (NO (GT hm (fun C hm => ?_) fun C hm => ?_))))
 ·refine QA (MW 1 (wS true 2 0 (.agg #[SN, SN]) 1 [SN, SN] y rfl fun af D => wR 2 [(4, pB d 0), (5, iv 0), (6, .bool false)] af (ND ?_)))
  obtain rfl := HS hm
  exact N_ret [.agg #[SN, SN], iv 0, .bool false] (RX true 2 0 (D.blk 1 rfl) (rC (rC RVs_nil))) (⟨none, 0, [], none, 0, [], rfl, ownS_nil, ownS_nil, D.pk [100000, 100001]⟩)
 refine KA (wV (.agg #[SL n c.Slots m, SL x c.Waiting u]) A (eL true 2 0 (y.blk 0 rfl)) (GD hm fun i ac hm => WC ((c_i_newQueue A c n m (K.mem0 y) x u (Y.mem0 y) ac).mono ?_)))
 rintro e_ al ⟨O, J, aj, l, j, ae, rfl, ai, aa, T⟩
 have V := y.call T
 refine ⟨_, rfl, ?_⟩
 refine wN (CE 85 [SN, SN]) V fun G am W => wS true 2 0 (.agg #[SL O i.Slots J, SL l i.Waiting j]) 5 [SL O i.Slots J, SL l i.Waiting j] W rfl fun ag X => NA (MW 2 (wS false 1 0 (SL h a.1 f) 5 [SL h a.1 f, SL l i.Waiting j] X rfl fun R E => NA (wV (.agg #[SL h a.1 f, SL l i.Waiting j]) R (eL true 2 0 (E.blk 5 rfl)) (MW 1 (wS true 2 0 (.agg #[SL h a.1 f, SL l i.Waiting j]) 1 [SL h a.1 f, SL l i.Waiting j] E rfl fun ah F => MW 2 (NC ?_))))))
 obtain rfl := HS hm
 exact N_ret [.agg #[SL h a.1 f, SL l i.Waiting j], iv a.2.1, .bool true] (RX true 2 0 (F.blk 1 rfl) (rC (rC RVs_nil))) (⟨h, f, ad, l, j, ae, rfl, Z, aa, F.pk [2, 4]⟩)
theorem c_i_takeIrq (w : World) (c : Interface) (B y) (av : rdS Gx.encI w c.Stack B y) (C z) (aw : rdS encSlot w c.Queue.Slots C z) (D A) (ax : rdS encWaiter w c.Queue.Waiting D A) {r : Interface × Int × Bool} (hm : M.i_takeIrq c = some r) :
  Calls Tryz.prog 80 #[.agg #[iv c.Mask, SL B c.Stack y, SL C c.Queue.Slots z, SL D c.Queue.Waiting A]] w fun e w' => ∃ ay aq a3 az ar a4 a0 au a5, e = .returned (.tuple #[.agg #[iv r.1.Mask, SL ay r.1.Stack aq, SL az r.1.Queue.Slots ar, SL a0 r.1.Queue.Waiting au], iv r.2.1, .bool r.2.2]) ∧ ownS Gx.encI r.1.Stack ay aq a3 ∧ ownS encSlot r.1.Queue.Slots az ar a4 ∧ ownS encWaiter r.1.Queue.Waiting a0 au a5 ∧ Mem [] w w' [a3, a4, a5] := by
 unfold M.i_takeIrq at hm
 refine cE Tryz.func80 ?_
 have M0 := Mem.refl [] w
 refine QA (wN (CE 87 [iv c.Mask, SL B c.Stack y, SL C c.Queue.Slots z, SL D c.Queue.Waiting A]) M0 fun q cz bb => wN (CE 87 [iv 0, SN, SN, SN]) bb fun x ca bc => MW 2 (NE (GD hm fun T b4 hm => GD hm fun a b5 hm => GU [(1, pB q 0), (2, pB x 0)] (DL 15 [[],[0],[],[2],[],[4],[3,5],[1,6],[],[8],[8],[8],[],[9,12],[10]] [[],[],[],[],[],[],[],[],[],[],[],[],[],[12],[]] (EM 15) [[],[],[],[],[],[],[],[],[7],[7],[7],[7],[],[7],[]] [[],[],[],[],[],[],[],[],[7],[7],[],[],[],[7,12],[]] (EM 15) (fun _ => []) [QV (pB q 2), QV (.agg #[SL C c.Queue.Slots z, SL D c.Queue.Waiting A]), QV (pB q 0), QV (iv c.Mask), QV (.agg #[iv c.Mask, SL B c.Stack y, SL C c.Queue.Slots z, SL D c.Queue.Waiting A]), QV (iv T), QV (iv (gxMin c.Mask T)), fun f v s => ∃ m d K n l L, v = (.tuple #[.agg #[SL m a.1.Slots d, SL n a.1.Waiting l], iv a.2.1, .bool a.2.2] : Value) ∧ s = (K ++ L) ∧ ownS encSlot a.1.Slots m d K ∧ ownS encWaiter a.1.Waiting n l L, fun f v s => v = (.tuple #[.agg #[(atPath (f 7) [0, 0]), (atPath (f 7) [0, 1])], iv a.2.1, .bool a.2.2] : Value) ∧ s = [], fun f v s => v = (.agg #[(atPath (f 7) [0, 0]), (atPath (f 7) [0, 1])] : Value) ∧ s = [], QV (iv a.2.1), QV (.bool a.2.2), fun f v s => ∃ F, v = (pB F 0 : Value) ∧ s = (BK F 85 [SN, SN]), fun f v s => v = undef ∧ s = [((blkOf (f 12)), .cells ⟨[(atPath (f 7) [0, 0]), (atPath (f 7) [0, 1])]⟩ 85 (0, 0))], QV (iv a.2.1)] [12] [7, 11, 13, 14] [7, 13] (bc.preNil 15) (AC ?_ (AC ?_ (AC ?_ (AC ?_ (AC ?_ (AC ?_ (AC ?_ (AC ?_ (AC ?_ (AC ?_ (AC ?_ (AC ?_ (AC ?_ (AC ?_ (AC ?_ AN))))))))))))))) ?_))))
 ·intro G J R cb bd
  exact OM ⟨rfl, rfl⟩ bd
 ·rintro G J v0_ ⟨rfl, _⟩ R cc ah
  exact OV ⟨rfl, rfl⟩ (eL true 2 2 (ah.blk 0 rfl)) ah
 ·intro G J R cd be
  exact OM ⟨rfl, rfl⟩ be
 ·rintro G J v2_ ⟨rfl, _⟩ R ce ai
  exact OV ⟨rfl, rfl⟩ (eL false 1 0 (ai.blk 0 rfl)) ai
 ·intro G J R cf aj
  exact OV ⟨rfl, rfl⟩ (eL true 4 0 (aj.blk 0 rfl)) aj
 ·rintro G J v4_ ⟨rfl, _⟩ R cg X
  refine WC ((c_i_runningPriority cg c B y (av.mem0 X) C z (aw.mem0 X) D A (ax.mem0 X) b4).mono ?_)
  rintro e_ c0 ⟨rfl, a8⟩
  refine ⟨_, rfl, ?_⟩
  exact WN (oE (iv T) [] ⟨rfl, rfl⟩ (X.call0 a8))
 ·rintro G J v3_ ⟨rfl, _⟩
  rintro v5_ ⟨rfl, _⟩ R ch bf
  exact OM ⟨rfl, rfl⟩ bf
 ·rintro G J v1_ ⟨rfl, _⟩
  rintro v6_ ⟨rfl, _⟩ R ci aa
  refine WC ((c_i_takeQueue ci c.Queue C z (aw.mem0 aa) D A (ax.mem0 aa) (gxMin c.Mask T) b5).mono ?_)
  rintro e_ c1 ⟨m, d, K, n, l, L, rfl, ad, ae, a9⟩
  refine ⟨_, rfl, ?_⟩
  exact WN (oE (.tuple #[.agg #[SL m a.1.Slots d, SL n a.1.Waiting l], iv a.2.1, .bool a.2.2]) (K ++ L) ⟨m, d, K, n, l, L, rfl, rfl, ad, ae⟩ (Mem.callMid aa (a9.permF (by simp))))
 ·intro G J v7_ hb7_
  obtain ⟨_, m, d, _, n, l, _, rfl, _⟩ := hb7_
  intro R cj bg
  exact OM ⟨rfl, rfl⟩ bg
 ·intro G J v7_ hb7_
  obtain ⟨_, m, d, _, n, l, _, rfl, _⟩ := hb7_
  intro v8_ hb8_
  obtain ⟨hv8_, _⟩ := hb8_
  obtain rfl : v8_ = (.tuple #[.agg #[SL m a.1.Slots d, SL n a.1.Waiting l], iv a.2.1, .bool a.2.2] : Value) := hv8_.trans (by kernel_rfl)
  intro R ck bh
  exact OM ⟨rfl, rfl⟩ bh
 ·intro G J v7_ hb7_
  obtain ⟨_, m, d, _, n, l, _, rfl, _⟩ := hb7_
  intro v8_ hb8_
  obtain ⟨hv8_, _⟩ := hb8_
  obtain rfl : v8_ = (.tuple #[.agg #[SL m a.1.Slots d, SL n a.1.Waiting l], iv a.2.1, .bool a.2.2] : Value) := hv8_.trans (by kernel_rfl)
  intro R cl bi
  exact OM ⟨rfl, rfl⟩ bi
 ·intro G J v7_ hb7_
  obtain ⟨_, m, d, _, n, l, _, rfl, _⟩ := hb7_
  intro v8_ hb8_
  obtain ⟨hv8_, _⟩ := hb8_
  obtain rfl : v8_ = (.tuple #[.agg #[SL m a.1.Slots d, SL n a.1.Waiting l], iv a.2.1, .bool a.2.2] : Value) := hv8_.trans (by kernel_rfl)
  intro R cm bj
  exact OM ⟨rfl, rfl⟩ bj
 ·intro G J R c2 bk
  exact wN (CE 85 [SN, SN]) bk fun F c3 bl => WN (oE (pB F 0) (BK F 85 [SN, SN]) ⟨F, rfl, rfl⟩ (Mem.mid bl))
 ·intro G J v7_ hb7_
  obtain ⟨_, m, d, _, n, l, _, rfl, _⟩ := hb7_
  intro v9_ hb9_
  obtain ⟨hv9_, _⟩ := hb9_
  obtain rfl : v9_ = (.agg #[SL m a.1.Slots d, SL n a.1.Waiting l] : Value) := hv9_.trans (by kernel_rfl)
  intro v12_ hb12_
  obtain ⟨F, rfl, hs12_⟩ := hb12_
  intro R a6 bm
  have Y : Mem [] w a6 ([(BK q 87 [iv c.Mask, SL B c.Stack y, SL C c.Queue.Slots z, SL D c.Queue.Waiting A]), (BK x 87 [iv 0, SN, SN, SN])] ++ ([[]] ++ ([(G 12)] ++ ([] ++ R)))) := bm
  rw [hs12_] at Y
  replace Y : Mem [] w a6 ([(BK q 87 [iv c.Mask, SL B c.Stack y, SL C c.Queue.Slots z, SL D c.Queue.Waiting A]), (BK x 87 [iv 0, SN, SN, SN])] ++ ([[]] ++ ([(BK F 85 [SN, SN])] ++ ([] ++ R)))) := Y.permF (by simp)
  exact wS true 2 0 (.agg #[SL m a.1.Slots d, SL n a.1.Waiting l]) 3 [SL m a.1.Slots d, SL n a.1.Waiting l] Y rfl fun c4 bn => WN (ob_none (BK F 85 [SL m a.1.Slots d, SL n a.1.Waiting l]) rfl ⟨rfl, by kernel_rfl⟩ (Mem.takeOver bn))
 ·rintro G J v10_ ⟨rfl, _⟩ R cn bo
  exact OM ⟨rfl, rfl⟩ bo
 intro G J v12_ hb12_
 obtain ⟨_, F, rfl, hs12_⟩ := hb12_
 intro v7_ hb7_
 obtain ⟨m, d, K, n, l, L, rfl, hs7_, ad, ae⟩ := hb7_
 rintro v11_ ⟨rfl, _⟩ v13_ hb13_
 obtain ⟨rfl, hs13_⟩ := hb13_
 replace hs13_ := hs13_.trans (show _ = (BK F 85 [SL m a.1.Slots d, SL n a.1.Waiting l]) by kernel_rfl)
 rintro v14_ ⟨rfl, _⟩ V bp
 have U : Mem [] w V [(BK q 87 [iv c.Mask, SL B c.Stack y, SL C c.Queue.Slots z, SL D c.Queue.Waiting A]), (BK x 87 [iv 0, SN, SN, SN]), K, L, (BK F 85 [SL m a.1.Slots d, SL n a.1.Waiting l])] := bp.permF (by simp [hs7_, hs13_, SL])
 refine MW 1 (NB (MW 2 (NO (GT hm (fun ac hm => ?_) fun ac hm => ?_))))
 ·refine QA (MW 1 (wS true 4 0 (.agg #[iv 0, SN, SN, SN]) 1 [iv 0, SN, SN, SN] U rfl fun co ak => MW 2 (ND ?_)))
  obtain rfl := HS hm
  exact N_ret [.agg #[iv 0, SN, SN, SN], iv 0, .bool false] (RX true 4 0 (ak.blk 1 rfl) (rC (rC RVs_nil))) (⟨none, 0, [], none, 0, [], none, 0, [], rfl, ownS_nil, ownS_nil, ownS_nil, ak.pk [100000, 100001, 100002]⟩)
 refine GK (TN (GS (GD hm fun W b6 hm => GD hm fun H b3 hm => ?_)))
 have bq : Mem [] w V ([(BK q 87 [iv c.Mask, SL B c.Stack y, SL C c.Queue.Slots z, SL D c.Queue.Waiting A]), K, L, (BK F 85 [SL m a.1.Slots d, SL n a.1.Waiting l])] ++ (List.range 12).map (fun i => ([[], [], [], [], [], [], [], [], [], [], [], (BK x 87 [iv 0, SN, SN, SN])] : List Seg).getD i [])) := U.pk [0, 2, 3, 4, 300000, 300001, 300002, 300003, 300004, 300005, 300006, 300007, 300008, 300009, 300010, 1]
 refine GU [(1, pB q 0), (2, pB x 0), (5, pB F 0), (6, iv a.2.1), (21, .bool (!a.2.2))] (DL 12 [[],[0],[],[2],[3],[],[5],[4,6],[],[1,8],[],[9]] [[],[],[],[],[],[],[],[4],[],[],[],[]] [[],[],[],[],[],[],[],[6],[],[],[],[]] [[],[],[],[],[],[],[],[],[],[7],[],[7]] [[],[],[],[],[],[],[],[],[],[7],[],[7]] (EM 12) (fun i => ([[], [], [], [], [], [], [], [], [], [], [], (BK x 87 [iv 0, SN, SN, SN])] : List Seg).getD i []) [QV (pB q 0), QV (iv c.Mask), QV (pB q 1), QV (.slice B c.Stack.length y), fun f v s => ∃ S Q, v = (.slice S W.length Q : Value) ∧ ownS Gx.encI W S Q s, QV (iv a.2.1), fun f v s => ∃ P O, v = (.slice P [a.2.1].length O : Value) ∧ ownS Gx.encI [a.2.1] P O s, fun f v s => ∃ u t, v = (.slice u H.length t : Value) ∧ ownS Gx.encI H u t s, QV (.agg #[SL m a.1.Slots d, SL n a.1.Waiting l]), fun f v s => v = (.agg #[iv c.Mask, (atPath (f 7) []), SL m a.1.Slots d, SL n a.1.Waiting l] : Value) ∧ s = [], QV (iv a.2.1), fun f v s => v = undef ∧ s = (BK x 87 [iv c.Mask, (atPath (f 7) []), SL m a.1.Slots d, SL n a.1.Waiting l])] [] [6, 7, 10, 11] [6, 7, 11] bq (AC ?_ (AC ?_ (AC ?_ (AC ?_ (AC ?_ (AC ?_ (AC ?_ (AC ?_ (AC ?_ (AC ?_ (AC ?_ (AC ?_ AN)))))))))))) ?_)
 ·intro I N R cp br
  exact OM ⟨rfl, rfl⟩ br
 ·rintro I N v0_ ⟨rfl, _⟩ R cq al
  exact OV ⟨rfl, rfl⟩ (eL false 1 0 (al.blk 0 rfl)) al
 ·intro I N R cr bs
  exact OM ⟨rfl, rfl⟩ bs
 ·rintro I N v2_ ⟨rfl, _⟩ R ct am
  exact OV ⟨rfl, rfl⟩ (eL false 1 1 (am.blk 0 rfl)) am
 ·rintro I N v3_ ⟨rfl, _⟩ R cu an
  refine WC ((c_i_copyInts cu c.Stack B y (av.mem0 an) b6).mono ?_)
  rintro e_ c5 ⟨S, Q, b7, rfl, af, ba⟩
  refine ⟨_, rfl, ?_⟩
  exact WN (oE (SL S W Q) b7 ⟨S, Q, rfl, af⟩ (Mem.callMid an ba))
 ·intro I N R cv bt
  exact OM ⟨rfl, rfl⟩ bt
 ·rintro I N v5_ ⟨rfl, _⟩ R c6 bu
  exact wL (E := Gx.encI) [a.2.1] 1 [iv a.2.1] 3 bu fun P O b8 c7 Z bv => WN (oE (SL P [a.2.1] O) b8 ⟨P, O, rfl, Z⟩ (Mem.mid bv))
 ·intro I N v4_ hb4_
  obtain ⟨S, Q, rfl, af⟩ := hb4_
  intro v6_ hb6_
  obtain ⟨P, O, rfl, Z⟩ := hb6_
  intro R c8 ao
  exact wA 8 [iv 0] 5 ao af (Z.r ao 6) b3 fun u t b9 c9 ag bw => WN (oE (SL u H t) b9 ⟨u, t, rfl, ag⟩ (Mem.takeOver bw))
 ·intro I N R cw ap
  exact OV ⟨rfl, rfl⟩ (eL true 2 0 (ap.blk 3 rfl)) ap
 ·intro I N v7_ hb7_
  obtain ⟨_, u, t, rfl, _⟩ := hb7_
  rintro v1_ ⟨rfl, _⟩
  rintro v8_ ⟨rfl, _⟩ R cx bx
  exact OM ⟨rfl, rfl⟩ bx
 ·intro I N R cy bz
  exact OM ⟨rfl, rfl⟩ bz
 ·intro I N v7_ hb7_
  obtain ⟨_, u, t, rfl, _⟩ := hb7_
  intro v9_ hb9_
  obtain ⟨hv9_, _⟩ := hb9_
  obtain rfl : v9_ = (.agg #[iv c.Mask, SL u H t, SL m a.1.Slots d, SL n a.1.Waiting l] : Value) := hv9_.trans (by kernel_rfl)
  intro R da b0
  exact wS true 4 0 (.agg #[iv c.Mask, SL u H t, SL m a.1.Slots d, SL n a.1.Waiting l]) 4 [iv c.Mask, SL u H t, SL m a.1.Slots d, SL n a.1.Waiting l] b0 rfl fun db b1 => WN (ob_none (BK x 87 [iv c.Mask, SL u H t, SL m a.1.Slots d, SL n a.1.Waiting l]) rfl ⟨rfl, by kernel_rfl⟩ b1)
 intro I N v6_ hb6_
 obtain ⟨P, O, rfl, Z⟩ := hb6_
 intro v7_ hb7_
 obtain ⟨u, t, rfl, ag⟩ := hb7_
 rintro v10_ ⟨rfl, _⟩ v11_ hb11_
 obtain ⟨rfl, hs11_⟩ := hb11_
 replace hs11_ := hs11_.trans (show _ = (BK x 87 [iv c.Mask, SL u H t, SL m a.1.Slots d, SL n a.1.Waiting l]) by kernel_rfl)
 intro a7 b2
 have ab : Mem [] w a7 [(BK q 87 [iv c.Mask, SL B c.Stack y, SL C c.Queue.Slots z, SL D c.Queue.Waiting A]), K, L, (BK F 85 [SL m a.1.Slots d, SL n a.1.Waiting l]), (I 6), (I 7), (I 11)] := b2
 rw [hs11_] at ab
 refine MW 2 (NC ?_)
 obtain rfl := HS hm
 exact N_ret [.agg #[iv c.Mask, SL u H t, SL m a.1.Slots d, SL n a.1.Waiting l], iv a.2.1, .bool true] (RX true 4 0 (ab.blk 6 rfl) (rC (rC RVs_nil))) (⟨u, t, (I 7), m, d, K, n, l, L, rfl, ag, ad, ae, ab.pk [5, 1, 2]⟩)
theorem c_i_endSlot (w : World) (d : List Slot) (b f) (i : rdS encSlot w d b f) (g : Int) {r : (List Slot) × Bool} (hm : M.i_endSlot d g = some r) :
  Calls Tryz.prog 181 #[SL b d f, iv g] w fun e w' => ∃ G E I, e = .returned (.tuple #[SL G r.1 E, .bool r.2]) ∧ ownS encSlot r.1 G E I ∧ Mem [] w w' [I] := by
 unfold M.i_endSlot at hm
 refine cE Tryz.func181 ?_
 have M0 := Mem.refl [] w
 refine QA (MW 2 (NA (MW 2 (GD hm fun c aa hm => WD (c_i_findSlot w d b f (i.mem0 M0) g aa) M0 fun m o => MW 1 (NE (GS (GD hm fun ad X V => G_meet (fun a w' => Mem [] w w' [] ∧ Sat Tryz.f181.ntmps [(0, SL b d f), (1, iv g), (6, iv c), (20, .bool ad)] a) ?_ ?_)))))))
 ·have hm := X
  refine GR (wR 3 [(0, SL b d f), (1, iv g), (6, iv c), (13, .bool (decide (c < 0)))] m ?_)
  rcases gx_bif hm with ⟨v, hm⟩ | ⟨v, hm⟩
  ·refine wK 13 true v (MW 7 (WN ?_))
   obtain rfl := HS hm
   exact NM fun a ha => ⟨o.pk [], ha.s⟩
  refine wK 13 false v (MW 2 (GD hm fun n F hm => wV (elemP b (c.toNat * 3)) m (eI (i.mem0 o) rfl F) (wV (.agg #[iv n.State, iv n.Irq, iv n.Priority]) m (eE true 3 0 (c.toNat * 3) (i.mem0 o) F) (GD hm fun ae ab hm => WD (c_i_isActive m n ab) o fun ag P => MW 2 (WN ?_)))))
  obtain rfl := HS hm
  exact NM fun a ha => ⟨P.pk [], ha.s⟩
 intro ai J ⟨D, T⟩
 refine N_use T ?_
 have hm := V
 refine TN (GT hm (fun x hm => ?_) fun x hm => ?_)
 ·refine QA (MW 2 (ND ?_))
  cases hm
  exact RA [SN, .bool false] (⟨none, 0, [], rfl, ownS_nil, D.pk [100000]⟩)
 refine KA (MW 1 (wN (CE 117 [iv 0, iv 0, iv 0]) D fun l ak Q => wS true 3 0 (.agg #[iv 0, iv 0, iv 0]) 0 [iv 0, iv 0, iv 0] Q rfl fun j k => NB (MW 2 (GD hm fun K z hm => wV (elemP b (c.toNat * 3)) j (eI (i.mem0 k) rfl z) (wV (elemP b (c.toNat * 3 + 0)) j (eF 0 (c.toNat * 3) 0 (i.mem0 k) z) (wV (iv K.State) j (eE false 1 0 (c.toNat * 3 + 0) (i.mem0 k) z) (wR 1 [(0, SL b d f), (1, iv g), (6, iv c), (7, pB l 0), (27, .bool (K.State == 3))] j (NO (GD hm fun h Y W => G_meet (fun a w' => Mem [] w w' [(BK l 117 [iv h.1, iv h.2.1, iv h.2.2])] ∧ Sat Tryz.f181.ntmps [(0, SL b d f), (6, iv c), (7, pB l 0)] a) ?_ ?_)))))))))
 ·have hm := Y
  refine GT hm (fun y hm => ?_) fun y hm => ?_
  ·refine GR (MW 3 (GD hm fun q A hm => wV (elemP b (c.toNat * 3)) j (eI (i.mem0 k) rfl A) (wV (elemP b (c.toNat * 3 + 2)) j (eF 2 (c.toNat * 3) 2 (i.mem0 k) A) (wV (iv q.Priority) j (eE false 1 2 (c.toNat * 3 + 2) (i.mem0 k) A) (MW 1 (wS true 3 0 (.agg #[iv 1, iv g, iv q.Priority]) 0 [iv 1, iv g, iv q.Priority] k rfl fun al R => WN ?_))))))
   obtain rfl := HS hm
   exact NM fun a ha => ⟨R.pk [0], ha.s⟩
  refine GK ?_
  obtain rfl := HS hm
  exact NM fun a ha => ⟨k.pk [0], ha.s⟩
 intro aj C ⟨t, U⟩
 refine N_use U ?_
 have hm := W
 refine NF (MW 2 (wV (.agg #[iv h.1, iv h.2.1, iv h.2.2]) C (eL true 3 0 (t.blk 0 rfl)) (GD hm fun H ac hm => WC ((c_i_withSlot C d b f (i.mem0 t) c (⟨h.1, h.2.1, h.2.2⟩ : Slot) ac).mono ?_))))
 rintro e_ ah ⟨B, u, af, rfl, Z, O⟩
 have S := t.call O
 refine ⟨_, rfl, ?_⟩
 refine MW 2 (NC ?_)
 cases hm
 exact RA [SL B H u, .bool true] (⟨B, u, af, rfl, Z, S.pk [1]⟩)
theorem c_i_endQueue (w : World) (a : Queue) (n i) (S : rdS encSlot w a.Slots n i) (q j) (T : rdS encWaiter w a.Waiting q j) (y : Int) {r : Queue × Bool} (hm : M.i_endQueue a y = some r) :
  Calls Tryz.prog 140 #[.agg #[SL n a.Slots i, SL q a.Waiting j], iv y] w fun e w' => ∃ J H L K I N, e = .returned (.tuple #[.agg #[SL J r.1.Slots H, SL K r.1.Waiting I], .bool r.2]) ∧ ownS encSlot r.1.Slots J H L ∧ ownS encWaiter r.1.Waiting K I N ∧ Mem [] w w' [L, N] := by
 unfold M.i_endQueue at hm
 refine cE Tryz.func140 ?_
 have M0 := Mem.refl [] w
 refine QA (wN (CE 85 [SL n a.Slots i, SL q a.Waiting j]) M0 fun h ae Q => wN (CE 85 [SN, SN]) Q fun c C D => MW 1 (NA (MW 1 (wV (SL n a.Slots i) C (eL false 1 0 (D.blk 0 rfl)) (MW 1 (GD hm fun f X hm => WC ((c_i_endSlot C a.Slots n i (S.mem0 D) y X).mono ?_)))))))
 rintro e_ x ⟨A, z, ad, rfl, U, O⟩
 have B := D.call O
 refine ⟨_, rfl, ?_⟩
 refine MW 5 (NB (MW 2 (NO (GT hm (fun E hm => ?_) fun E hm => ?_))))
 ·refine QA (MW 1 (wS true 2 0 (.agg #[SN, SN]) 1 [SN, SN] B rfl fun ab F => MW 1 (ND ?_)))
  obtain rfl := HS hm
  exact N_ret [.agg #[SN, SN], .bool false] (RX true 2 0 (F.blk 1 rfl) (rC RVs_nil)) (⟨none, 0, [], none, 0, [], rfl, ownS_nil, ownS_nil, F.pk [100000, 100001]⟩)
 refine KA (MW 2 (wV (SL q a.Waiting j) x (eL false 1 1 (B.blk 0 rfl)) (MW 1 (GD hm fun d Y hm => WC ((c_i_settled x (⟨f.1, a.Waiting⟩ : Queue) A z (U.r B 2) q j (T.mem0 B) Y).mono ?_)))))
 rintro e_ af ⟨t, l, Z, u, m, aa, rfl, V, W, P⟩
 have R := B.call P
 refine ⟨_, rfl, ?_⟩
 refine wS true 2 0 (.agg #[SL t d.Slots l, SL u d.Waiting m]) 1 [SL t d.Slots l, SL u d.Waiting m] R rfl fun ac G => wR 1 [(4, pB c 0), (5, .bool true)] ac (NC ?_)
 obtain rfl := HS hm
 exact N_ret [.agg #[SL t d.Slots l, SL u d.Waiting m], .bool true] (RX true 2 0 (G.blk 1 rfl) (rC RVs_nil)) (⟨t, l, Z, u, m, aa, rfl, V, W, G.pk [3, 4]⟩)
theorem c_i_leaveIrq (w : World) (a : Interface) (q u) (O : rdS Gx.encI w a.Stack q u) (I F) (bx : rdS encSlot w a.Queue.Slots I F) (J G) (bz : rdS encWaiter w a.Queue.Waiting J G) {r : Interface × Int × Bool} (hm : M.i_leaveIrq a = some r) :
  Calls Tryz.prog 81 #[.agg #[iv a.Mask, SL q a.Stack u, SL I a.Queue.Slots F, SL J a.Queue.Waiting G]] w fun e w' => ∃ az ar a4 a0 au a5 a3 av a6, e = .returned (.tuple #[.agg #[iv r.1.Mask, SL az r.1.Stack ar, SL a0 r.1.Queue.Slots au, SL a3 r.1.Queue.Waiting av], iv r.2.1, .bool r.2.2]) ∧ ownS Gx.encI r.1.Stack az ar a4 ∧ ownS encSlot r.1.Queue.Slots a0 au a5 ∧ ownS encWaiter r.1.Queue.Waiting a3 av a6 ∧ Mem [] w w' [a4, a5, a6] := by
 unfold M.i_leaveIrq at hm
 refine cE Tryz.func81 ?_
 have M0 := Mem.refl [] w
 refine QA (wN (CE 87 [iv a.Mask, SL q a.Stack u, SL I a.Queue.Slots F, SL J a.Queue.Waiting G]) M0 fun t cu bb => wN (CE 87 [iv 0, SN, SN, SN]) bb fun x P X => MW 2 (NA (MW 1 (wV (SL q a.Stack u) P (eL false 1 1 (X.blk 0 rfl)) (MW 3 (NB (MW 2 (NO (GT hm (fun aa hm => ?_) fun aa hm => ?_)))))))))
 ·refine QA (MW 1 (wS true 4 0 (.agg #[iv 0, SN, SN, SN]) 1 [iv 0, SN, SN, SN] X rfl fun b3 ae => MW 2 (ND ?_)))
  obtain rfl := HS hm
  exact N_ret [.agg #[iv 0, SN, SN, SN], iv 0, .bool false] (RX true 4 0 (ae.blk 1 rfl) (rC (rC RVs_nil))) (⟨none, 0, [], none, 0, [], none, 0, [], rfl, ownS_nil, ownS_nil, ownS_nil, ae.pk [100000, 100001, 100002]⟩)
 refine GK (TN (GS (GD hm fun Q aw hm => GD hm fun c b0 hm => GU [(1, pB t 0), (2, pB x 0), (5, iv (w64 ((a.Stack.length : Int) - 1))), (13, .bool (decide ((w64 ((a.Stack.length : Int) - 1)) < 0)))] (DL 13 [[],[0],[],[2],[],[3,4],[5],[1,6],[],[8],[8],[],[9,11]] [[],[],[],[],[],[],[],[],[],[],[],[],[11]] (EM 13) [[],[],[],[],[],[],[],[],[7],[7],[7],[],[7]] [[],[],[],[],[],[],[],[],[7],[7],[],[],[7,11]] (EM 13) (fun _ => []) [QV (pB t 2), QV (.agg #[SL I a.Queue.Slots F, SL J a.Queue.Waiting G]), QV (pB t 1), QV (.slice q a.Stack.length u), QV (iv (w64 ((a.Stack.length : Int) - 1))), QV (elemP q ((w64 ((a.Stack.length : Int) - 1)).toNat * 1)), QV (iv Q), fun f v s => ∃ m d L n l N, v = (.tuple #[.agg #[SL m c.1.Slots d, SL n c.1.Waiting l], .bool c.2] : Value) ∧ s = (L ++ N) ∧ ownS encSlot c.1.Slots m d L ∧ ownS encWaiter c.1.Waiting n l N, fun f v s => v = (.tuple #[.agg #[(atPath (f 7) [0, 0]), (atPath (f 7) [0, 1])], .bool c.2] : Value) ∧ s = [], fun f v s => v = (.agg #[(atPath (f 7) [0, 0]), (atPath (f 7) [0, 1])] : Value) ∧ s = [], QV (.bool c.2), fun f v s => ∃ A, v = (pB A 0 : Value) ∧ s = (BK A 85 [SN, SN]), fun f v s => v = undef ∧ s = [((blkOf (f 11)), .cells ⟨[(atPath (f 7) [0, 0]), (atPath (f 7) [0, 1])]⟩ 85 (0, 0))]] [11] [7, 10, 12] [7, 12] (X.preNil 13) (AC ?_ (AC ?_ (AC ?_ (AC ?_ (AC ?_ (AC ?_ (AC ?_ (AC ?_ (AC ?_ (AC ?_ (AC ?_ (AC ?_ (AC ?_ AN))))))))))))) ?_))))
 ·intro C K R b4 bc
  exact OM ⟨rfl, rfl⟩ bc
 ·rintro C K v0_ ⟨rfl, _⟩ R b5 af
  exact OV ⟨rfl, rfl⟩ (eL true 2 2 (af.blk 0 rfl)) af
 ·intro C K R b6 bd
  exact OM ⟨rfl, rfl⟩ bd
 ·rintro C K v2_ ⟨rfl, _⟩ R b7 ag
  exact OV ⟨rfl, rfl⟩ (eL false 1 1 (ag.blk 0 rfl)) ag
 ·intro C K R b8 be
  exact OM ⟨rfl, rfl⟩ be
 ·rintro C K v3_ ⟨rfl, _⟩
  rintro v4_ ⟨rfl, _⟩ R b9 ah
  exact OV ⟨rfl, rfl⟩ (eI (O.mem0 ah) rfl aw) ah
 ·rintro C K v5_ ⟨rfl, _⟩ R ca ai
  exact OV ⟨rfl, rfl⟩ (eE false 1 0 ((w64 ((a.Stack.length : Int) - 1)).toNat * 1) (O.mem0 ai) aw) ai
 ·rintro C K v1_ ⟨rfl, _⟩
  rintro v6_ ⟨rfl, _⟩ R cb Y
  refine WC ((c_i_endQueue cb a.Queue I F (bx.mem0 Y) J G (bz.mem0 Y) Q b0).mono ?_)
  rintro e_ cv ⟨m, d, L, n, l, N, rfl, ab, ac, a9⟩
  refine ⟨_, rfl, ?_⟩
  exact WN (oE (.tuple #[.agg #[SL m c.1.Slots d, SL n c.1.Waiting l], .bool c.2]) (L ++ N) ⟨m, d, L, n, l, N, rfl, rfl, ab, ac⟩ (Mem.callMid Y (a9.permF (by simp))))
 ·intro C K v7_ hb7_
  obtain ⟨_, m, d, _, n, l, _, rfl, _⟩ := hb7_
  intro R cc bf
  exact OM ⟨rfl, rfl⟩ bf
 ·intro C K v7_ hb7_
  obtain ⟨_, m, d, _, n, l, _, rfl, _⟩ := hb7_
  intro v8_ hb8_
  obtain ⟨hv8_, _⟩ := hb8_
  obtain rfl : v8_ = (.tuple #[.agg #[SL m c.1.Slots d, SL n c.1.Waiting l], .bool c.2] : Value) := hv8_.trans (by kernel_rfl)
  intro R cd bg
  exact OM ⟨rfl, rfl⟩ bg
 ·intro C K v7_ hb7_
  obtain ⟨_, m, d, _, n, l, _, rfl, _⟩ := hb7_
  intro v8_ hb8_
  obtain ⟨hv8_, _⟩ := hb8_
  obtain rfl : v8_ = (.tuple #[.agg #[SL m c.1.Slots d, SL n c.1.Waiting l], .bool c.2] : Value) := hv8_.trans (by kernel_rfl)
  intro R ce bh
  exact OM ⟨rfl, rfl⟩ bh
 ·intro C K R cw bi
  exact wN (CE 85 [SN, SN]) bi fun A cx bj => WN (oE (pB A 0) (BK A 85 [SN, SN]) ⟨A, rfl, rfl⟩ (Mem.mid bj))
 ·intro C K v7_ hb7_
  obtain ⟨_, m, d, _, n, l, _, rfl, _⟩ := hb7_
  intro v9_ hb9_
  obtain ⟨hv9_, _⟩ := hb9_
  obtain rfl : v9_ = (.agg #[SL m c.1.Slots d, SL n c.1.Waiting l] : Value) := hv9_.trans (by kernel_rfl)
  intro v11_ hb11_
  obtain ⟨A, rfl, hs11_⟩ := hb11_
  intro R a7 bk
  have V : Mem [] w a7 ([(BK t 87 [iv a.Mask, SL q a.Stack u, SL I a.Queue.Slots F, SL J a.Queue.Waiting G]), (BK x 87 [iv 0, SN, SN, SN])] ++ ([[]] ++ ([(C 11)] ++ ([] ++ R)))) := bk
  rw [hs11_] at V
  replace V : Mem [] w a7 ([(BK t 87 [iv a.Mask, SL q a.Stack u, SL I a.Queue.Slots F, SL J a.Queue.Waiting G]), (BK x 87 [iv 0, SN, SN, SN])] ++ ([[]] ++ ([(BK A 85 [SN, SN])] ++ ([] ++ R)))) := V.permF (by simp)
  exact wS true 2 0 (.agg #[SL m c.1.Slots d, SL n c.1.Waiting l]) 3 [SL m c.1.Slots d, SL n c.1.Waiting l] V rfl fun cy bl => WN (ob_none (BK A 85 [SL m c.1.Slots d, SL n c.1.Waiting l]) rfl ⟨rfl, by kernel_rfl⟩ (Mem.takeOver bl))
 intro C K v11_ hb11_
 obtain ⟨_, A, rfl, hs11_⟩ := hb11_
 intro v7_ hb7_
 obtain ⟨m, d, L, n, l, N, rfl, hs7_, ab, ac⟩ := hb7_
 rintro v10_ ⟨rfl, _⟩ v12_ hb12_
 obtain ⟨rfl, hs12_⟩ := hb12_
 replace hs12_ := hs12_.trans (show _ = (BK A 85 [SL m c.1.Slots d, SL n c.1.Waiting l]) by kernel_rfl)
 intro W bm
 have U : Mem [] w W [(BK t 87 [iv a.Mask, SL q a.Stack u, SL I a.Queue.Slots F, SL J a.Queue.Waiting G]), (BK x 87 [iv 0, SN, SN, SN]), L, N, (BK A 85 [SL m c.1.Slots d, SL n c.1.Waiting l])] := bm.permF (by simp [hs7_, hs12_, SL])
 refine MW 1 (NE (GD hm fun T ay hm => GD hm fun D b1 hm => GD hm fun S ax hm => ?_))
 have bn : Mem [] w W ([(BK t 87 [iv a.Mask, SL q a.Stack u, SL I a.Queue.Slots F, SL J a.Queue.Waiting G]), L, N, (BK A 85 [SL m c.1.Slots d, SL n c.1.Waiting l])] ++ (List.range 15).map (fun i => ([[], [], [], [], [], [], [], [], [], [], [], [], [], [], (BK x 87 [iv 0, SN, SN, SN])] : List Seg).getD i [])) := U.pk [0, 2, 3, 4, 300000, 300001, 300002, 300003, 300004, 300005, 300006, 300007, 300008, 300009, 300010, 300011, 300012, 300013, 1]
 refine GU [(1, pB t 0), (2, pB x 0), (5, iv (w64 ((a.Stack.length : Int) - 1))), (6, pB A 0)] (DL 15 [[],[0],[],[2],[],[3,4],[5],[],[1,7],[],[9],[],[10,11],[12],[8]] (EM 15) (EM 15) [[],[],[],[],[],[],[],[],[6],[],[],[],[],[],[6]] [[],[],[],[],[],[],[],[],[6],[],[],[],[],[],[6]] (EM 15) (fun i => ([[], [], [], [], [], [], [], [], [], [], [], [], [], [], (BK x 87 [iv 0, SN, SN, SN])] : List Seg).getD i []) [QV (pB t 0), QV (iv a.Mask), QV (pB t 1), QV (.slice q a.Stack.length u), QV (iv (w64 ((a.Stack.length : Int) - 1))), QV (.slice (subP q (0 : Int).toNat u 1) T.length (u - (0 : Int).toNat)), fun f v s => ∃ z y, v = (.slice z D.length y : Value) ∧ ownS Gx.encI D z y s, QV (.agg #[SL m c.1.Slots d, SL n c.1.Waiting l]), fun f v s => v = (.agg #[iv a.Mask, (atPath (f 6) []), SL m c.1.Slots d, SL n c.1.Waiting l] : Value) ∧ s = [], QV (pB t 1), QV (.slice q a.Stack.length u), QV (iv (w64 ((a.Stack.length : Int) - 1))), QV (elemP q ((w64 ((a.Stack.length : Int) - 1)).toNat * 1)), QV (iv S), fun f v s => v = undef ∧ s = (BK x 87 [iv a.Mask, (atPath (f 6) []), SL m c.1.Slots d, SL n c.1.Waiting l])] [] [6, 13, 14] [6, 14] bn (AC ?_ (AC ?_ (AC ?_ (AC ?_ (AC ?_ (AC ?_ (AC ?_ (AC ?_ (AC ?_ (AC ?_ (AC ?_ (AC ?_ (AC ?_ (AC ?_ (AC ?_ AN))))))))))))))) ?_)
 ·intro B H R cf bo
  exact OM ⟨rfl, rfl⟩ bo
 ·rintro B H v0_ ⟨rfl, _⟩ R cg aj
  exact OV ⟨rfl, rfl⟩ (eL false 1 0 (aj.blk 0 rfl)) aj
 ·intro B H R ch bp
  exact OM ⟨rfl, rfl⟩ bp
 ·rintro B H v2_ ⟨rfl, _⟩ R ci ak
  exact OV ⟨rfl, rfl⟩ (eL false 1 1 (ak.blk 0 rfl)) ak
 ·intro B H R cj bq
  exact OM ⟨rfl, rfl⟩ bq
 ·rintro B H v3_ ⟨rfl, _⟩
  rintro v4_ ⟨rfl, _⟩ R ck al
  exact OV ⟨rfl, rfl⟩ (E_slice (E := Gx.encI) _ _ _ _ a.Stack.length 0 (w64 ((a.Stack.length : Int) - 1)) rfl (by kernel_rfl) (Or.inl ⟨rfl, rfl⟩) (Or.inr ⟨_, rfl, by kernel_rfl⟩) (by kernel_rfl) (O.mem0 al) rfl ay) al
 ·rintro B H v5_ ⟨rfl, _⟩ R cl am
  refine WC ((c_i_copyInts cl T (subP q (0 : Int).toNat u 1) (u - (0 : Int).toNat) ((O.mem0 am).sliceM ay) b1).mono ?_)
  rintro e_ cz ⟨z, y, b2, rfl, ad, ba⟩
  refine ⟨_, rfl, ?_⟩
  exact WN (oE (SL z D y) b2 ⟨z, y, rfl, ad⟩ (Mem.callMid am ba))
 ·intro B H R cm an
  exact OV ⟨rfl, rfl⟩ (eL true 2 0 (an.blk 3 rfl)) an
 ·intro B H v6_ hb6_
  obtain ⟨_, z, y, rfl, _⟩ := hb6_
  rintro v1_ ⟨rfl, _⟩
  rintro v7_ ⟨rfl, _⟩ R cn br
  exact OM ⟨rfl, rfl⟩ br
 ·intro B H R co bs
  exact OM ⟨rfl, rfl⟩ bs
 ·rintro B H v9_ ⟨rfl, _⟩ R cp ao
  exact OV ⟨rfl, rfl⟩ (eL false 1 1 (ao.blk 0 rfl)) ao
 ·intro B H R cq bt
  exact OM ⟨rfl, rfl⟩ bt
 ·rintro B H v10_ ⟨rfl, _⟩
  rintro v11_ ⟨rfl, _⟩ R cr ap
  exact OV ⟨rfl, rfl⟩ (eI (O.mem0 ap) rfl ax) ap
 ·rintro B H v12_ ⟨rfl, _⟩ R ct aq
  exact OV ⟨rfl, rfl⟩ (eE false 1 0 ((w64 ((a.Stack.length : Int) - 1)).toNat * 1) (O.mem0 aq) ax) aq
 ·intro B H v6_ hb6_
  obtain ⟨_, z, y, rfl, _⟩ := hb6_
  intro v8_ hb8_
  obtain ⟨hv8_, _⟩ := hb8_
  obtain rfl : v8_ = (.agg #[iv a.Mask, SL z D y, SL m c.1.Slots d, SL n c.1.Waiting l] : Value) := hv8_.trans (by kernel_rfl)
  intro R c0 bu
  exact wS true 4 0 (.agg #[iv a.Mask, SL z D y, SL m c.1.Slots d, SL n c.1.Waiting l]) 4 [iv a.Mask, SL z D y, SL m c.1.Slots d, SL n c.1.Waiting l] bu rfl fun c1 bv => WN (ob_none (BK x 87 [iv a.Mask, SL z D y, SL m c.1.Slots d, SL n c.1.Waiting l]) rfl ⟨rfl, by kernel_rfl⟩ bv)
 intro B H v6_ hb6_
 obtain ⟨z, y, rfl, ad⟩ := hb6_
 rintro v13_ ⟨rfl, _⟩ v14_ hb14_
 obtain ⟨rfl, hs14_⟩ := hb14_
 replace hs14_ := hs14_.trans (show _ = (BK x 87 [iv a.Mask, SL z D y, SL m c.1.Slots d, SL n c.1.Waiting l]) by kernel_rfl)
 intro a8 bw
 have Z : Mem [] w a8 [(BK t 87 [iv a.Mask, SL q a.Stack u, SL I a.Queue.Slots F, SL J a.Queue.Waiting G]), L, N, (BK A 85 [SL m c.1.Slots d, SL n c.1.Waiting l]), (B 6), (B 14)] := bw
 rw [hs14_] at Z
 refine MW 2 (NC ?_)
 obtain rfl := HS hm
 exact N_ret [.agg #[iv a.Mask, SL z D y, SL m c.1.Slots d, SL n c.1.Waiting l], iv S, .bool true] (RX true 4 0 (Z.blk 5 rfl) (rC (rC RVs_nil))) (⟨z, y, (B 6), m, d, L, n, l, N, rfl, ad, ab, ac, Z.pk [4, 1, 2]⟩)
theorem c_i_DrainCpu (w : World) (n : Machine) (an ai) (bw : rdS encRoute w n.Routes an ai) (ao aj) (bx : rdS Gx.encB w n.Enabled ao aj) (ap ak) (bz : rdS Gx.encB w n.Raised ap ak) (aq al) (b0 : rdD deepInterface w n.Cpus aq al) (u : Int) {r : Machine × (List Int) × Bool} (hm : M.i_DrainCpu n u = some r) :
  Calls Tryz.prog 28 #[.agg #[SL an n.Routes ai, SL ao n.Enabled aj, SL ap n.Raised ak, SL aq n.Cpus al], iv u] w fun e w' => ∃ cy cp c4 cz cq c5 c0 cr c6 c1 ct c7 c8 c2 cu c9, e = .returned (.tuple #[.agg #[SL cy r.1.Routes cp, SL cz r.1.Enabled cq, SL c0 r.1.Raised cr, SL c1 r.1.Cpus ct], SL c2 r.2.1 cu, .bool r.2.2]) ∧ ownS encRoute r.1.Routes cy cp c4 ∧ ownS Gx.encB r.1.Enabled cz cq c5 ∧ ownS Gx.encB r.1.Raised c0 cr c6 ∧ ownD deepInterface r.1.Cpus c1 ct c7 c8 ∧ ownS Gx.encI r.2.1 c2 cu c9 ∧ Mem [] w w' [c4, c5, c6, c7, c8, c9] := by
 unfold M.i_DrainCpu at hm
 refine cE Tryz.func28 ?_
 have M0 := Mem.refl [] w
 refine QA (wN (CE 32 [SL an n.Routes ai, SL ao n.Enabled aj, SL ap n.Raised ak, SL aq n.Cpus al]) M0 fun a8 f7 dh => wN (CE 32 [SN, SN, SN, SN]) dh fun q cd ba => MW 2 (NE (GS (GD hm fun fa ef ed => G_meet (fun a w' => Mem [] w w' [(BK a8 32 [SL an n.Routes ai, SL ao n.Enabled aj, SL ap n.Raised ak, SL aq n.Cpus al]), (BK q 32 [SN, SN, SN, SN])] ∧ Sat Tryz.f28.ntmps [(1, iv u), (2, pB a8 0), (4, pB q 0), (20, .bool fa)] a) ?_ ?_))))
 ·have hm := ef
  refine GR (wV (.agg #[SL an n.Routes ai, SL ao n.Enabled aj, SL ap n.Raised ak, SL aq n.Cpus al]) cd (eL true 4 0 (ba.blk 0 rfl)) (GD hm fun fb e0 hm => WD (c_i_IsMachine cd n an ai (bw.mem0 ba) ao aj (bx.mem0 ba) ap ak (bz.mem0 ba) aq al (b0.mem0 ba) e0) ba fun be a5 => wR 2 [(1, iv u), (2, pB a8 0), (4, pB q 0), (15, .bool (!fb))] be ?_))
  rcases gx_bif hm with ⟨b1, hm⟩ | ⟨b1, hm⟩
  ·refine wK 15 true b1 (MW 5 (WN ?_))
   obtain rfl := HS hm
   exact NM fun a ha => ⟨a5.pk [0, 1], ha.s⟩
  refine wK 15 false b1 (wV (.agg #[SL an n.Routes ai, SL ao n.Enabled aj, SL ap n.Raised ak, SL aq n.Cpus al]) be (eL true 4 0 (a5.blk 0 rfl)) (MW 1 (GD hm fun fc e1 hm => WD (c_i_Machine_hasCpu be n an ai (bw.mem0 a5) ao aj (bx.mem0 a5) ap ak (bz.mem0 a5) aq al (b0.mem0 a5) u e1) a5 fun fm di => MW 2 (WN ?_))))
  obtain rfl := HS hm
  exact NM fun a ha => ⟨di.pk [0, 1], ha.s⟩
 intro f1 ce ⟨a6, ea⟩
 refine N_use ea ?_
 have hm := ed
 refine TN (GT hm (fun b2 hm => ?_) fun b2 hm => ?_)
 ·refine QA (MW 1 (wS true 4 0 (.agg #[SN, SN, SN, SN]) 1 [SN, SN, SN, SN] a6 rfl fun fn ci => MW 2 (ND ?_)))
  obtain rfl := HS hm
  exact N_ret [.agg #[SN, SN, SN, SN], SN, .bool false] (RX true 4 0 (ci.blk 1 rfl) (rC (rC RVs_nil))) (⟨none, 0, [], none, 0, [], none, 0, [], none, 0, [], [], none, 0, [], rfl, ownS_nil, ownS_nil, ownS_nil, ownD_nil, ownS_nil, ci.pk [100000, 100001, 100002, 100003, 100004, 100005]⟩)
 refine KA (wV (.agg #[SL an n.Routes ai, SL ao n.Enabled aj, SL ap n.Raised ak, SL aq n.Cpus al]) ce (eL true 4 0 (a6.blk 0 rfl)) (GD hm fun ay e2 hm => WC ((c_i_newMachine ce n an ai (bw.mem0 a6) ao aj (bx.mem0 a6) ap ak (bz.mem0 a6) aq al (b0.mem0 a6) e2).mono ?_)))
 rintro e_ f8 ⟨b8, br, fe, b9, bs, ff, ca, bt, fg, cb, bu, fh, fi, rfl, eg, eh, ei, ej, dd⟩
 have dj := a6.call dd
 refine ⟨_, rfl, ?_⟩
 refine wL (E := Gx.encI) ([] : List Int) 0 [] 3 dj fun c3 cv fj f9 ek dk => wN (CE 32 [SN, SN, SN, SN]) dk fun y ga dl => wS true 4 0 (.agg #[SL b8 ay.Routes br, SL b9 ay.Enabled bs, SL ca ay.Raised bt, SL cb ay.Cpus bu]) 8 [SL b8 ay.Routes br, SL b9 ay.Enabled bs, SL ca ay.Raised bt, SL cb ay.Cpus bu] dl rfl fun da bo => MW 1 (NA (GD hm fun l e3 hm => WC ((c_i_Machine_sync da ay b8 br fe eg b9 bs ff eh ca bt fg ei cb bu fh fi ej y (bo.hasPick [8, 2, 3, 4, 5, 6]) (bo.nodupPick [8, 2, 3, 4, 5, 6] (by kernel_rfl)) e3).mono ?_)))
 rintro e_ gb ⟨G, z, Z, H, A, aa, I, B, ab, t, x, fk, fl, rfl, el, em, en, eo, de⟩
 have dm := bo.callF' [8, 2, 3, 4, 5, 6] [0, 1, 7] (by kernel_rfl) de
 refine ⟨_, rfl, ?_⟩
 refine NO (GD hm fun f5 e7 ee => G_meet (fun a w' => False) ?_ ?_)
 ·refine GB (G_while (σ := List Int × List Interface) (ρ := Machine × (List Int) × Bool) (fun m a w' => ∃ ar am bl av aw, ownS Gx.encI m.1 ar am bl ∧ ownD deepInterface m.2 t x av aw ∧ Mem [] w w' [(BK q 32 [SN, SN, SN, SN]), (BK y 32 [SL G l.1 z, SL H l.2.1 A, SL I l.2.2.1 B, SL t m.2 x]), Z, aa, ab, bl, av, aw] ∧ Sat Tryz.f28.ntmps [(1, iv u), (4, pB q 0), (7, pB y 0), (8, SL ar m.1 am)] a) e7 (fun a ha => ⟨c3, cv, fj, fk, fl, ek, eo, dm.pk [1, 3, 4, 5, 6, 2, 7, 8], ha.s⟩) ?_)
  clear hm
  intro m gf hm ey f2 bb ⟨ar, am, bl, av, aw, cw, cx, a7, eb⟩
  refine G_use eb (GB (QA (MW 1 (wV (SL t m.2 x) bb (eL false 1 3 (a7.blk 1 rfl)) (MW 1 (GD hm fun ah e8 hm => ?_))))))
  obtain ⟨gg, bd, bk, bj⟩ := id cx
  obtain ⟨Q, bc⟩ := gxIdx_fst bd e8
  refine wV (elemP t (u.toNat * 4)) bb (eI (bk.r a7 6) (len_fst bd) bc) (wV (.agg #[iv ah.Mask, SL ((Q 0).1) ah.Stack ((Q 0).2), SL ((Q 1).1) ah.Queue.Slots ((Q 1).2), SL ((Q 2).1) ah.Queue.Waiting ((Q 2).2)]) bb (eE true 4 0 (u.toNat * 4) (bk.r a7 6) bc) (GD hm fun d e4 hm => WC ((c_i_takeIrq bb ah ((Q 0).1) ((Q 0).2) ((bj.r a7 7).a_ bc 0) ((Q 1).1) ((Q 1).2) ((bj.r a7 7).a_ bc 1) ((Q 2).1) ((Q 2).2) ((bj.r a7 7).a_ bc 2) e4).mono ?_)))
  rintro e_ fo ⟨S, N, ad, T, O, ae, U, P, af, rfl, ep, er, es, df⟩
  have dn := a7.call df
  refine ⟨_, rfl, ?_⟩
  refine MW 4 (wN (CE 87 [iv 0, SN, SN, SN]) dn fun V gc dp => wS true 4 0 (.agg #[iv d.1.Mask, SL S d.1.Stack N, SL T d.1.Queue.Slots O, SL U d.1.Queue.Waiting P]) 11 [iv d.1.Mask, SL S d.1.Stack N, SL T d.1.Queue.Slots O, SL U d.1.Queue.Waiting P] dp rfl fun bf bp => MW 2 (NB (wR 2 [(1, iv u), (4, pB q 0), (7, pB y 0), (8, SL ar m.1 am), (9, pB V 0), (10, iv d.2.1), (37, .bool (!d.2.2))] bf (NO (GT hm (fun b3 hm => ?_) fun b3 hm => ?_)))))
  ·refine QA (wV (.agg #[SL G l.1 z, SL H l.2.1 A, SL I l.2.2.1 B, SL t m.2 x]) bf (eL true 4 0 (bp.blk 1 rfl)) (MW 1 (wS true 4 0 (.agg #[SL G l.1 z, SL H l.2.1 A, SL I l.2.2.1 B, SL t m.2 x]) 0 [SL G l.1 z, SL H l.2.1 A, SL I l.2.2.1 B, SL t m.2 x] bp rfl fun fp cj => MW 2 (ND (BR (TR ?_))))))
   obtain rfl := HS hm
   obtain rfl := ey _ rfl
   have hm := ee
   refine BR (N_meet_ret ?_)
   obtain rfl := HS hm
   exact N_ret [.agg #[SL G l.1 z, SL H l.2.1 A, SL I l.2.2.1 B, SL t m.2 x], SL ar m.1 am, .bool true] (RX true 4 0 (cj.blk 0 rfl) (rC (rC RVs_nil))) (⟨G, z, Z, H, A, aa, I, B, ab, t, x, av, aw, ar, am, bl, rfl, el, em, en, cx, cw, cj.pk [2, 3, 4, 6, 7, 5]⟩)
  refine KA (MW 2 (wL (E := Gx.encI) [d.2.1] 1 [iv d.2.1] 3 bp fun f6 f3 ag gd et ck => GD hm fun co ec hm => wA 8 [iv 0] 5 ck cw (et.r ck 12) ec fun cc bv ac bm eu dq => MW 1 (NO ?_)))
  have dr : Mem [] w bm [(BK q 32 [SN, SN, SN, SN]), (BK y 32 [SL G l.1 z, SL H l.2.1 A, SL I l.2.2.1 B, SL t m.2 x]), Z, aa, ab, ac, ad, ae, af, (BK V 87 [iv d.1.Mask, SL S d.1.Stack N, SL T d.1.Queue.Slots O, SL U d.1.Queue.Waiting P]), ag, av, aw] := dq.pk [0, 1, 2, 3, 4, 5, 8, 9, 10, 11, 12, 6, 7]
  have ds : Mem [] w bm [(BK q 32 [SN, SN, SN, SN]), (BK y 32 [SL G l.1 z, SL H l.2.1 A, SL I l.2.2.1 B, SL t m.2 x]), Z, aa, ab, ac, ad, ae, af, (BK V 87 [iv d.1.Mask, SL S d.1.Stack N, SL T d.1.Queue.Slots O, SL U d.1.Queue.Waiting P]), ag, (av ++ aw)] := dr.regroup (by simp)
  refine GD hm fun c e5 hm => GD hm fun f0 e9 hm => ?_
  obtain ⟨d9, b4⟩ := gxIdx_fst bd e9
  have dt : Mem [] w bm ([(BK q 32 [SN, SN, SN, SN]), (BK y 32 [SL G l.1 z, SL H l.2.1 A, SL I l.2.2.1 B, SL t m.2 x]), Z, aa, ab, ac, ad, ae, af, (BK V 87 [iv d.1.Mask, SL S d.1.Stack N, SL T d.1.Queue.Slots O, SL U d.1.Queue.Waiting P]), ag] ++ (List.range 11).map (fun i => ([[], [], [], [], [], [], [], [], [], [], (av ++ aw)] : List Seg).getD i [])) := ds.pk [0, 1, 2, 3, 4, 5, 6, 7, 8, 9, 10, 300000, 300001, 300002, 300003, 300004, 300005, 300006, 300007, 300008, 300009, 11]
  refine GU [(1, iv u), (4, pB q 0), (7, pB y 0), (8, SL cc co bv), (9, pB V 0)] (DL 11 [[],[0],[],[],[3],[],[5],[5],[5],[1,2],[4,6,9]] [[],[],[],[],[],[],[],[],[],[],[4]] (EM 11) [[],[],[],[],[],[4],[4],[4],[4],[],[]] [[],[],[],[],[],[4],[4],[],[],[],[]] [[],[],[],[],[],[],[],[],[],[10],[]] (fun i => ([[], [], [], [], [], [], [], [], [], [], (av ++ aw)] : List Seg).getD i []) [QV (pB y 3), QV (.slice t m.2.length x), QV (iv u), QV (.agg #[iv d.1.Mask, SL S d.1.Stack N, SL T d.1.Queue.Slots O, SL U d.1.Queue.Waiting P]), fun f v s => ∃ J C W K D X L F Y, v = (.tuple #[.agg #[iv c.1.Mask, SL J c.1.Stack C, SL K c.1.Queue.Slots D, SL L c.1.Queue.Waiting F], iv c.2.1, .bool c.2.2] : Value) ∧ s = (W ++ (X ++ Y)) ∧ ownS Gx.encI c.1.Stack J C W ∧ ownS encSlot c.1.Queue.Slots K D X ∧ ownS encWaiter c.1.Queue.Waiting L F Y, fun f v s => v = (.tuple #[.agg #[iv c.1.Mask, (atPath (f 4) [0, 1]), (atPath (f 4) [0, 2]), (atPath (f 4) [0, 3])], iv c.2.1, .bool c.2.2] : Value) ∧ s = [], fun f v s => v = (.agg #[iv c.1.Mask, (atPath (f 4) [0, 1]), (atPath (f 4) [0, 2]), (atPath (f 4) [0, 3])] : Value) ∧ s = [], QV (iv c.2.1), QV (.bool c.2.2), QV (elemP t (u.toNat * 4)), fun f v s => v = undef ∧ ∃ az a0, s = az ++ a0 ∧ ownD deepInterface (m.2.set u.toNat c.1) t x az a0] [] [10] [10] dt (AC ?_ (AC ?_ (AC ?_ (AC ?_ (AC ?_ (AC ?_ (AC ?_ (AC ?_ (AC ?_ (AC ?_ (AC ?_ AN))))))))))) ?_)
  ·intro au ax R fq du
   exact OM ⟨rfl, rfl⟩ du
  ·rintro au ax v0_ ⟨rfl, _⟩ R fs cl
   exact OV ⟨rfl, rfl⟩ (eL false 1 3 (cl.blk 1 rfl)) cl
  ·intro au ax R ft dv
   exact OM ⟨rfl, rfl⟩ dv
  ·intro au ax R fu cm
   exact OV ⟨rfl, rfl⟩ (eL true 4 0 (cm.blk 9 rfl)) cm
  ·rintro au ax v3_ ⟨rfl, _⟩ R fv bg
   refine WC ((c_i_leaveIrq fv d.1 S N (ep.r bg 6) T O (er.r bg 7) U P (es.r bg 8) e5).mono ?_)
   rintro e_ ge ⟨J, C, W, K, D, X, L, F, Y, rfl, b5, b6, b7, dg⟩
   refine ⟨_, rfl, ?_⟩
   exact WN (oE (.tuple #[.agg #[iv c.1.Mask, SL J c.1.Stack C, SL K c.1.Queue.Slots D, SL L c.1.Queue.Waiting F], iv c.2.1, .bool c.2.2]) (W ++ (X ++ Y)) ⟨J, C, W, K, D, X, L, F, Y, rfl, rfl, b5, b6, b7⟩ (Mem.callMid bg (dg.permF (by simp))))
  ·intro au ax v4_ hb4_
   obtain ⟨_, J, C, _, K, D, _, L, F, _, rfl, _⟩ := hb4_
   intro R fw dw
   exact OM ⟨rfl, rfl⟩ dw
  ·intro au ax v4_ hb4_
   obtain ⟨_, J, C, _, K, D, _, L, F, _, rfl, _⟩ := hb4_
   intro v5_ hb5_
   obtain ⟨hv5_, _⟩ := hb5_
   obtain rfl : v5_ = (.tuple #[.agg #[iv c.1.Mask, SL J c.1.Stack C, SL K c.1.Queue.Slots D, SL L c.1.Queue.Waiting F], iv c.2.1, .bool c.2.2] : Value) := hv5_.trans (by kernel_rfl)
   intro R fx dx
   exact OM ⟨rfl, rfl⟩ dx
  ·intro au ax v4_ hb4_
   obtain ⟨_, J, C, _, K, D, _, L, F, _, rfl, _⟩ := hb4_
   intro v5_ hb5_
   obtain ⟨hv5_, _⟩ := hb5_
   obtain rfl : v5_ = (.tuple #[.agg #[iv c.1.Mask, SL J c.1.Stack C, SL K c.1.Queue.Slots D, SL L c.1.Queue.Waiting F], iv c.2.1, .bool c.2.2] : Value) := hv5_.trans (by kernel_rfl)
   intro R fy dy
   exact OM ⟨rfl, rfl⟩ dy
  ·intro au ax v4_ hb4_
   obtain ⟨_, J, C, _, K, D, _, L, F, _, rfl, _⟩ := hb4_
   intro v5_ hb5_
   obtain ⟨hv5_, _⟩ := hb5_
   obtain rfl : v5_ = (.tuple #[.agg #[iv c.1.Mask, SL J c.1.Stack C, SL K c.1.Queue.Slots D, SL L c.1.Queue.Waiting F], iv c.2.1, .bool c.2.2] : Value) := hv5_.trans (by kernel_rfl)
   intro R fz dz
   exact OM ⟨rfl, rfl⟩ dz
  ·rintro au ax v1_ ⟨rfl, _⟩
   rintro v2_ ⟨rfl, _⟩ R cf cn
   have bq : Mem [] w cf ([(BK q 32 [SN, SN, SN, SN]), (BK y 32 [SL G l.1 z, SL H l.2.1 A, SL I l.2.2.1 B, SL t m.2 x]), Z, aa, ab, ac, ad, ae, af, (BK V 87 [iv d.1.Mask, SL S d.1.Stack N, SL T d.1.Queue.Slots O, SL U d.1.Queue.Waiting P]), ag] ++ ([[]] ++ ([] ++ ([(av ++ aw)] ++ R)))) := cn
   replace bq : Mem [] w cf ([(BK q 32 [SN, SN, SN, SN]), (BK y 32 [SL G l.1 z, SL H l.2.1 A, SL I l.2.2.1 B, SL t m.2 x]), Z, aa, ab, ac, ad, ae, af, (BK V 87 [iv d.1.Mask, SL S d.1.Stack N, SL T d.1.Queue.Slots O, SL U d.1.Queue.Waiting P]), ag] ++ ([[]] ++ ([] ++ ([av, aw] ++ R)))) := bq.permF (by simp)
   exact OV ⟨rfl, rfl⟩ (eI (bk.r bq 12) (len_fst bd) b4) cn
  ·intro au ax v4_ hb4_
   obtain ⟨J, C, W, K, D, X, L, F, Y, rfl, hs4_, b5, b6, b7⟩ := hb4_
   intro v6_ hb6_
   obtain ⟨hv6_, _⟩ := hb6_
   obtain rfl : v6_ = (.agg #[iv c.1.Mask, SL J c.1.Stack C, SL K c.1.Queue.Slots D, SL L c.1.Queue.Waiting F] : Value) := hv6_.trans (by kernel_rfl)
   rintro v9_ ⟨rfl, _⟩ R cg d0
   have bh : Mem [] w cg ([(BK q 32 [SN, SN, SN, SN]), (BK y 32 [SL G l.1 z, SL H l.2.1 A, SL I l.2.2.1 B, SL t m.2 x]), Z, aa, ab, ac, ad, ae, af, (BK V 87 [iv d.1.Mask, SL S d.1.Stack N, SL T d.1.Queue.Slots O, SL U d.1.Queue.Waiting P]), ag] ++ ([(av ++ aw)] ++ ([(au 4)] ++ ([] ++ R)))) := d0
   rw [hs4_] at bh
   replace bh : Mem [] w cg ([(BK q 32 [SN, SN, SN, SN]), (BK y 32 [SL G l.1 z, SL H l.2.1 A, SL I l.2.2.1 B, SL t m.2 x]), Z, aa, ab, ac, ad, ae, af, (BK V 87 [iv d.1.Mask, SL S d.1.Stack N, SL T d.1.Queue.Slots O, SL U d.1.Queue.Waiting P]), ag] ++ ([(av ++ aw)] ++ ([W, X, Y] ++ ([] ++ R)))) := bh.permF (by simp)
   have d1 : Mem [] w cg [(BK q 32 [SN, SN, SN, SN]), (BK y 32 [SL G l.1 z, SL H l.2.1 A, SL I l.2.2.1 B, SL t m.2 x]), Z, aa, ab, ac, ad, ae, af, (BK V 87 [iv d.1.Mask, SL S d.1.Stack N, SL T d.1.Queue.Slots O, SL U d.1.Queue.Waiting P]), ag, av, aw, W, X, Y, R.flatten] := bh.permF (by simp)
   obtain ⟨a3, fd, a4, e6, f4, ez⟩ := bj.lens (gxIdx_spec b4).2
   have d2 := d1.cut 12 (sa := a3) (sb := fd) (sc := a4) e6 (by kernel_rfl)
   refine wE true 4 u.toNat 0 (u.toNat * 4) (f0, d9) (c.1, (plOf [(J, C), (K, D), (L, F)])) (.agg #[iv c.1.Mask, SL J c.1.Stack C, SL K c.1.Queue.Slots D, SL L c.1.Queue.Waiting F]) 11 d2 bk (gxIdx_spec b4).2 ?_
   intro bn a9 ew d3
   have d4 : Mem [] w bn [(BK q 32 [SN, SN, SN, SN]), (BK y 32 [SL G l.1 z, SL H l.2.1 A, SL I l.2.2.1 B, SL t m.2 x]), Z, aa, ab, ac, ad, ae, af, (BK V 87 [iv d.1.Mask, SL S d.1.Stack N, SL T d.1.Queue.Slots O, SL U d.1.Queue.Waiting P]), ag, a9, R.flatten, a3, W, X, Y, a4] := d3.pk [0, 1, 2, 3, 4, 5, 6, 7, 8, 9, 10, 11, 16, 12, 13, 14, 15, 18]
   have d5 : Mem [] w bn [(BK q 32 [SN, SN, SN, SN]), (BK y 32 [SL G l.1 z, SL H l.2.1 A, SL I l.2.2.1 B, SL t m.2 x]), Z, aa, ab, ac, ad, ae, af, (BK V 87 [iv d.1.Mask, SL S d.1.Stack N, SL T d.1.Queue.Slots O, SL U d.1.Queue.Waiting P]), ag, a9, R.flatten, (a3 ++ ((W ++ (X ++ (Y ++ []))) ++ a4))] := d4.regroup (by simp)
   have ex : ownD deepInterface (m.2.set u.toNat c.1) t x a9 (a3 ++ ((W ++ (X ++ (Y ++ []))) ++ a4)) := ⟨_, set_fst bd u.toNat (c.1, (plOf [(J, C), (K, D), (L, F)])), ew, (ez (c.1, (plOf [(J, C), (K, D), (L, F)])) _ (ownI_cons (i := ⟨Int, Gx.encI, _, _, _⟩) b5 (ownI_cons (i := ⟨Slot, encSlot, _, _, _⟩) b6 (ownI_cons (i := ⟨Waiter, encWaiter, _, _, _⟩) b7 ownI_nil))))⟩
   have d6 : Mem [] w bn [(BK q 32 [SN, SN, SN, SN]), (BK y 32 [SL G l.1 z, SL H l.2.1 A, SL I l.2.2.1 B, SL t m.2 x]), Z, aa, ab, ac, ad, ae, af, (BK V 87 [iv d.1.Mask, SL S d.1.Stack N, SL T d.1.Queue.Slots O, SL U d.1.Queue.Waiting P]), ag, a9, (a3 ++ ((W ++ (X ++ (Y ++ []))) ++ a4)), R.flatten] := d5.pk [0, 1, 2, 3, 4, 5, 6, 7, 8, 9, 10, 11, 13, 12]
   exact WN (ob_none (a9 ++ (a3 ++ ((W ++ (X ++ (Y ++ []))) ++ a4))) rfl ⟨rfl, a9, (a3 ++ ((W ++ (X ++ (Y ++ []))) ++ a4)), rfl, ex⟩ (show Mem [] w bn ([(BK q 32 [SN, SN, SN, SN]), (BK y 32 [SL G l.1 z, SL H l.2.1 A, SL I l.2.2.1 B, SL t m.2 x]), Z, aa, ab, ac, ad, ae, af, (BK V 87 [iv d.1.Mask, SL S d.1.Stack N, SL T d.1.Queue.Slots O, SL U d.1.Queue.Waiting P]), ag] ++ ([(a9 ++ (a3 ++ ((W ++ (X ++ (Y ++ []))) ++ a4)))] ++ ([] ++ ([] ++ R)))) from d6.permF (by simp)))
  intro au ax v10_ hb10_
  obtain ⟨rfl, az, a0, hs10_, ev⟩ := hb10_
  intro ch d7
  have bi : Mem [] w ch [(BK q 32 [SN, SN, SN, SN]), (BK y 32 [SL G l.1 z, SL H l.2.1 A, SL I l.2.2.1 B, SL t m.2 x]), Z, aa, ab, ac, ad, ae, af, (BK V 87 [iv d.1.Mask, SL S d.1.Stack N, SL T d.1.Queue.Slots O, SL U d.1.Queue.Waiting P]), ag, az, a0] := d7.permF (by simp [hs10_, SL])
  have d8 : Mem [] w ch [(BK q 32 [.slice none 0 0, .slice none 0 0, .slice none 0 0, .slice none 0 0]), (BK y 32 [.slice G l.1.length z, .slice H l.2.1.length A, .slice I l.2.2.1.length B, .slice t (m.2.set u.toNat c.1).length x]), Z, aa, ab, ac, ad, ae, af, (BK V 87 [iv d.1.Mask, .slice S d.1.Stack.length N, .slice T d.1.Queue.Slots.length O, .slice U d.1.Queue.Waiting.length P]), ag, az, a0] := by rw [@List.length_set _ m.2 u.toNat c.1]; exact bi
  refine WN (BN ?_)
  cases hm
  exact N_loop fun a ha => ⟨_, rfl, cc, bv, ac, az, a0, eu, ev, d8.pk [0, 1, 2, 3, 4, 5, 11, 12], ha.s⟩
 intro _ _ h
 exact h.elim
end Go.Proofs.YtllhajkgkghhdaaGreat
set_option linter.unusedVariables false
set_option linter.unusedSimpArgs false
set_option maxRecDepth 100000
set_option maxHeartbeats 4000000
namespace Go.Proofs.YtllhajkgkghhdaaGreat
open Go.Gx
theorem c_s_l21Step (w : World) (g : Machine) (R x) (bq : rdS encRoute w g.Routes R x) (S y) (br : rdS Gx.encB w g.Enabled S y) (T z) (bs : rdS Gx.encB w g.Raised T z) (t q) (bt : rdD deepInterface w g.Cpus t q) (b : MachStep) {r : Bool} (hm : M.s_l21Step g b = some r) :
  Calls Tryz.prog 85 #[.agg #[SL R g.Routes x, SL S g.Enabled y, SL T g.Raised z, SL t g.Cpus q], .agg #[iv b.Kind, iv b.Irq, iv b.Cpu, iv b.Value]] w fun e w' => e = .returned (.bool r) ∧ Mem [] w w' [] := by
 unfold M.s_l21Step at hm
 refine cE Tryz.func85 ?_
 have M0 := Mem.refl [] w
 refine QA (wN (CE 32 [SL R g.Routes x, SL S g.Enabled y, SL T g.Raised z, SL t g.Cpus q]) M0 fun v bu ae => wN (CE 51 [iv b.Kind, iv b.Irq, iv b.Cpu, iv b.Value]) ae fun c m u => MW 1 (NA (MW 1 (wV (iv b.Cpu) m (eL false 1 2 (u.blk 1 rfl)) (MW 1 (wV (SL t g.Cpus q) m (eL false 1 3 (u.blk 0 rfl)) (MW 2 (GD hm fun i a8 hm => WD (c_s_l1In m b.Cpu 0 (w64 ((g.Cpus.length : Int) - 1)) a8) u fun f j => MW 1 (NB (MW 1 (wV (iv b.Kind) f (eL false 1 0 (j.blk 1 rfl)) (NO (GB (QA (MW 2 (NO (GT hm (fun A hm => ?_) fun A hm => ?_)))))))))))))))))
 ·refine GS (GD hm fun U a0 au => G_meet (fun a w' => Mem [] w w' [] ∧ Sat Tryz.f85.ntmps [(4, .bool U)] a) ?_ ?_)
  ·have hm := a0
   refine GR (MW 1 (wV (iv b.Irq) f (eL false 1 1 (j.blk 1 rfl)) (GD hm fun be a9 hm => WD (c_s_l6Irq f b.Irq a9) j fun k n => wR 1 [(3, pB c 0), (20, .bool be)] k ?_)))
   rcases gx_bif hm with ⟨B, hm⟩ | ⟨B, hm⟩
   ·refine wK 20 true B (MW 1 (wV (iv b.Cpu) k (eL false 1 2 (n.blk 1 rfl)) (wR 3 [(3, pB c 0), (25, .bool (b.Cpu == 0))] k ?_)))
    rcases gx_bif hm with ⟨C, hm⟩ | ⟨C, hm⟩
    ·refine wK 25 true C (MW 1 (wV (iv b.Value) k (eL false 1 3 (n.blk 1 rfl)) (MW 3 (WN ?_))))
     obtain rfl := HS hm
     exact NM fun a ha => ⟨n.pk [], ha.s⟩
    refine wK 25 false C (MW 5 (WN ?_))
    obtain rfl := HS hm
    exact NM fun a ha => ⟨n.pk [], ha.s⟩
   refine wK 20 false B (wR 10 [(4, .bool false)] k (WN ?_))
   obtain rfl := HS hm
   exact NM fun a ha => ⟨n.pk [], ha.s⟩
  intro bk bv ⟨af, am⟩
  refine N_use am ?_
  have hm := au
  refine TN (G_ret (BR (TR ?_)))
  obtain rfl := HS hm
  exact RA [.bool U] (⟨rfl, af.pk []⟩)
 refine QA (MW 2 (NO (GT hm (fun D hm => ?_) fun D hm => ?_)))
 ·refine GS (GD hm fun V a3 av => G_meet (fun a w' => Mem [] w w' [] ∧ Sat Tryz.f85.ntmps [(4, .bool V)] a) ?_ ?_)
  ·have hm := a3
   refine GR (MW 1 (wV (iv b.Irq) f (eL false 1 1 (j.blk 1 rfl)) (wR 2 [(3, pB c 0), (35, .bool (b.Irq == 0))] f ?_)))
   rcases gx_bif hm with ⟨E, hm⟩ | ⟨E, hm⟩
   ·refine wK 35 true E (MW 1 (wV (iv b.Cpu) f (eL false 1 2 (j.blk 1 rfl)) (wR 3 [(3, pB c 0), (40, .bool (b.Cpu == 0))] f ?_)))
    rcases gx_bif hm with ⟨F, hm⟩ | ⟨F, hm⟩
    ·refine wK 40 true F (MW 1 (wV (iv b.Value) f (eL false 1 3 (j.blk 1 rfl)) (MW 3 (WN ?_))))
     obtain rfl := HS hm
     exact NM fun a ha => ⟨j.pk [], ha.s⟩
    refine wK 40 false F (MW 5 (WN ?_))
    obtain rfl := HS hm
    exact NM fun a ha => ⟨j.pk [], ha.s⟩
   refine wK 35 false E (wR 10 [(4, .bool false)] f (WN ?_))
   obtain rfl := HS hm
   exact NM fun a ha => ⟨j.pk [], ha.s⟩
  intro bl bw ⟨ag, an⟩
  refine N_use an ?_
  have hm := av
  refine TN (G_ret (BR (TR ?_)))
  obtain rfl := HS hm
  exact RA [.bool V] (⟨rfl, ag.pk []⟩)
 refine QB (MW 2 (NO (GD hm fun bd a4 aw => G_meet (fun a w' => Mem [] w w' [(BK c 51 [iv b.Kind, iv b.Irq, iv b.Cpu, iv b.Value])] ∧ Sat Tryz.f85.ntmps [(3, pB c 0), (5, .bool i), (14, iv b.Kind), (45, .bool bd)] a) ?_ ?_)))
 ·have hm := a4
  refine GT hm (fun G hm => ?_) fun G hm => ?_
  ·refine GK ?_
   obtain rfl := HS hm
   exact NM fun a ha => ⟨j.pk [1], ha.s⟩
  refine GR (MW 2 (WN ?_))
  obtain rfl := HS hm
  exact NM fun a ha => ⟨j.pk [1], ha.s⟩
 intro bm d ⟨h, ao⟩
 refine N_use ao ?_
 have hm := aw
 refine TN (GT hm (fun H hm => ?_) fun H hm => ?_)
 ·refine GS (GD hm fun W a5 ax => G_meet (fun a w' => Mem [] w w' [] ∧ Sat Tryz.f85.ntmps [(4, .bool W)] a) ?_ ?_)
  ·have hm := a5
   refine GR (MW 1 (wV (iv b.Irq) d (eL false 1 1 (h.blk 0 rfl)) (wR 2 [(3, pB c 0), (5, .bool i), (51, .bool (b.Irq == 0))] d ?_)))
   rcases gx_bif hm with ⟨I, hm⟩ | ⟨I, hm⟩
   ·refine wK 51 true I (wR 3 [(3, pB c 0), (54, .bool i)] d ?_)
    rcases gx_bif hm with ⟨J, hm⟩ | ⟨J, hm⟩
    ·refine wK 54 true J (MW 1 (wV (iv b.Value) d (eL false 1 3 (h.blk 0 rfl)) (MW 3 (WN ?_))))
     obtain rfl := HS hm
     exact NM fun a ha => ⟨h.pk [], ha.s⟩
    refine wK 54 false J (MW 5 (WN ?_))
    obtain rfl := HS hm
    exact NM fun a ha => ⟨h.pk [], ha.s⟩
   refine wK 51 false I (wR 8 [(4, .bool false)] d (WN ?_))
   obtain rfl := HS hm
   exact NM fun a ha => ⟨h.pk [], ha.s⟩
  intro bn bx ⟨ah, ap⟩
  refine N_use ap ?_
  have hm := ax
  refine TN (G_ret (BR (TR ?_)))
  obtain rfl := HS hm
  exact RA [.bool W] (⟨rfl, ah.pk []⟩)
 refine QA (MW 2 (NO (GT hm (fun K hm => ?_) fun K hm => ?_)))
 ·refine GS (GD hm fun X a6 ay => G_meet (fun a w' => Mem [] w w' [] ∧ Sat Tryz.f85.ntmps [(4, .bool X)] a) ?_ ?_)
  ·have hm := a6
   refine GR (MW 1 (wV (iv b.Irq) d (eL false 1 1 (h.blk 0 rfl)) (wR 2 [(3, pB c 0), (5, .bool i), (64, .bool (b.Irq == 0))] d ?_)))
   rcases gx_bif hm with ⟨L, hm⟩ | ⟨L, hm⟩
   ·refine wK 64 true L (wR 3 [(3, pB c 0), (67, .bool i)] d ?_)
    rcases gx_bif hm with ⟨N, hm⟩ | ⟨N, hm⟩
    ·refine wK 67 true N (MW 1 (wV (iv b.Value) d (eL false 1 3 (h.blk 0 rfl)) (GD hm fun bf ba hm => WD (c_s_l1In d b.Value 0 16 ba) h fun bi ai => MW 2 (WN ?_))))
     obtain rfl := HS hm
     exact NM fun a ha => ⟨ai.pk [], ha.s⟩
    refine wK 67 false N (MW 5 (WN ?_))
    obtain rfl := HS hm
    exact NM fun a ha => ⟨h.pk [], ha.s⟩
   refine wK 64 false L (wR 8 [(4, .bool false)] d (WN ?_))
   obtain rfl := HS hm
   exact NM fun a ha => ⟨h.pk [], ha.s⟩
  intro bo bz ⟨aj, aq⟩
  refine N_use aq ?_
  have hm := ay
  refine TN (G_ret (BR (TR ?_)))
  obtain rfl := HS hm
  exact RA [.bool X] (⟨rfl, aj.pk []⟩)
 refine GK (BN (TN (GS (GD hm fun Y a7 az => G_meet (fun a w' => Mem [] w w' [] ∧ Sat Tryz.f85.ntmps [(4, .bool Y)] a) ?_ ?_))))
 ·have hm := a7
  refine GR (MW 1 (wV (iv b.Kind) d (eL false 1 0 (h.blk 0 rfl)) (wR 2 [(3, pB c 0), (75, .bool (b.Kind == 6))] d ?_)))
  rcases gx_bif hm with ⟨O, hm⟩ | ⟨O, hm⟩
  ·refine wK 75 true O (MW 1 (wV (iv b.Irq) d (eL false 1 1 (h.blk 0 rfl)) (GD hm fun bg bb hm => WD (c_s_l6Irq d b.Irq bb) h fun l o => wR 2 [(3, pB c 0), (80, .bool bg)] l ?_)))
   rcases gx_bif hm with ⟨P, hm⟩ | ⟨P, hm⟩
   ·refine wK 80 true P (MW 1 (wV (iv b.Cpu) l (eL false 1 2 (o.blk 0 rfl)) (wR 3 [(3, pB c 0), (85, .bool (b.Cpu == 0))] l ?_)))
    rcases gx_bif hm with ⟨Q, hm⟩ | ⟨Q, hm⟩
    ·refine wK 85 true Q (MW 1 (wV (iv b.Value) l (eL false 1 3 (o.blk 0 rfl)) (GD hm fun bh bc hm => WD (c_s_l1In l b.Value 0 1 bc) o fun bj ak => MW 2 (WN ?_))))
     obtain rfl := HS hm
     exact NM fun a ha => ⟨ak.pk [], ha.s⟩
    refine wK 85 false Q (MW 5 (WN ?_))
    obtain rfl := HS hm
    exact NM fun a ha => ⟨o.pk [], ha.s⟩
   refine wK 80 false P (wR 10 [(4, .bool false)] l (WN ?_))
   obtain rfl := HS hm
   exact NM fun a ha => ⟨o.pk [], ha.s⟩
  refine wK 75 false O (MW 15 (WN ?_))
  obtain rfl := HS hm
  exact NM fun a ha => ⟨h.pk [], ha.s⟩
 intro bp b0 ⟨al, ar⟩
 refine N_use ar ?_
 have hm := az
 refine TN (G_ret ?_)
 obtain rfl := HS hm
 exact RA [.bool Y] (⟨rfl, al.pk []⟩)
theorem c_s_StepMachine (w : World) (d : Machine) (n i) (Q : rdS encRoute w d.Routes n i) (q j) (R : rdS Gx.encB w d.Enabled q j) (t l) (S : rdS Gx.encB w d.Raised t l) (u m) (T : rdD deepInterface w d.Cpus u m) (f : MachStep) {r : Machine × Int × Bool} (hm : M.s_StepMachine d f = some r) :
  Calls Tryz.prog 30 #[.agg #[SL n d.Routes i, SL q d.Enabled j, SL t d.Raised l, SL u d.Cpus m], .agg #[iv f.Kind, iv f.Irq, iv f.Cpu, iv f.Value]] w fun e w' => ∃ af ab aj ag ac ak ah ad al ai ae am an, e = .returned (.tuple #[.agg #[SL af r.1.Routes ab, SL ag r.1.Enabled ac, SL ah r.1.Raised ad, SL ai r.1.Cpus ae], iv r.2.1, .bool r.2.2]) ∧ ownS encRoute r.1.Routes af ab aj ∧ ownS Gx.encB r.1.Enabled ag ac ak ∧ ownS Gx.encB r.1.Raised ah ad al ∧ ownD deepInterface r.1.Cpus ai ae am an ∧ Mem [] w w' [aj, ak, al, am, an] := by
 unfold M.s_StepMachine at hm
 refine cE Tryz.func30 ?_
 have M0 := Mem.refl [] w
 refine QA (wN (CE 32 [SL n d.Routes i, SL q d.Enabled j, SL t d.Raised l, SL u d.Cpus m]) M0 fun J bo ar => wN (CE 51 [iv f.Kind, iv f.Irq, iv f.Cpu, iv f.Value]) ar fun K bp au => wN (CE 32 [SN, SN, SN, SN]) au fun h W I => MW 2 (NE (GS (GD hm fun ba a0 az => G_meet (fun a w' => Mem [] w w' [(BK J 32 [SL n d.Routes i, SL q d.Enabled j, SL t d.Raised l, SL u d.Cpus m]), (BK K 51 [iv f.Kind, iv f.Irq, iv f.Cpu, iv f.Value]), (BK h 32 [SN, SN, SN, SN])] ∧ Sat Tryz.f30.ntmps [(2, pB J 0), (3, pB K 0), (4, pB h 0), (18, .bool ba)] a) ?_ ?_))))
 ·have hm := a0
  refine GR (wV (.agg #[SL n d.Routes i, SL q d.Enabled j, SL t d.Raised l, SL u d.Cpus m]) W (eL true 4 0 (I.blk 0 rfl)) (GD hm fun bb a7 hm => WD (c_s_l21Good W d n i (Q.mem0 I) q j (R.mem0 I) t l (S.mem0 I) u m (T.mem0 I) a7) I fun L F => wR 2 [(2, pB J 0), (3, pB K 0), (4, pB h 0), (13, .bool (!bb))] L ?_))
  rcases gx_bif hm with ⟨U, hm⟩ | ⟨U, hm⟩
  ·refine wK 13 true U (MW 5 (WN ?_))
   obtain rfl := HS hm
   exact NM fun a ha => ⟨F.pk [0, 1, 2], ha.s⟩
  refine wK 13 false U (wV (.agg #[SL n d.Routes i, SL q d.Enabled j, SL t d.Raised l, SL u d.Cpus m]) L (eL true 4 0 (F.blk 0 rfl)) (wV (.agg #[iv f.Kind, iv f.Irq, iv f.Cpu, iv f.Value]) L (eL true 4 0 (F.blk 1 rfl)) (GD hm fun bc a8 hm => WD (c_s_l21Step L d n i (Q.mem0 F) q j (R.mem0 F) t l (S.mem0 F) u m (T.mem0 F) f a8) F fun bi av => MW 2 (WN ?_))))
  obtain rfl := HS hm
  exact NM fun a ha => ⟨av.pk [0, 1, 2], ha.s⟩
 intro bn O ⟨G, ay⟩
 refine N_use ay ?_
 have hm := az
 refine TN (GT hm (fun V hm => ?_) fun V hm => ?_)
 ·refine QA (MW 1 (wS true 4 0 (.agg #[SN, SN, SN, SN]) 2 [SN, SN, SN, SN] G rfl fun bj X => MW 2 (ND ?_)))
  obtain rfl := HS hm
  exact N_ret [.agg #[SN, SN, SN, SN], iv 0, .bool false] (RX true 4 0 (X.blk 2 rfl) (rC (rC RVs_nil))) (⟨none, 0, [], none, 0, [], none, 0, [], none, 0, [], [], rfl, ownS_nil, ownS_nil, ownS_nil, ownD_nil, X.pk [100000, 100001, 100002, 100003, 100004]⟩)
 refine KA (wV (.agg #[SL n d.Routes i, SL q d.Enabled j, SL t d.Raised l, SL u d.Cpus m]) O (eL true 4 0 (G.blk 0 rfl)) (wV (.agg #[iv f.Kind, iv f.Irq, iv f.Cpu, iv f.Value]) O (eL true 4 0 (G.blk 1 rfl)) (GD hm fun c a9 hm => WC ((c_s_l21Make O d n i (Q.mem0 G) q j (R.mem0 G) t l (S.mem0 G) u m (T.mem0 G) f a9).mono ?_))))
 rintro e_ bk ⟨B, x, bd, C, y, be, D, z, bf, E, A, bg, bh, rfl, a3, a4, a5, a6, aq⟩
 have aw := G.call aq
 refine ⟨_, rfl, ?_⟩
 refine MW 4 (wN (CE 32 [SN, SN, SN, SN]) aw fun aa bq ax => wS true 4 0 (.agg #[SL B c.1.Routes x, SL C c.1.Enabled y, SL D c.1.Raised z, SL E c.1.Cpus A]) 8 [SL B c.1.Routes x, SL C c.1.Enabled y, SL D c.1.Raised z, SL E c.1.Cpus A] ax rfl fun N P => MW 2 (NB (wR 2 [(4, pB h 0), (7, pB aa 0), (8, iv c.2.1), (28, .bool (!c.2.2))] N (NO (GT hm (fun H hm => ?_) fun H hm => ?_)))))
 ·refine QA (MW 1 (wS true 4 0 (.agg #[SN, SN, SN, SN]) 2 [SN, SN, SN, SN] P rfl fun bl Y => MW 2 (ND ?_)))
  obtain rfl := HS hm
  exact N_ret [.agg #[SN, SN, SN, SN], iv 0, .bool false] (RX true 4 0 (Y.blk 2 rfl) (rC (rC RVs_nil))) (⟨none, 0, [], none, 0, [], none, 0, [], none, 0, [], [], rfl, ownS_nil, ownS_nil, ownS_nil, ownD_nil, Y.pk [100000, 100001, 100002, 100003, 100004]⟩)
 refine KA (wV (.agg #[SL B c.1.Routes x, SL C c.1.Enabled y, SL D c.1.Raised z, SL E c.1.Cpus A]) N (eL true 4 0 (P.blk 8 rfl)) (MW 1 (wS true 4 0 (.agg #[SL B c.1.Routes x, SL C c.1.Enabled y, SL D c.1.Raised z, SL E c.1.Cpus A]) 2 [SL B c.1.Routes x, SL C c.1.Enabled y, SL D c.1.Raised z, SL E c.1.Cpus A] P rfl fun bm Z => MW 2 (NC ?_))))
 obtain rfl := HS hm
 exact N_ret [.agg #[SL B c.1.Routes x, SL C c.1.Enabled y, SL D c.1.Raised z, SL E c.1.Cpus A], iv c.2.1, .bool true] (RX true 4 0 (Z.blk 2 rfl) (rC (rC RVs_nil))) (⟨B, x, bd, C, y, be, D, z, bf, E, A, bg, bh, rfl, (a3 (by simpa using H)), (a4 (by simpa using H)), (a5 (by simpa using H)), (a6 (by simpa using H)), Z.pk [3, 4, 5, 6, 7]⟩)
theorem c_i_isMachStep (w : World) (c : Machine) (n j) (T : rdS encRoute w c.Routes n j) (o k) (U : rdS Gx.encB w c.Enabled o k) (q l) (V : rdS Gx.encB w c.Raised q l) (t m) (W : rdD deepInterface w c.Cpus t m) (b : MachStep) {r : Bool} (hm : M.i_isMachStep c b = some r) :
  Calls Tryz.prog 86 #[.agg #[SL n c.Routes j, SL o c.Enabled k, SL q c.Raised l, SL t c.Cpus m], .agg #[iv b.Kind, iv b.Irq, iv b.Cpu, iv b.Value]] w fun e w' => e = .returned (.bool r) ∧ Mem [] w w' [] := by
 unfold M.i_isMachStep at hm
 refine cE Tryz.func86 ?_
 have M0 := Mem.refl [] w
 refine QA (wN (CE 32 [SL n c.Routes j, SL o c.Enabled k, SL q c.Raised l, SL t c.Cpus m]) M0 fun i br ah => wN (CE 51 [iv b.Kind, iv b.Irq, iv b.Cpu, iv b.Value]) ah fun d h x => MW 1 (NB (MW 1 (wV (iv b.Kind) h (eL false 1 0 (x.blk 1 rfl)) (NO (GB (QA (MW 2 (NO (GT hm (fun E hm => ?_) fun E hm => ?_))))))))))
 ·refine GS (GD hm fun X a0 av => G_meet (fun a w' => Mem [] w w' [] ∧ Sat Tryz.f86.ntmps [(4, .bool X)] a) ?_ ?_)
  ·have hm := a0
   refine GR (MW 1 (wV (iv b.Irq) h (eL false 1 1 (x.blk 1 rfl)) (GD hm fun be a7 hm => WD (c_i_isIrq h b.Irq a7) x fun u y => wR 1 [(3, pB d 0), (12, .bool be)] u ?_)))
   rcases gx_bif hm with ⟨F, hm⟩ | ⟨F, hm⟩
   ·refine wK 12 true F (MW 1 (wV (iv b.Cpu) u (eL false 1 2 (y.blk 1 rfl)) (wR 3 [(3, pB d 0), (17, .bool (b.Cpu == 0))] u ?_)))
    rcases gx_bif hm with ⟨G, hm⟩ | ⟨G, hm⟩
    ·refine wK 17 true G (MW 1 (wV (iv b.Value) u (eL false 1 3 (y.blk 1 rfl)) (MW 3 (WN ?_))))
     obtain rfl := HS hm
     exact NM fun a ha => ⟨y.pk [], ha.s⟩
    refine wK 17 false G (MW 5 (WN ?_))
    obtain rfl := HS hm
    exact NM fun a ha => ⟨y.pk [], ha.s⟩
   refine wK 12 false F (wR 10 [(4, .bool false)] u (WN ?_))
   obtain rfl := HS hm
   exact NM fun a ha => ⟨y.pk [], ha.s⟩
  intro bm bs ⟨ai, ao⟩
  refine N_use ao ?_
  have hm := av
  refine TN (G_ret (BR (TR ?_)))
  obtain rfl := HS hm
  exact RA [.bool X] (⟨rfl, ai.pk []⟩)
 refine QA (MW 2 (NO (GT hm (fun H hm => ?_) fun H hm => ?_)))
 ·refine QA (wV (.agg #[iv b.Kind, iv b.Irq, iv b.Cpu, iv b.Value]) h (eL true 4 0 (x.blk 1 rfl)) (MW 1 (wV (.bool ((b.Kind == 2) && ((b.Irq == 0) && ((b.Cpu == 0) && ((b.Value == 0) && true))))) h (E_eqAgg _ _ _ _ [iv b.Kind, iv b.Irq, iv b.Cpu, iv b.Value] [iv 2, iv 0, iv 0, iv 0] ((b.Kind == 2) && ((b.Irq == 0) && ((b.Cpu == 0) && ((b.Value == 0) && true)))) rfl (by kernel_rfl) (by kernel_rfl) (by kernel_rfl) (by kernel_rfl) (by kernel_rfl) (by kernel_rfl)) (MW 1 (NC (BR (TR ?_)))))))
  cases hm
  exact RA [.bool ((b.Kind == 2) && ((b.Irq == 0) && ((b.Cpu == 0) && ((b.Value == 0) && true))))] (⟨rfl, x.pk []⟩)
 refine QB (MW 2 (NO (GD hm fun bd a3 aw => G_meet (fun a w' => Mem [] w w' [(BK i 32 [SL n c.Routes j, SL o c.Enabled k, SL q c.Raised l, SL t c.Cpus m]), (BK d 51 [iv b.Kind, iv b.Irq, iv b.Cpu, iv b.Value])] ∧ Sat Tryz.f86.ntmps [(2, pB i 0), (3, pB d 0), (6, iv b.Kind), (27, .bool bd)] a) ?_ ?_)))
 ·have hm := a3
  refine GT hm (fun I hm => ?_) fun I hm => ?_
  ·refine GK ?_
   obtain rfl := HS hm
   exact NM fun a ha => ⟨x.pk [0, 1], ha.s⟩
  refine GR (MW 2 (WN ?_))
  obtain rfl := HS hm
  exact NM fun a ha => ⟨x.pk [0, 1], ha.s⟩
 intro bn f ⟨g, ap⟩
 refine N_use ap ?_
 have hm := aw
 refine TN (GT hm (fun J hm => ?_) fun J hm => ?_)
 ·refine GS (GD hm fun Y a4 ax => G_meet (fun a w' => Mem [] w w' [] ∧ Sat Tryz.f86.ntmps [(4, .bool Y)] a) ?_ ?_)
  ·have hm := a4
   refine GR (MW 1 (wV (iv b.Irq) f (eL false 1 1 (g.blk 1 rfl)) (wR 2 [(2, pB i 0), (3, pB d 0), (33, .bool (b.Irq == 0))] f ?_)))
   rcases gx_bif hm with ⟨K, hm⟩ | ⟨K, hm⟩
   ·refine wK 33 true K (wV (.agg #[SL n c.Routes j, SL o c.Enabled k, SL q c.Raised l, SL t c.Cpus m]) f (eL true 4 0 (g.blk 0 rfl)) (MW 1 (wV (iv b.Cpu) f (eL false 1 2 (g.blk 1 rfl)) (GD hm fun bf a8 hm => WD (c_i_Machine_hasCpu f c n j (T.mem0 g) o k (U.mem0 g) q l (V.mem0 g) t m (W.mem0 g) b.Cpu a8) g fun A C => wR 2 [(3, pB d 0), (39, .bool bf)] A ?_))))
    rcases gx_bif hm with ⟨L, hm⟩ | ⟨L, hm⟩
    ·refine wK 39 true L (MW 1 (wV (iv b.Value) A (eL false 1 3 (C.blk 1 rfl)) (MW 3 (WN ?_))))
     obtain rfl := HS hm
     exact NM fun a ha => ⟨C.pk [], ha.s⟩
    refine wK 39 false L (MW 5 (WN ?_))
    obtain rfl := HS hm
    exact NM fun a ha => ⟨C.pk [], ha.s⟩
   refine wK 33 false K (wR 11 [(4, .bool false)] f (WN ?_))
   obtain rfl := HS hm
   exact NM fun a ha => ⟨g.pk [], ha.s⟩
  intro bo bt ⟨aj, aq⟩
  refine N_use aq ?_
  have hm := ax
  refine TN (G_ret (BR (TR ?_)))
  obtain rfl := HS hm
  exact RA [.bool Y] (⟨rfl, aj.pk []⟩)
 refine QA (MW 2 (NO (GT hm (fun N hm => ?_) fun N hm => ?_)))
 ·refine GS (GD hm fun Z a5 ay => G_meet (fun a w' => Mem [] w w' [] ∧ Sat Tryz.f86.ntmps [(4, .bool Z)] a) ?_ ?_)
  ·have hm := a5
   refine GR (MW 1 (wV (iv b.Irq) f (eL false 1 1 (g.blk 1 rfl)) (wR 2 [(2, pB i 0), (3, pB d 0), (49, .bool (b.Irq == 0))] f ?_)))
   rcases gx_bif hm with ⟨O, hm⟩ | ⟨O, hm⟩
   ·refine wK 49 true O (wV (.agg #[SL n c.Routes j, SL o c.Enabled k, SL q c.Raised l, SL t c.Cpus m]) f (eL true 4 0 (g.blk 0 rfl)) (MW 1 (wV (iv b.Cpu) f (eL false 1 2 (g.blk 1 rfl)) (GD hm fun bg a9 hm => WD (c_i_Machine_hasCpu f c n j (T.mem0 g) o k (U.mem0 g) q l (V.mem0 g) t m (W.mem0 g) b.Cpu a9) g fun B D => wR 2 [(3, pB d 0), (55, .bool bg)] B ?_))))
    rcases gx_bif hm with ⟨P, hm⟩ | ⟨P, hm⟩
    ·refine wK 55 true P (MW 1 (wV (iv b.Value) B (eL false 1 3 (D.blk 1 rfl)) (GD hm fun bh ba hm => WD (c_i_isMask B b.Value ba) D fun bk ak => MW 2 (WN ?_))))
     obtain rfl := HS hm
     exact NM fun a ha => ⟨ak.pk [], ha.s⟩
    refine wK 55 false P (MW 5 (WN ?_))
    obtain rfl := HS hm
    exact NM fun a ha => ⟨D.pk [], ha.s⟩
   refine wK 49 false O (wR 11 [(4, .bool false)] f (WN ?_))
   obtain rfl := HS hm
   exact NM fun a ha => ⟨g.pk [], ha.s⟩
  intro bp bu ⟨al, ar⟩
  refine N_use ar ?_
  have hm := ay
  refine TN (G_ret (BR (TR ?_)))
  obtain rfl := HS hm
  exact RA [.bool Z] (⟨rfl, al.pk []⟩)
 refine QA (MW 2 (NO (GT hm (fun Q hm => ?_) fun Q hm => ?_)))
 ·refine GS (GD hm fun aa a6 az => G_meet (fun a w' => Mem [] w w' [] ∧ Sat Tryz.f86.ntmps [(4, .bool aa)] a) ?_ ?_)
  ·have hm := a6
   refine GR (MW 1 (wV (iv b.Irq) f (eL false 1 1 (g.blk 1 rfl)) (GD hm fun bi bb hm => WD (c_i_isIrq f b.Irq bb) g fun v z => wR 1 [(3, pB d 0), (65, .bool bi)] v ?_)))
   rcases gx_bif hm with ⟨R, hm⟩ | ⟨R, hm⟩
   ·refine wK 65 true R (MW 1 (wV (iv b.Cpu) v (eL false 1 2 (z.blk 1 rfl)) (wR 3 [(3, pB d 0), (70, .bool (b.Cpu == 0))] v ?_)))
    rcases gx_bif hm with ⟨S, hm⟩ | ⟨S, hm⟩
    ·refine wK 70 true S (MW 1 (wV (iv b.Value) v (eL false 1 3 (z.blk 1 rfl)) (GD hm fun bj bc hm => WD (c_i_inside v b.Value 0 1 bc) z fun bl am => MW 2 (WN ?_))))
     obtain rfl := HS hm
     exact NM fun a ha => ⟨am.pk [], ha.s⟩
    refine wK 70 false S (MW 5 (WN ?_))
    obtain rfl := HS hm
    exact NM fun a ha => ⟨z.pk [], ha.s⟩
   refine wK 65 false R (wR 10 [(4, .bool false)] v (WN ?_))
   obtain rfl := HS hm
   exact NM fun a ha => ⟨z.pk [], ha.s⟩
  intro bq bv ⟨an, au⟩
  refine N_use au ?_
  have hm := az
  refine TN (G_ret (BR (TR ?_)))
  obtain rfl := HS hm
  exact RA [.bool aa] (⟨rfl, an.pk []⟩)
 refine GK (BN (NF (MW 1 (NC ?_))))
 obtain rfl := HS hm
 exact RA [.bool false] (⟨rfl, g.pk []⟩)
end Go.Proofs.YtllhajkgkghhdaaGreat
set_option linter.unusedVariables false
set_option linter.unusedSimpArgs false
set_option maxRecDepth 100000
set_option maxHeartbeats 4000000
namespace Go.Proofs.YtllhajkgkghhdaaGreat
open Go.Gx
theorem c_i_stepMachine (w : World) (l : Machine) (U S) (hd : rdS encRoute w l.Routes U S) (V T) (he : rdS Gx.encB w l.Enabled V T) (L O) (c5 : rdS Gx.encB w l.Raised L O) (z F) (c6 : rdD deepInterface w l.Cpus z F) (c : MachStep) {r : Machine × Int × Bool} (hm : M.i_stepMachine l c = some r) :
  Calls Tryz.prog 87 #[.agg #[SL U l.Routes S, SL V l.Enabled T, SL L l.Raised O, SL z l.Cpus F], .agg #[iv c.Kind, iv c.Irq, iv c.Cpu, iv c.Value]] w fun e w' => ∃ e0 ei e4 e1 ej e5 e2 ek e6 e3 el e7 e8, e = .returned (.tuple #[.agg #[SL e0 r.1.Routes ei, SL e1 r.1.Enabled ej, SL e2 r.1.Raised ek, SL e3 r.1.Cpus el], iv r.2.1, .bool r.2.2]) ∧ ownS encRoute r.1.Routes e0 ei e4 ∧ ownS Gx.encB r.1.Enabled e1 ej e5 ∧ ownS Gx.encB r.1.Raised e2 ek e6 ∧ ownD deepInterface r.1.Cpus e3 el e7 e8 ∧ Mem [] w w' [e4, e5, e6, e7, e8] := by
 unfold M.i_stepMachine at hm
 refine cE Tryz.func87 ?_
 have M0 := Mem.refl [] w
 refine QA (wN (CE 32 [SL U l.Routes S, SL V l.Enabled T, SL L l.Raised O, SL z l.Cpus F]) M0 fun C k3 fj => wN (CE 51 [iv c.Kind, iv c.Irq, iv c.Cpu, iv c.Value]) fj fun u k4 fk => wN (CE 32 [SN, SN, SN, SN]) fk fun x dx bo => MW 2 (NA (wV (.agg #[SL U l.Routes S, SL V l.Enabled T, SL L l.Raised O, SL z l.Cpus F]) dx (eL true 4 0 (bo.blk 0 rfl)) (GD hm fun d i0 hm => WC ((c_i_newMachine dx l U S (hd.mem0 bo) V T (he.mem0 bo) L O (c5.mem0 bo) z F (c6.mem0 bo) i0).mono ?_)))))
 rintro e_ k5 ⟨N, I, P, A, B, Q, E, G, W, t, y, ab, X, rfl, dh, bc, bu, bh, ff⟩
 have fl := bo.call ff
 refine ⟨_, rfl, ?_⟩
 refine wN (CE 32 [SN, SN, SN, SN]) fl fun q k6 fm => wS true 4 0 (.agg #[SL N d.Routes I, SL A d.Enabled B, SL E d.Raised G, SL t d.Cpus y]) 8 [SL N d.Routes I, SL A d.Enabled B, SL E d.Raised G, SL t d.Cpus y] fm rfl fun H aa => MW 2 (NB (MW 1 (wV (iv c.Kind) H (eL false 1 0 (aa.blk 1 rfl)) (NO (GB (QA (MW 2 (NO (GD hm fun D hv hp => G_meet (fun a w' => ∃ a8 a3 cf a9 a4 cg ba a5 ch bb a6 ci cj e9 fa fb fc, ownS encRoute D.2.2.1 a8 a3 cf ∧ ownS Gx.encB D.2.2.2.1 a9 a4 cg ∧ ownS Gx.encB D.2.2.2.2.1 ba a5 ch ∧ ownD deepInterface D.2.2.2.2.2.1 bb a6 ci cj ∧ ownS Gx.encB D.2.2.2.2.2.2.1 A B e9 ∧ ownS Gx.encB D.2.2.2.2.2.2.2.1 E G fa ∧ ownD deepInterface D.2.2.2.2.2.2.2.2 t y fb fc ∧ Mem [] w w' [(BK x 32 [SN, SN, SN, SN]), (BK q 32 [SL a8 D.2.2.1 a3, SL a9 D.2.2.2.1 a4, SL ba D.2.2.2.2.1 a5, SL bb D.2.2.2.2.2.1 a6]), cf, cg, ch, ci, cj] ∧ Sat Tryz.f87.ntmps [(4, pB x 0), (7, pB q 0), (8, iv D.1), (9, .bool D.2.1)] a) ?_ ?_)))))))))
 ·have hm := hv
  refine GT hm (fun c7 hm => ?_) fun c7 hm => ?_
  ·refine QA (MW 1 (wV (SL L l.Raised O) H (eL false 1 2 (aa.blk 0 rfl)) (MW 1 (wV (iv c.Irq) H (eL false 1 1 (aa.blk 1 rfl)) (GD hm fun c1 eu hm => wV (elemP L (c.Irq.toNat * 1)) H (eI (c5.mem0 aa) rfl eu) (wV (.bool c1) H (eE false 1 0 (c.Irq.toNat * 1) (c5.mem0 aa) eu) (MW 2 (NO (GR (MW 1 (wV (SL E d.Raised G) H (eL false 1 2 (aa.blk 8 rfl)) (MW 1 (wV (iv c.Irq) H (eL false 1 1 (aa.blk 1 rfl)) (GD hm fun km ev hm => wV (elemP E (c.Irq.toNat * 1)) H (eI (bu.r aa 5) rfl ev) (wE false 1 c.Irq.toNat 0 (c.Irq.toNat * 1) km true (.bool true) 5 aa bu (gxIdx_spec ev).2 fun jm ds em fn => LX 24 E G d.Raised c.Irq.toNat true ?_)))))))))))))))
   have fo : Mem [] w jm [(BK C 32 [.slice U l.Routes.length S, .slice V l.Enabled.length T, .slice L l.Raised.length O, .slice z l.Cpus.length F]), (BK u 51 [iv c.Kind, iv c.Irq, iv c.Cpu, iv c.Value]), (BK x 32 [.slice none 0 0, .slice none 0 0, .slice none 0 0, .slice none 0 0]), P, Q, ds, ab, X, (BK q 32 [.slice N d.Routes.length I, .slice A d.Enabled.length B, .slice E (d.Raised.set c.Irq.toNat true).length G, .slice t d.Cpus.length y])] := by rw [@List.length_set _ d.Raised c.Irq.toNat true]; exact fn
   refine WN ?_
   obtain rfl := HS hm
   exact NM fun a ha => ⟨N, I, P, A, B, Q, E, G, ds, t, y, ab, X, Q, ds, ab, X, dh, bc, em, bh, bc, em, bh, fo.pk [2, 8, 3, 4, 5, 6, 7], ha.s⟩
  refine QA (MW 2 (NO (GD hm fun a7 h0 hq => G_meet (fun a w' => ∃ cb b5 ck cc b6 cl cd b7 cm ce b8 cn co dt du dv, ownS encRoute a7.2.2.1 cb b5 ck ∧ ownS Gx.encB a7.2.2.2.1 cc b6 cl ∧ ownS Gx.encB a7.2.2.2.2.1 cd b7 cm ∧ ownD deepInterface a7.2.2.2.2.2.1 ce b8 cn co ∧ ownS Gx.encB a7.2.2.2.2.2.2.1 A B dt ∧ ownD deepInterface a7.2.2.2.2.2.2.2 t y du dv ∧ Mem [] w w' [(BK x 32 [SN, SN, SN, SN]), (BK q 32 [SL cb a7.2.2.1 b5, SL cc a7.2.2.2.1 b6, SL cd a7.2.2.2.2.1 b7, SL ce a7.2.2.2.2.2.1 b8]), ck, cl, cm, cn, co] ∧ Sat Tryz.f87.ntmps [(4, pB x 0), (7, pB q 0), (8, iv a7.1), (9, .bool a7.2.1)] a) ?_ ?_)))
  ·have hm := h0
   refine GT hm (fun c8 hm => ?_) fun c8 hm => ?_
   ·refine GR (GD hm fun k2 i1 hm => WC ((c_i_Machine_sync H d N I P dh A B Q bc E G W bu t y ab X bh q (aa.hasPick [8, 3, 4, 5, 6, 7]) (aa.nodupPick [8, 3, 4, 5, 6, 7] (by kernel_rfl)) i1).mono ?_))
    rintro e_ k7 ⟨jb, g6, jh, jc, g7, ji, jd, g8, jj, je, g9, jk, jl, rfl, h7, h8, h9, ia, fg⟩
    have fp := aa.callF' [8, 3, 4, 5, 6, 7] [0, 1, 2] (by kernel_rfl) fg
    refine ⟨_, rfl, ?_⟩
    refine WN ?_
    obtain rfl := HS hm
    exact NM fun a ha => ⟨jb, g6, jh, jc, g7, ji, jd, g8, jj, je, g9, jk, jl, Q, ab, X, h7, h8, h9, ia, bc, bh, fp.pk [2, 3, 4, 5, 6, 7, 8], ha.s⟩
   refine QA (wR 2 [(2, pB C 0), (3, pB u 0), (4, pB x 0), (7, pB q 0), (8, iv (-1)), (9, .bool true), (13, iv c.Kind), (31, .bool (c.Kind == 3))] H (NO (GD hm fun bp ib hr => G_meet (fun a w' => ∃ bv bw bx, ownS Gx.encB bp.2.2.1 A B bv ∧ ownD deepInterface bp.2.2.2 t y bw bx ∧ Mem [] w w' [(BK x 32 [SN, SN, SN, SN]), P, W, (BK q 32 [SL N d.Routes I, SL A bp.2.2.1 B, SL E d.Raised G, SL t bp.2.2.2 y]), bv, bw, bx] ∧ Sat Tryz.f87.ntmps [(4, pB x 0), (7, pB q 0), (8, iv bp.1), (9, .bool bp.2.1)] a) ?_ ?_)))
   ·have hm := ib
    rcases gx_bif hm with ⟨c9, hm⟩ | ⟨c9, hm⟩
    ·refine gT c9 ?_
     have fq : Mem [] w H [(BK C 32 [SL U l.Routes S, SL V l.Enabled T, SL L l.Raised O, SL z l.Cpus F]), (BK u 51 [iv c.Kind, iv c.Irq, iv c.Cpu, iv c.Value]), (BK x 32 [SN, SN, SN, SN]), P, Q, W, (BK q 32 [SL N d.Routes I, SL A d.Enabled B, SL E d.Raised G, SL t d.Cpus y]), ab, X] := aa.pk [0, 1, 2, 3, 4, 5, 8, 6, 7]
     have fs : Mem [] w H [(BK C 32 [SL U l.Routes S, SL V l.Enabled T, SL L l.Raised O, SL z l.Cpus F]), (BK u 51 [iv c.Kind, iv c.Irq, iv c.Cpu, iv c.Value]), (BK x 32 [SN, SN, SN, SN]), P, Q, W, (BK q 32 [SL N d.Routes I, SL A d.Enabled B, SL E d.Raised G, SL t d.Cpus y]), (ab ++ X)] := fq.regroup (by simp)
     refine GD hm fun Y i6 hm => ?_
     obtain ⟨lf, ex, ep, df⟩ := id c6
     obtain ⟨J, br⟩ := gxIdx_fst ex i6
     refine GD hm fun m i2 hm => GD hm fun kn i7 hm => ?_
     obtain ⟨lg, dq, er, hl⟩ := id bh
     obtain ⟨hb, dd⟩ := gxIdx_fst dq i7
     have ft : Mem [] w H ([(BK C 32 [SL U l.Routes S, SL V l.Enabled T, SL L l.Raised O, SL z l.Cpus F]), (BK u 51 [iv c.Kind, iv c.Irq, iv c.Cpu, iv c.Value]), (BK x 32 [SN, SN, SN, SN]), P, Q, W, (BK q 32 [SL N d.Routes I, SL A d.Enabled B, SL E d.Raised G, SL t d.Cpus y])] ++ (List.range 18).map (fun i => ([[], [], [], [], [], [], [], [], [], [], [], [], [], [], [], [], (ab ++ X), []] : List Seg).getD i [])) := fs.pk [0, 1, 2, 3, 4, 5, 6, 300000, 300001, 300002, 300003, 300004, 300005, 300006, 300007, 300008, 300009, 300010, 300011, 300012, 300013, 300014, 300015, 7, 300017]
     refine GU [(2, pB C 0), (3, pB u 0), (4, pB x 0), (7, pB q 0), (9, .bool true), (13, iv c.Kind), (31, .bool (c.Kind == 3))] (DL 18 [[],[0],[],[2],[],[4],[],[6],[5,7],[8],[9],[],[11],[11],[11],[1,3],[10,12,15],[13]] [[],[],[],[],[],[],[],[],[],[],[],[],[],[],[],[],[10],[]] (EM 18) [[],[],[],[],[],[],[],[],[],[],[],[10],[10],[10],[10],[],[],[]] [[],[],[],[],[],[],[],[],[],[],[],[10],[10],[],[],[],[],[]] [[],[],[],[],[],[],[],[],[],[],[],[],[],[],[],[16],[],[]] (fun i => ([[], [], [], [], [], [], [], [], [], [], [], [], [], [], [], [], (ab ++ X), []] : List Seg).getD i []) [QV (pB q 3), QV (.slice t d.Cpus.length y), QV (pB u 2), QV (iv c.Cpu), QV (pB C 3), QV (.slice z l.Cpus.length F), QV (pB u 2), QV (iv c.Cpu), QV (elemP z (c.Cpu.toNat * 4)), QV (.agg #[iv Y.Mask, SL ((J 0).1) Y.Stack ((J 0).2), SL ((J 1).1) Y.Queue.Slots ((J 1).2), SL ((J 2).1) Y.Queue.Waiting ((J 2).2)]), fun f v s => ∃ ai ac av aj ad aw ak ae ax, v = (.tuple #[.agg #[iv m.1.Mask, SL ai m.1.Stack ac, SL aj m.1.Queue.Slots ad, SL ak m.1.Queue.Waiting ae], iv m.2.1, .bool m.2.2] : Value) ∧ s = (av ++ (aw ++ ax)) ∧ ownS Gx.encI m.1.Stack ai ac av ∧ ownS encSlot m.1.Queue.Slots aj ad aw ∧ ownS encWaiter m.1.Queue.Waiting ak ae ax, fun f v s => v = (.tuple #[.agg #[iv m.1.Mask, (atPath (f 10) [0, 1]), (atPath (f 10) [0, 2]), (atPath (f 10) [0, 3])], iv m.2.1, .bool m.2.2] : Value) ∧ s = [], fun f v s => v = (.agg #[iv m.1.Mask, (atPath (f 10) [0, 1]), (atPath (f 10) [0, 2]), (atPath (f 10) [0, 3])] : Value) ∧ s = [], QV (iv m.2.1), QV (.bool m.2.2), QV (elemP t (c.Cpu.toNat * 4)), fun f v s => v = undef ∧ ∃ bd be, s = bd ++ be ∧ ownD deepInterface (d.Cpus.set c.Cpu.toNat m.1) t y bd be, QV (iv m.2.1)] [] [14, 16, 17] [16] ft (AC ?_ (AC ?_ (AC ?_ (AC ?_ (AC ?_ (AC ?_ (AC ?_ (AC ?_ (AC ?_ (AC ?_ (AC ?_ (AC ?_ (AC ?_ (AC ?_ (AC ?_ (AC ?_ (AC ?_ (AC ?_ AN)))))))))))))))))) ?_)
     ·intro ap ar R jn fu
      exact OM ⟨rfl, rfl⟩ fu
     ·rintro ap ar v0_ ⟨rfl, _⟩ R jo d2
      exact OV ⟨rfl, rfl⟩ (eL false 1 3 (d2.blk 6 rfl)) d2
     ·intro ap ar R jp fv
      exact OM ⟨rfl, rfl⟩ fv
     ·rintro ap ar v2_ ⟨rfl, _⟩ R jq d3
      exact OV ⟨rfl, rfl⟩ (eL false 1 2 (d3.blk 1 rfl)) d3
     ·intro ap ar R jr fw
      exact OM ⟨rfl, rfl⟩ fw
     ·rintro ap ar v4_ ⟨rfl, _⟩ R js d4
      exact OV ⟨rfl, rfl⟩ (eL false 1 3 (d4.blk 0 rfl)) d4
     ·intro ap ar R jt fx
      exact OM ⟨rfl, rfl⟩ fx
     ·rintro ap ar v6_ ⟨rfl, _⟩ R ju d5
      exact OV ⟨rfl, rfl⟩ (eL false 1 2 (d5.blk 1 rfl)) d5
     ·rintro ap ar v5_ ⟨rfl, _⟩
      rintro v7_ ⟨rfl, _⟩ R jv d6
      exact OV ⟨rfl, rfl⟩ (eI (ep.mem0 d6) (len_fst ex) br) d6
     ·rintro ap ar v8_ ⟨rfl, _⟩ R jw d7
      exact OV ⟨rfl, rfl⟩ (eE true 4 0 (c.Cpu.toNat * 4) (ep.mem0 d7) br) d7
     ·rintro ap ar v9_ ⟨rfl, _⟩ R jx bz
      refine WC ((c_i_takeIrq jx Y ((J 0).1) ((J 0).2) ((df.mem0 bz).a_ br 0) ((J 1).1) ((J 1).2) ((df.mem0 bz).a_ br 1) ((J 2).1) ((J 2).2) ((df.mem0 bz).a_ br 2) i2).mono ?_)
      rintro e_ k8 ⟨ai, ac, av, aj, ad, aw, ak, ae, ax, rfl, di, dj, dk, fh⟩
      refine ⟨_, rfl, ?_⟩
      exact WN (oE (.tuple #[.agg #[iv m.1.Mask, SL ai m.1.Stack ac, SL aj m.1.Queue.Slots ad, SL ak m.1.Queue.Waiting ae], iv m.2.1, .bool m.2.2]) (av ++ (aw ++ ax)) ⟨ai, ac, av, aj, ad, aw, ak, ae, ax, rfl, rfl, di, dj, dk⟩ (Mem.callMid bz (fh.permF (by simp))))
     ·intro ap ar v10_ hb10_
      obtain ⟨_, ai, ac, _, aj, ad, _, ak, ae, _, rfl, _⟩ := hb10_
      intro R jy fy
      exact OM ⟨rfl, rfl⟩ fy
     ·intro ap ar v10_ hb10_
      obtain ⟨_, ai, ac, _, aj, ad, _, ak, ae, _, rfl, _⟩ := hb10_
      intro v11_ hb11_
      obtain ⟨hv11_, _⟩ := hb11_
      obtain rfl : v11_ = (.tuple #[.agg #[iv m.1.Mask, SL ai m.1.Stack ac, SL aj m.1.Queue.Slots ad, SL ak m.1.Queue.Waiting ae], iv m.2.1, .bool m.2.2] : Value) := hv11_.trans (by kernel_rfl)
      intro R jz fz
      exact OM ⟨rfl, rfl⟩ fz
     ·intro ap ar v10_ hb10_
      obtain ⟨_, ai, ac, _, aj, ad, _, ak, ae, _, rfl, _⟩ := hb10_
      intro v11_ hb11_
      obtain ⟨hv11_, _⟩ := hb11_
      obtain rfl : v11_ = (.tuple #[.agg #[iv m.1.Mask, SL ai m.1.Stack ac, SL aj m.1.Queue.Slots ad, SL ak m.1.Queue.Waiting ae], iv m.2.1, .bool m.2.2] : Value) := hv11_.trans (by kernel_rfl)
      intro R j0 f0
      exact OM ⟨rfl, rfl⟩ f0
     ·intro ap ar v10_ hb10_
      obtain ⟨_, ai, ac, _, aj, ad, _, ak, ae, _, rfl, _⟩ := hb10_
      intro v11_ hb11_
      obtain ⟨hv11_, _⟩ := hb11_
      obtain rfl : v11_ = (.tuple #[.agg #[iv m.1.Mask, SL ai m.1.Stack ac, SL aj m.1.Queue.Slots ad, SL ak m.1.Queue.Waiting ae], iv m.2.1, .bool m.2.2] : Value) := hv11_.trans (by kernel_rfl)
      intro R j1 f1
      exact OM ⟨rfl, rfl⟩ f1
     ·rintro ap ar v1_ ⟨rfl, _⟩
      rintro v3_ ⟨rfl, _⟩ R dy d8
      have c2 : Mem [] w dy ([(BK C 32 [SL U l.Routes S, SL V l.Enabled T, SL L l.Raised O, SL z l.Cpus F]), (BK u 51 [iv c.Kind, iv c.Irq, iv c.Cpu, iv c.Value]), (BK x 32 [SN, SN, SN, SN]), P, Q, W, (BK q 32 [SL N d.Routes I, SL A d.Enabled B, SL E d.Raised G, SL t d.Cpus y])] ++ ([[]] ++ ([] ++ ([(ab ++ X)] ++ R)))) := d8
      replace c2 : Mem [] w dy ([(BK C 32 [SL U l.Routes S, SL V l.Enabled T, SL L l.Raised O, SL z l.Cpus F]), (BK u 51 [iv c.Kind, iv c.Irq, iv c.Cpu, iv c.Value]), (BK x 32 [SN, SN, SN, SN]), P, Q, W, (BK q 32 [SL N d.Routes I, SL A d.Enabled B, SL E d.Raised G, SL t d.Cpus y])] ++ ([[]] ++ ([] ++ ([ab, X] ++ R)))) := c2.permF (by simp)
      exact OV ⟨rfl, rfl⟩ (eI (er.r c2 8) (len_fst dq) dd) d8
     ·intro ap ar v10_ hb10_
      obtain ⟨ai, ac, av, aj, ad, aw, ak, ae, ax, rfl, hs10_, di, dj, dk⟩ := hb10_
      intro v12_ hb12_
      obtain ⟨hv12_, _⟩ := hb12_
      obtain rfl : v12_ = (.agg #[iv m.1.Mask, SL ai m.1.Stack ac, SL aj m.1.Queue.Slots ad, SL ak m.1.Queue.Waiting ae] : Value) := hv12_.trans (by kernel_rfl)
      rintro v15_ ⟨rfl, _⟩ R dz f2
      have b0 : Mem [] w dz ([(BK C 32 [SL U l.Routes S, SL V l.Enabled T, SL L l.Raised O, SL z l.Cpus F]), (BK u 51 [iv c.Kind, iv c.Irq, iv c.Cpu, iv c.Value]), (BK x 32 [SN, SN, SN, SN]), P, Q, W, (BK q 32 [SL N d.Routes I, SL A d.Enabled B, SL E d.Raised G, SL t d.Cpus y])] ++ ([(ab ++ X)] ++ ([(ap 10)] ++ ([] ++ R)))) := f2
      rw [hs10_] at b0
      replace b0 : Mem [] w dz ([(BK C 32 [SL U l.Routes S, SL V l.Enabled T, SL L l.Raised O, SL z l.Cpus F]), (BK u 51 [iv c.Kind, iv c.Irq, iv c.Cpu, iv c.Value]), (BK x 32 [SN, SN, SN, SN]), P, Q, W, (BK q 32 [SL N d.Routes I, SL A d.Enabled B, SL E d.Raised G, SL t d.Cpus y])] ++ ([(ab ++ X)] ++ ([av, aw, ax] ++ ([] ++ R)))) := b0.permF (by simp)
      have f3 : Mem [] w dz [(BK C 32 [SL U l.Routes S, SL V l.Enabled T, SL L l.Raised O, SL z l.Cpus F]), (BK u 51 [iv c.Kind, iv c.Irq, iv c.Cpu, iv c.Value]), (BK x 32 [SN, SN, SN, SN]), P, Q, W, (BK q 32 [SL N d.Routes I, SL A d.Enabled B, SL E d.Raised G, SL t d.Cpus y]), ab, X, av, aw, ax, R.flatten] := b0.permF (by simp)
      obtain ⟨bi, jf, bk, i4, kw, iy⟩ := hl.lens (gxIdx_spec dd).2
      have f4 := f3.cut 8 (sa := bi) (sb := jf) (sc := bk) i4 (by kernel_rfl)
      refine wE true 4 c.Cpu.toNat 0 (c.Cpu.toNat * 4) (kn, hb) (m.1, (plOf [(ai, ac), (aj, ad), (ak, ae)])) (.agg #[iv m.1.Mask, SL ai m.1.Stack ac, SL aj m.1.Queue.Slots ad, SL ak m.1.Queue.Waiting ae]) 7 f4 er (gxIdx_spec dd).2 ?_
      intro cx bm ie f5
      have f6 : Mem [] w cx [(BK C 32 [SL U l.Routes S, SL V l.Enabled T, SL L l.Raised O, SL z l.Cpus F]), (BK u 51 [iv c.Kind, iv c.Irq, iv c.Cpu, iv c.Value]), (BK x 32 [SN, SN, SN, SN]), P, Q, W, (BK q 32 [SL N d.Routes I, SL A d.Enabled B, SL E d.Raised G, SL t d.Cpus y]), bm, R.flatten, bi, av, aw, ax, bk] := f5.pk [0, 1, 2, 3, 4, 5, 6, 7, 12, 8, 9, 10, 11, 14]
      have f7 : Mem [] w cx [(BK C 32 [SL U l.Routes S, SL V l.Enabled T, SL L l.Raised O, SL z l.Cpus F]), (BK u 51 [iv c.Kind, iv c.Irq, iv c.Cpu, iv c.Value]), (BK x 32 [SN, SN, SN, SN]), P, Q, W, (BK q 32 [SL N d.Routes I, SL A d.Enabled B, SL E d.Raised G, SL t d.Cpus y]), bm, R.flatten, (bi ++ ((av ++ (aw ++ (ax ++ []))) ++ bk))] := f6.regroup (by simp)
      have ig : ownD deepInterface (d.Cpus.set c.Cpu.toNat m.1) t y bm (bi ++ ((av ++ (aw ++ (ax ++ []))) ++ bk)) := ⟨_, set_fst dq c.Cpu.toNat (m.1, (plOf [(ai, ac), (aj, ad), (ak, ae)])), ie, (iy (m.1, (plOf [(ai, ac), (aj, ad), (ak, ae)])) _ (ownI_cons (i := ⟨Int, Gx.encI, _, _, _⟩) di (ownI_cons (i := ⟨Slot, encSlot, _, _, _⟩) dj (ownI_cons (i := ⟨Waiter, encWaiter, _, _, _⟩) dk ownI_nil))))⟩
      have f8 : Mem [] w cx [(BK C 32 [SL U l.Routes S, SL V l.Enabled T, SL L l.Raised O, SL z l.Cpus F]), (BK u 51 [iv c.Kind, iv c.Irq, iv c.Cpu, iv c.Value]), (BK x 32 [SN, SN, SN, SN]), P, Q, W, (BK q 32 [SL N d.Routes I, SL A d.Enabled B, SL E d.Raised G, SL t d.Cpus y]), bm, (bi ++ ((av ++ (aw ++ (ax ++ []))) ++ bk)), R.flatten] := f7.pk [0, 1, 2, 3, 4, 5, 6, 7, 9, 8]
      exact WN (ob_none (bm ++ (bi ++ ((av ++ (aw ++ (ax ++ []))) ++ bk))) rfl ⟨rfl, bm, (bi ++ ((av ++ (aw ++ (ax ++ []))) ++ bk)), rfl, ig⟩ (show Mem [] w cx ([(BK C 32 [SL U l.Routes S, SL V l.Enabled T, SL L l.Raised O, SL z l.Cpus F]), (BK u 51 [iv c.Kind, iv c.Irq, iv c.Cpu, iv c.Value]), (BK x 32 [SN, SN, SN, SN]), P, Q, W, (BK q 32 [SL N d.Routes I, SL A d.Enabled B, SL E d.Raised G, SL t d.Cpus y])] ++ ([(bm ++ (bi ++ ((av ++ (aw ++ (ax ++ []))) ++ bk)))] ++ ([] ++ ([] ++ R)))) from f8.permF (by simp)))
     ·rintro ap ar v13_ ⟨rfl, _⟩ R j2 f9
      exact OM ⟨rfl, rfl⟩ f9
     rintro ap ar v14_ ⟨rfl, _⟩ v16_ hb16_
     obtain ⟨rfl, bd, be, hs16_, ic⟩ := hb16_
     rintro v17_ ⟨rfl, _⟩ cy ga
     have b1 : Mem [] w cy [(BK C 32 [SL U l.Routes S, SL V l.Enabled T, SL L l.Raised O, SL z l.Cpus F]), (BK u 51 [iv c.Kind, iv c.Irq, iv c.Cpu, iv c.Value]), (BK x 32 [SN, SN, SN, SN]), P, Q, W, (BK q 32 [SL N d.Routes I, SL A d.Enabled B, SL E d.Raised G, SL t d.Cpus y]), bd, be] := ga.permF (by simp [hs16_, SL])
     have gb : Mem [] w cy [(BK C 32 [.slice U l.Routes.length S, .slice V l.Enabled.length T, .slice L l.Raised.length O, .slice z l.Cpus.length F]), (BK u 51 [iv c.Kind, iv c.Irq, iv c.Cpu, iv c.Value]), (BK x 32 [.slice none 0 0, .slice none 0 0, .slice none 0 0, .slice none 0 0]), P, Q, W, (BK q 32 [.slice N d.Routes.length I, .slice A d.Enabled.length B, .slice E d.Raised.length G, .slice t (d.Cpus.set c.Cpu.toNat m.1).length y]), bd, be] := by rw [@List.length_set _ d.Cpus c.Cpu.toNat m.1]; exact b1
     refine MW 1 (WN ?_)
     obtain rfl := HS hm
     exact NM fun a ha => ⟨Q, bd, be, bc, ic, gb.pk [2, 3, 5, 6, 4, 7, 8], ha.s⟩
    refine gF c9 (QA (MW 2 (NO (GD hm fun bq ih hs => G_meet (fun a w' => ∃ cp cq cr, ownS Gx.encB bq.2.2.1 A B cp ∧ ownD deepInterface bq.2.2.2 t y cq cr ∧ Mem [] w w' [(BK x 32 [SN, SN, SN, SN]), P, W, (BK q 32 [SL N d.Routes I, SL A bq.2.2.1 B, SL E d.Raised G, SL t bq.2.2.2 y]), cp, cq, cr] ∧ Sat Tryz.f87.ntmps [(4, pB x 0), (7, pB q 0), (8, iv bq.1), (9, .bool bq.2.1)] a) ?_ ?_))))
    ·have hm := ih
     rcases gx_bif hm with ⟨da, hm⟩ | ⟨da, hm⟩
     ·refine gT da ?_
      have gc : Mem [] w H [(BK C 32 [SL U l.Routes S, SL V l.Enabled T, SL L l.Raised O, SL z l.Cpus F]), (BK u 51 [iv c.Kind, iv c.Irq, iv c.Cpu, iv c.Value]), (BK x 32 [SN, SN, SN, SN]), P, Q, W, (BK q 32 [SL N d.Routes I, SL A d.Enabled B, SL E d.Raised G, SL t d.Cpus y]), ab, X] := aa.pk [0, 1, 2, 3, 4, 5, 8, 6, 7]
      have gd : Mem [] w H [(BK C 32 [SL U l.Routes S, SL V l.Enabled T, SL L l.Raised O, SL z l.Cpus F]), (BK u 51 [iv c.Kind, iv c.Irq, iv c.Cpu, iv c.Value]), (BK x 32 [SN, SN, SN, SN]), P, Q, W, (BK q 32 [SL N d.Routes I, SL A d.Enabled B, SL E d.Raised G, SL t d.Cpus y]), (ab ++ X)] := gc.regroup (by simp)
      refine GD hm fun Z i8 hm => ?_
      obtain ⟨lh, ey, es, dg⟩ := id c6
      obtain ⟨K, bs⟩ := gxIdx_fst ey i8
      refine GD hm fun n i3 hm => GD hm fun ko i9 hm => ?_
      obtain ⟨li, dr, et, hn⟩ := id bh
      obtain ⟨hc, de⟩ := gxIdx_fst dr i9
      have ge : Mem [] w H ([(BK C 32 [SL U l.Routes S, SL V l.Enabled T, SL L l.Raised O, SL z l.Cpus F]), (BK u 51 [iv c.Kind, iv c.Irq, iv c.Cpu, iv c.Value]), (BK x 32 [SN, SN, SN, SN]), P, Q, W, (BK q 32 [SL N d.Routes I, SL A d.Enabled B, SL E d.Raised G, SL t d.Cpus y])] ++ (List.range 18).map (fun i => ([[], [], [], [], [], [], [], [], [], [], [], [], [], [], [], [], (ab ++ X), []] : List Seg).getD i [])) := gd.pk [0, 1, 2, 3, 4, 5, 6, 300000, 300001, 300002, 300003, 300004, 300005, 300006, 300007, 300008, 300009, 300010, 300011, 300012, 300013, 300014, 300015, 7, 300017]
      refine GU [(2, pB C 0), (3, pB u 0), (4, pB x 0), (7, pB q 0), (9, .bool true), (13, iv c.Kind), (49, .bool (c.Kind == 4))] (DL 18 [[],[0],[],[2],[],[4],[],[6],[5,7],[8],[9],[],[11],[11],[11],[1,3],[10,12,15],[13]] [[],[],[],[],[],[],[],[],[],[],[],[],[],[],[],[],[10],[]] (EM 18) [[],[],[],[],[],[],[],[],[],[],[],[10],[10],[10],[10],[],[],[]] [[],[],[],[],[],[],[],[],[],[],[],[10],[10],[],[],[],[],[]] [[],[],[],[],[],[],[],[],[],[],[],[],[],[],[],[16],[],[]] (fun i => ([[], [], [], [], [], [], [], [], [], [], [], [], [], [], [], [], (ab ++ X), []] : List Seg).getD i []) [QV (pB q 3), QV (.slice t d.Cpus.length y), QV (pB u 2), QV (iv c.Cpu), QV (pB C 3), QV (.slice z l.Cpus.length F), QV (pB u 2), QV (iv c.Cpu), QV (elemP z (c.Cpu.toNat * 4)), QV (.agg #[iv Z.Mask, SL ((K 0).1) Z.Stack ((K 0).2), SL ((K 1).1) Z.Queue.Slots ((K 1).2), SL ((K 2).1) Z.Queue.Waiting ((K 2).2)]), fun f v s => ∃ al af ay am ag az an ah a0, v = (.tuple #[.agg #[iv n.1.Mask, SL al n.1.Stack af, SL am n.1.Queue.Slots ag, SL an n.1.Queue.Waiting ah], iv n.2.1, .bool n.2.2] : Value) ∧ s = (ay ++ (az ++ a0)) ∧ ownS Gx.encI n.1.Stack al af ay ∧ ownS encSlot n.1.Queue.Slots am ag az ∧ ownS encWaiter n.1.Queue.Waiting an ah a0, fun f v s => v = (.tuple #[.agg #[iv n.1.Mask, (atPath (f 10) [0, 1]), (atPath (f 10) [0, 2]), (atPath (f 10) [0, 3])], iv n.2.1, .bool n.2.2] : Value) ∧ s = [], fun f v s => v = (.agg #[iv n.1.Mask, (atPath (f 10) [0, 1]), (atPath (f 10) [0, 2]), (atPath (f 10) [0, 3])] : Value) ∧ s = [], QV (iv n.2.1), QV (.bool n.2.2), QV (elemP t (c.Cpu.toNat * 4)), fun f v s => v = undef ∧ ∃ bf bg, s = bf ++ bg ∧ ownD deepInterface (d.Cpus.set c.Cpu.toNat n.1) t y bf bg, QV (iv n.2.1)] [] [14, 16, 17] [16] ge (AC ?_ (AC ?_ (AC ?_ (AC ?_ (AC ?_ (AC ?_ (AC ?_ (AC ?_ (AC ?_ (AC ?_ (AC ?_ (AC ?_ (AC ?_ (AC ?_ (AC ?_ (AC ?_ (AC ?_ (AC ?_ AN)))))))))))))))))) ?_)
      ·intro aq au R j3 gf
       exact OM ⟨rfl, rfl⟩ gf
      ·rintro aq au v0_ ⟨rfl, _⟩ R j4 d9
       exact OV ⟨rfl, rfl⟩ (eL false 1 3 (d9.blk 6 rfl)) d9
      ·intro aq au R j5 gg
       exact OM ⟨rfl, rfl⟩ gg
      ·rintro aq au v2_ ⟨rfl, _⟩ R j6 ea
       exact OV ⟨rfl, rfl⟩ (eL false 1 2 (ea.blk 1 rfl)) ea
      ·intro aq au R j7 gh
       exact OM ⟨rfl, rfl⟩ gh
      ·rintro aq au v4_ ⟨rfl, _⟩ R j8 eb
       exact OV ⟨rfl, rfl⟩ (eL false 1 3 (eb.blk 0 rfl)) eb
      ·intro aq au R j9 gi
       exact OM ⟨rfl, rfl⟩ gi
      ·rintro aq au v6_ ⟨rfl, _⟩ R ka ec
       exact OV ⟨rfl, rfl⟩ (eL false 1 2 (ec.blk 1 rfl)) ec
      ·rintro aq au v5_ ⟨rfl, _⟩
       rintro v7_ ⟨rfl, _⟩ R kb ed
       exact OV ⟨rfl, rfl⟩ (eI (es.mem0 ed) (len_fst ey) bs) ed
      ·rintro aq au v8_ ⟨rfl, _⟩ R kc ee
       exact OV ⟨rfl, rfl⟩ (eE true 4 0 (c.Cpu.toNat * 4) (es.mem0 ee) bs) ee
      ·rintro aq au v9_ ⟨rfl, _⟩ R kd b2
       refine WC ((c_i_leaveIrq kd Z ((K 0).1) ((K 0).2) ((dg.mem0 b2).a_ bs 0) ((K 1).1) ((K 1).2) ((dg.mem0 b2).a_ bs 1) ((K 2).1) ((K 2).2) ((dg.mem0 b2).a_ bs 2) i3).mono ?_)
       rintro e_ k9 ⟨al, af, ay, am, ag, az, an, ah, a0, rfl, dl, dm, dn, fi⟩
       refine ⟨_, rfl, ?_⟩
       exact WN (oE (.tuple #[.agg #[iv n.1.Mask, SL al n.1.Stack af, SL am n.1.Queue.Slots ag, SL an n.1.Queue.Waiting ah], iv n.2.1, .bool n.2.2]) (ay ++ (az ++ a0)) ⟨al, af, ay, am, ag, az, an, ah, a0, rfl, rfl, dl, dm, dn⟩ (Mem.callMid b2 (fi.permF (by simp))))
      ·intro aq au v10_ hb10_
       obtain ⟨_, al, af, _, am, ag, _, an, ah, _, rfl, _⟩ := hb10_
       intro R ke gj
       exact OM ⟨rfl, rfl⟩ gj
      ·intro aq au v10_ hb10_
       obtain ⟨_, al, af, _, am, ag, _, an, ah, _, rfl, _⟩ := hb10_
       intro v11_ hb11_
       obtain ⟨hv11_, _⟩ := hb11_
       obtain rfl : v11_ = (.tuple #[.agg #[iv n.1.Mask, SL al n.1.Stack af, SL am n.1.Queue.Slots ag, SL an n.1.Queue.Waiting ah], iv n.2.1, .bool n.2.2] : Value) := hv11_.trans (by kernel_rfl)
       intro R kf gk
       exact OM ⟨rfl, rfl⟩ gk
      ·intro aq au v10_ hb10_
       obtain ⟨_, al, af, _, am, ag, _, an, ah, _, rfl, _⟩ := hb10_
       intro v11_ hb11_
       obtain ⟨hv11_, _⟩ := hb11_
       obtain rfl : v11_ = (.tuple #[.agg #[iv n.1.Mask, SL al n.1.Stack af, SL am n.1.Queue.Slots ag, SL an n.1.Queue.Waiting ah], iv n.2.1, .bool n.2.2] : Value) := hv11_.trans (by kernel_rfl)
       intro R kg gl
       exact OM ⟨rfl, rfl⟩ gl
      ·intro aq au v10_ hb10_
       obtain ⟨_, al, af, _, am, ag, _, an, ah, _, rfl, _⟩ := hb10_
       intro v11_ hb11_
       obtain ⟨hv11_, _⟩ := hb11_
       obtain rfl : v11_ = (.tuple #[.agg #[iv n.1.Mask, SL al n.1.Stack af, SL am n.1.Queue.Slots ag, SL an n.1.Queue.Waiting ah], iv n.2.1, .bool n.2.2] : Value) := hv11_.trans (by kernel_rfl)
       intro R kh gm
       exact OM ⟨rfl, rfl⟩ gm
      ·rintro aq au v1_ ⟨rfl, _⟩
       rintro v3_ ⟨rfl, _⟩ R d0 ef
       have c3 : Mem [] w d0 ([(BK C 32 [SL U l.Routes S, SL V l.Enabled T, SL L l.Raised O, SL z l.Cpus F]), (BK u 51 [iv c.Kind, iv c.Irq, iv c.Cpu, iv c.Value]), (BK x 32 [SN, SN, SN, SN]), P, Q, W, (BK q 32 [SL N d.Routes I, SL A d.Enabled B, SL E d.Raised G, SL t d.Cpus y])] ++ ([[]] ++ ([] ++ ([(ab ++ X)] ++ R)))) := ef
       replace c3 : Mem [] w d0 ([(BK C 32 [SL U l.Routes S, SL V l.Enabled T, SL L l.Raised O, SL z l.Cpus F]), (BK u 51 [iv c.Kind, iv c.Irq, iv c.Cpu, iv c.Value]), (BK x 32 [SN, SN, SN, SN]), P, Q, W, (BK q 32 [SL N d.Routes I, SL A d.Enabled B, SL E d.Raised G, SL t d.Cpus y])] ++ ([[]] ++ ([] ++ ([ab, X] ++ R)))) := c3.permF (by simp)
       exact OV ⟨rfl, rfl⟩ (eI (et.r c3 8) (len_fst dr) de) ef
      ·intro aq au v10_ hb10_
       obtain ⟨al, af, ay, am, ag, az, an, ah, a0, rfl, hs10_, dl, dm, dn⟩ := hb10_
       intro v12_ hb12_
       obtain ⟨hv12_, _⟩ := hb12_
       obtain rfl : v12_ = (.agg #[iv n.1.Mask, SL al n.1.Stack af, SL am n.1.Queue.Slots ag, SL an n.1.Queue.Waiting ah] : Value) := hv12_.trans (by kernel_rfl)
       rintro v15_ ⟨rfl, _⟩ R d1 gn
       have b3 : Mem [] w d1 ([(BK C 32 [SL U l.Routes S, SL V l.Enabled T, SL L l.Raised O, SL z l.Cpus F]), (BK u 51 [iv c.Kind, iv c.Irq, iv c.Cpu, iv c.Value]), (BK x 32 [SN, SN, SN, SN]), P, Q, W, (BK q 32 [SL N d.Routes I, SL A d.Enabled B, SL E d.Raised G, SL t d.Cpus y])] ++ ([(ab ++ X)] ++ ([(aq 10)] ++ ([] ++ R)))) := gn
       rw [hs10_] at b3
       replace b3 : Mem [] w d1 ([(BK C 32 [SL U l.Routes S, SL V l.Enabled T, SL L l.Raised O, SL z l.Cpus F]), (BK u 51 [iv c.Kind, iv c.Irq, iv c.Cpu, iv c.Value]), (BK x 32 [SN, SN, SN, SN]), P, Q, W, (BK q 32 [SL N d.Routes I, SL A d.Enabled B, SL E d.Raised G, SL t d.Cpus y])] ++ ([(ab ++ X)] ++ ([ay, az, a0] ++ ([] ++ R)))) := b3.permF (by simp)
       have go : Mem [] w d1 [(BK C 32 [SL U l.Routes S, SL V l.Enabled T, SL L l.Raised O, SL z l.Cpus F]), (BK u 51 [iv c.Kind, iv c.Irq, iv c.Cpu, iv c.Value]), (BK x 32 [SN, SN, SN, SN]), P, Q, W, (BK q 32 [SL N d.Routes I, SL A d.Enabled B, SL E d.Raised G, SL t d.Cpus y]), ab, X, ay, az, a0, R.flatten] := b3.permF (by simp)
       obtain ⟨bj, jg, bl, i5, kx, iz⟩ := hn.lens (gxIdx_spec de).2
       have gp := go.cut 8 (sa := bj) (sb := jg) (sc := bl) i5 (by kernel_rfl)
       refine wE true 4 c.Cpu.toNat 0 (c.Cpu.toNat * 4) (ko, hc) (n.1, (plOf [(al, af), (am, ag), (an, ah)])) (.agg #[iv n.1.Mask, SL al n.1.Stack af, SL am n.1.Queue.Slots ag, SL an n.1.Queue.Waiting ah]) 7 gp et (gxIdx_spec de).2 ?_
       intro cz bn il gq
       have gr : Mem [] w cz [(BK C 32 [SL U l.Routes S, SL V l.Enabled T, SL L l.Raised O, SL z l.Cpus F]), (BK u 51 [iv c.Kind, iv c.Irq, iv c.Cpu, iv c.Value]), (BK x 32 [SN, SN, SN, SN]), P, Q, W, (BK q 32 [SL N d.Routes I, SL A d.Enabled B, SL E d.Raised G, SL t d.Cpus y]), bn, R.flatten, bj, ay, az, a0, bl] := gq.pk [0, 1, 2, 3, 4, 5, 6, 7, 12, 8, 9, 10, 11, 14]
       have gs : Mem [] w cz [(BK C 32 [SL U l.Routes S, SL V l.Enabled T, SL L l.Raised O, SL z l.Cpus F]), (BK u 51 [iv c.Kind, iv c.Irq, iv c.Cpu, iv c.Value]), (BK x 32 [SN, SN, SN, SN]), P, Q, W, (BK q 32 [SL N d.Routes I, SL A d.Enabled B, SL E d.Raised G, SL t d.Cpus y]), bn, R.flatten, (bj ++ ((ay ++ (az ++ (a0 ++ []))) ++ bl))] := gr.regroup (by simp)
       have im : ownD deepInterface (d.Cpus.set c.Cpu.toNat n.1) t y bn (bj ++ ((ay ++ (az ++ (a0 ++ []))) ++ bl)) := ⟨_, set_fst dr c.Cpu.toNat (n.1, (plOf [(al, af), (am, ag), (an, ah)])), il, (iz (n.1, (plOf [(al, af), (am, ag), (an, ah)])) _ (ownI_cons (i := ⟨Int, Gx.encI, _, _, _⟩) dl (ownI_cons (i := ⟨Slot, encSlot, _, _, _⟩) dm (ownI_cons (i := ⟨Waiter, encWaiter, _, _, _⟩) dn ownI_nil))))⟩
       have gt : Mem [] w cz [(BK C 32 [SL U l.Routes S, SL V l.Enabled T, SL L l.Raised O, SL z l.Cpus F]), (BK u 51 [iv c.Kind, iv c.Irq, iv c.Cpu, iv c.Value]), (BK x 32 [SN, SN, SN, SN]), P, Q, W, (BK q 32 [SL N d.Routes I, SL A d.Enabled B, SL E d.Raised G, SL t d.Cpus y]), bn, (bj ++ ((ay ++ (az ++ (a0 ++ []))) ++ bl)), R.flatten] := gs.pk [0, 1, 2, 3, 4, 5, 6, 7, 9, 8]
       exact WN (ob_none (bn ++ (bj ++ ((ay ++ (az ++ (a0 ++ []))) ++ bl))) rfl ⟨rfl, bn, (bj ++ ((ay ++ (az ++ (a0 ++ []))) ++ bl)), rfl, im⟩ (show Mem [] w cz ([(BK C 32 [SL U l.Routes S, SL V l.Enabled T, SL L l.Raised O, SL z l.Cpus F]), (BK u 51 [iv c.Kind, iv c.Irq, iv c.Cpu, iv c.Value]), (BK x 32 [SN, SN, SN, SN]), P, Q, W, (BK q 32 [SL N d.Routes I, SL A d.Enabled B, SL E d.Raised G, SL t d.Cpus y])] ++ ([(bn ++ (bj ++ ((ay ++ (az ++ (a0 ++ []))) ++ bl)))] ++ ([] ++ ([] ++ R)))) from gt.permF (by simp)))
      ·rintro aq au v13_ ⟨rfl, _⟩ R ki gu
       exact OM ⟨rfl, rfl⟩ gu
      rintro aq au v14_ ⟨rfl, _⟩ v16_ hb16_
      obtain ⟨rfl, bf, bg, hs16_, ik⟩ := hb16_
      rintro v17_ ⟨rfl, _⟩ c0 gv
      have b4 : Mem [] w c0 [(BK C 32 [SL U l.Routes S, SL V l.Enabled T, SL L l.Raised O, SL z l.Cpus F]), (BK u 51 [iv c.Kind, iv c.Irq, iv c.Cpu, iv c.Value]), (BK x 32 [SN, SN, SN, SN]), P, Q, W, (BK q 32 [SL N d.Routes I, SL A d.Enabled B, SL E d.Raised G, SL t d.Cpus y]), bf, bg] := gv.permF (by simp [hs16_, SL])
      have gw : Mem [] w c0 [(BK C 32 [.slice U l.Routes.length S, .slice V l.Enabled.length T, .slice L l.Raised.length O, .slice z l.Cpus.length F]), (BK u 51 [iv c.Kind, iv c.Irq, iv c.Cpu, iv c.Value]), (BK x 32 [.slice none 0 0, .slice none 0 0, .slice none 0 0, .slice none 0 0]), P, Q, W, (BK q 32 [.slice N d.Routes.length I, .slice A d.Enabled.length B, .slice E d.Raised.length G, .slice t (d.Cpus.set c.Cpu.toNat n.1).length y]), bf, bg] := by rw [@List.length_set _ d.Cpus c.Cpu.toNat n.1]; exact b4
      refine MW 1 (WN ?_)
      obtain rfl := HS hm
      exact NM fun a ha => ⟨Q, bf, bg, bc, ik, gw.pk [2, 3, 5, 6, 4, 7, 8], ha.s⟩
     refine gF da (QA (MW 2 (NO (GD hm fun ca io ht => G_meet (fun a w' => ∃ ct cu cv, ownS Gx.encB ca.1 A B ct ∧ ownD deepInterface ca.2 t y cu cv ∧ Mem [] w w' [(BK x 32 [SN, SN, SN, SN]), P, W, (BK q 32 [SL N d.Routes I, SL A ca.1 B, SL E d.Raised G, SL t ca.2 y]), ct, cu, cv] ∧ Sat Tryz.f87.ntmps [(4, pB x 0), (7, pB q 0), (8, iv (-1)), (9, .bool true)] a) ?_ ?_))))
     ·have hm := io
      refine GT hm (fun db hm => ?_) fun db hm => ?_
      ·refine GR (MW 1 (wV (SL t d.Cpus y) H (eL false 1 3 (aa.blk 8 rfl)) (MW 1 (wV (iv c.Cpu) H (eL false 1 2 (aa.blk 1 rfl)) (MW 1 (wV (iv c.Value) H (eL false 1 3 (aa.blk 1 rfl)) (GD hm fun ao ja hm => ?_)))))))
       obtain ⟨lj, b9, dp, ho⟩ := id bh
       obtain ⟨c4, bt⟩ := gxIdx_fst b9 ja
       refine wV (elemP t (c.Cpu.toNat * 4)) H (eI (dp.r aa 6) (len_fst b9) bt) (wV (elemP t (c.Cpu.toNat * 4 + 0)) H (eF 0 (c.Cpu.toNat * 4) 0 (dp.r aa 6) bt) (wE false 1 c.Cpu.toNat 0 (c.Cpu.toNat * 4 + 0) (ao, c4) ((⟨c.Value, ao.Stack, ao.Queue⟩ : Interface), c4) (iv c.Value) 6 aa dp (gxIdx_spec bt).2 ?_))
       intro kj dw ir gx
       have it : ownD deepInterface (d.Cpus.set c.Cpu.toNat (⟨c.Value, ao.Stack, ao.Queue⟩ : Interface)) t y dw X := ⟨_, set_fst b9 c.Cpu.toNat ((⟨c.Value, ao.Stack, ao.Queue⟩ : Interface), c4), ir, (by rw [flatMap_setSame (gxIdx_spec bt).2 (by kernel_rfl)]; exact ho)⟩
       have k1 := gxIdx_put (⟨c.Value, ao.Stack, ao.Queue⟩ : Interface) (gxIdx_down b9 bt)
       refine LX 70 t y d.Cpus c.Cpu.toNat (⟨c.Value, ao.Stack, ao.Queue⟩ : Interface) ?_
       have gy : Mem [] w kj [(BK C 32 [.slice U l.Routes.length S, .slice V l.Enabled.length T, .slice L l.Raised.length O, .slice z l.Cpus.length F]), (BK u 51 [iv c.Kind, iv c.Irq, iv c.Cpu, iv c.Value]), (BK x 32 [.slice none 0 0, .slice none 0 0, .slice none 0 0, .slice none 0 0]), P, Q, W, dw, X, (BK q 32 [.slice N d.Routes.length I, .slice A d.Enabled.length B, .slice E d.Raised.length G, .slice t (d.Cpus.set c.Cpu.toNat (⟨c.Value, ao.Stack, ao.Queue⟩ : Interface)).length y])] := by rw [@List.length_set _ d.Cpus c.Cpu.toNat (⟨c.Value, ao.Stack, ao.Queue⟩ : Interface)]; exact gx
       refine WN ?_
       obtain rfl := HS hm
       exact NM fun a ha => ⟨Q, dw, X, bc, it, gy.pk [2, 3, 5, 8, 4, 6, 7], ha.s⟩
      refine QA (MW 2 (NO (GD hm fun ez iu hu => G_meet (fun a w' => ∃ cw, ownS Gx.encB ez A B cw ∧ Mem [] w w' [(BK x 32 [SN, SN, SN, SN]), P, W, ab, X, (BK q 32 [SL N d.Routes I, SL A ez B, SL E d.Raised G, SL t d.Cpus y]), cw] ∧ Sat Tryz.f87.ntmps [(4, pB x 0), (7, pB q 0), (8, iv (-1)), (9, .bool true)] a) ?_ ?_)))
      ·have hm := iu
       refine GT hm (fun dc hm => ?_) fun dc hm => ?_
       ·refine GR (MW 1 (wV (SL A d.Enabled B) H (eL false 1 1 (aa.blk 8 rfl)) (MW 1 (wV (iv c.Irq) H (eL false 1 1 (aa.blk 1 rfl)) (MW 1 (wV (iv c.Value) H (eL false 1 3 (aa.blk 1 rfl)) (MW 1 (GD hm fun kp ew hm => wV (elemP A (c.Irq.toNat * 1)) H (eI (bc.r aa 4) rfl ew) (wE false 1 c.Irq.toNat 0 (c.Irq.toNat * 1) kp (c.Value == 1) (.bool (c.Value == 1)) 4 aa bc (gxIdx_spec ew).2 fun kk fd ix gz => LX 80 A B d.Enabled c.Irq.toNat (c.Value == 1) ?_)))))))))
        have g0 : Mem [] w kk [(BK C 32 [.slice U l.Routes.length S, .slice V l.Enabled.length T, .slice L l.Raised.length O, .slice z l.Cpus.length F]), (BK u 51 [iv c.Kind, iv c.Irq, iv c.Cpu, iv c.Value]), (BK x 32 [.slice none 0 0, .slice none 0 0, .slice none 0 0, .slice none 0 0]), P, fd, W, ab, X, (BK q 32 [.slice N d.Routes.length I, .slice A (d.Enabled.set c.Irq.toNat (c.Value == 1)).length B, .slice E d.Raised.length G, .slice t d.Cpus.length y])] := by rw [@List.length_set _ d.Enabled c.Irq.toNat (c.Value == 1)]; exact gz
        refine WN ?_
        obtain rfl := HS hm
        exact NM fun a ha => ⟨fd, ix, g0.pk [2, 3, 5, 6, 7, 8, 4], ha.s⟩
       refine GK ?_
       obtain rfl := HS hm
       exact NM fun a ha => ⟨Q, bc, aa.pk [2, 3, 5, 6, 7, 8, 4], ha.s⟩
      intro kq la ⟨cw, iw, g1, hf⟩
      refine N_use hf ?_
      have hm := hu
      obtain rfl := HS hm
      exact NM fun a ha => ⟨cw, ab, X, iw, bh, g1.pk [0, 1, 2, 5, 6, 3, 4], ha.s⟩
     intro kr lb ⟨ct, cu, cv, ip, iq, g2, hg⟩
     refine N_use hg ?_
     have hm := ht
     obtain rfl := HS hm
     exact NM fun a ha => ⟨ct, cu, cv, ip, iq, g2.pk [0, 1, 2, 3, 4, 5, 6], ha.s⟩
    intro ks lc ⟨cp, cq, cr, ii, ij, g3, hh⟩
    refine N_use hh ?_
    have hm := hs
    obtain rfl := HS hm
    exact NM fun a ha => ⟨cp, cq, cr, ii, ij, g3.pk [0, 1, 2, 3, 4, 5, 6], ha.s⟩
   intro kt ld ⟨bv, bw, bx, en, eo, g4, hi⟩
   refine N_use hi ?_
   have hm := hr
   obtain rfl := HS hm
   exact NM fun a ha => ⟨N, I, P, A, B, bv, E, G, W, t, y, bw, bx, bv, bw, bx, dh, en, bu, eo, en, eo, g4.pk [0, 3, 1, 4, 2, 5, 6], ha.s⟩
  intro ku le ⟨cb, b5, ck, cc, b6, cl, cd, b7, cm, ce, b8, cn, co, dt, du, dv, h1, h2, h3, h4, h5, h6, g5, hj⟩
  refine N_use hj ?_
  have hm := hq
  obtain rfl := HS hm
  exact NM fun a ha => ⟨cb, b5, ck, cc, b6, cl, cd, b7, cm, ce, b8, cn, co, dt, W, du, dv, h1, h2, h3, h4, h5, bu, h6, g5.pk [0, 1, 2, 3, 4, 5, 6], ha.s⟩
 intro kv fe ⟨a8, a3, cf, a9, a4, cg, ba, a5, ch, bb, a6, ci, cj, e9, fa, fb, fc, hw, hx, hy, hz, ky, kz, k0, eg, hk⟩
 refine N_use hk ?_
 have hm := hp
 refine BN (NF (wV (.agg #[SL a8 D.2.2.1 a3, SL a9 D.2.2.2.1 a4, SL ba D.2.2.2.2.1 a5, SL bb D.2.2.2.2.2.1 a6]) fe (eL true 4 0 (eg.blk 1 rfl)) (MW 2 (wS true 4 0 (.agg #[SL a8 D.2.2.1 a3, SL a9 D.2.2.2.1 a4, SL ba D.2.2.2.2.1 a5, SL bb D.2.2.2.2.2.1 a6]) 0 [SL a8 D.2.2.1 a3, SL a9 D.2.2.2.1 a4, SL ba D.2.2.2.2.1 a5, SL bb D.2.2.2.2.2.1 a6] eg rfl fun kl eh => wR 2 [(4, pB x 0), (5, iv D.1), (6, .bool D.2.1)] kl (NC ?_)))))
 obtain rfl := HS hm
 exact N_ret [.agg #[SL a8 D.2.2.1 a3, SL a9 D.2.2.2.1 a4, SL ba D.2.2.2.2.1 a5, SL bb D.2.2.2.2.2.1 a6], iv D.1, .bool D.2.1] (RX true 4 0 (eh.blk 0 rfl) (rC (rC RVs_nil))) (⟨a8, a3, cf, a9, a4, cg, ba, a5, ch, bb, a6, ci, cj, rfl, hw, hx, hy, hz, eh.pk [2, 3, 4, 5, 6]⟩)
theorem c_i_StepMachine (w : World) (d : Machine) (n i) (P : rdS encRoute w d.Routes n i) (q j) (Q : rdS Gx.encB w d.Enabled q j) (t l) (R : rdS Gx.encB w d.Raised t l) (u m) (S : rdD deepInterface w d.Cpus u m) (f : MachStep) {r : Machine × Int × Bool} (hm : M.i_StepMachine d f = some r) :
  Calls Tryz.prog 32 #[.agg #[SL n d.Routes i, SL q d.Enabled j, SL t d.Raised l, SL u d.Cpus m], .agg #[iv f.Kind, iv f.Irq, iv f.Cpu, iv f.Value]] w fun e w' => ∃ af ab aj ag ac ak ah ad al ai ae am an, e = .returned (.tuple #[.agg #[SL af r.1.Routes ab, SL ag r.1.Enabled ac, SL ah r.1.Raised ad, SL ai r.1.Cpus ae], iv r.2.1, .bool r.2.2]) ∧ ownS encRoute r.1.Routes af ab aj ∧ ownS Gx.encB r.1.Enabled ag ac ak ∧ ownS Gx.encB r.1.Raised ah ad al ∧ ownD deepInterface r.1.Cpus ai ae am an ∧ Mem [] w w' [aj, ak, al, am, an] := by
 unfold M.i_StepMachine at hm
 refine cE Tryz.func32 ?_
 have M0 := Mem.refl [] w
 refine QA (wN (CE 32 [SL n d.Routes i, SL q d.Enabled j, SL t d.Raised l, SL u d.Cpus m]) M0 fun I bo ar => wN (CE 51 [iv f.Kind, iv f.Irq, iv f.Cpu, iv f.Value]) ar fun J bp au => wN (CE 32 [SN, SN, SN, SN]) au fun h W H => MW 2 (NE (GS (GD hm fun ba a0 az => G_meet (fun a w' => Mem [] w w' [(BK I 32 [SL n d.Routes i, SL q d.Enabled j, SL t d.Raised l, SL u d.Cpus m]), (BK J 51 [iv f.Kind, iv f.Irq, iv f.Cpu, iv f.Value]), (BK h 32 [SN, SN, SN, SN])] ∧ Sat Tryz.f32.ntmps [(2, pB I 0), (3, pB J 0), (4, pB h 0), (18, .bool ba)] a) ?_ ?_))))
 ·have hm := a0
  refine GR (wV (.agg #[SL n d.Routes i, SL q d.Enabled j, SL t d.Raised l, SL u d.Cpus m]) W (eL true 4 0 (H.blk 0 rfl)) (GD hm fun bb a7 hm => WD (c_i_IsMachine W d n i (P.mem0 H) q j (Q.mem0 H) t l (R.mem0 H) u m (S.mem0 H) a7) H fun K F => wR 2 [(2, pB I 0), (3, pB J 0), (4, pB h 0), (13, .bool (!bb))] K ?_))
  rcases gx_bif hm with ⟨T, hm⟩ | ⟨T, hm⟩
  ·refine wK 13 true T (MW 5 (WN ?_))
   obtain rfl := HS hm
   exact NM fun a ha => ⟨F.pk [0, 1, 2], ha.s⟩
  refine wK 13 false T (wV (.agg #[SL n d.Routes i, SL q d.Enabled j, SL t d.Raised l, SL u d.Cpus m]) K (eL true 4 0 (F.blk 0 rfl)) (wV (.agg #[iv f.Kind, iv f.Irq, iv f.Cpu, iv f.Value]) K (eL true 4 0 (F.blk 1 rfl)) (GD hm fun bc a8 hm => WD (c_i_isMachStep K d n i (P.mem0 F) q j (Q.mem0 F) t l (R.mem0 F) u m (S.mem0 F) f a8) F fun bi av => MW 2 (WN ?_))))
  obtain rfl := HS hm
  exact NM fun a ha => ⟨av.pk [0, 1, 2], ha.s⟩
 intro bn N ⟨G, ay⟩
 refine N_use ay ?_
 have hm := az
 refine TN (GT hm (fun U hm => ?_) fun U hm => ?_)
 ·refine QA (MW 1 (wS true 4 0 (.agg #[SN, SN, SN, SN]) 2 [SN, SN, SN, SN] G rfl fun bj X => MW 2 (ND ?_)))
  obtain rfl := HS hm
  exact N_ret [.agg #[SN, SN, SN, SN], iv 0, .bool false] (RX true 4 0 (X.blk 2 rfl) (rC (rC RVs_nil))) (⟨none, 0, [], none, 0, [], none, 0, [], none, 0, [], [], rfl, ownS_nil, ownS_nil, ownS_nil, ownD_nil, X.pk [100000, 100001, 100002, 100003, 100004]⟩)
 refine KA (wV (.agg #[SL n d.Routes i, SL q d.Enabled j, SL t d.Raised l, SL u d.Cpus m]) N (eL true 4 0 (G.blk 0 rfl)) (wV (.agg #[iv f.Kind, iv f.Irq, iv f.Cpu, iv f.Value]) N (eL true 4 0 (G.blk 1 rfl)) (GD hm fun c a9 hm => WC ((c_i_stepMachine N d n i (P.mem0 G) q j (Q.mem0 G) t l (R.mem0 G) u m (S.mem0 G) f a9).mono ?_))))
 rintro e_ bk ⟨B, x, bd, C, y, be, D, z, bf, E, A, bg, bh, rfl, a3, a4, a5, a6, aq⟩
 have aw := G.call aq
 refine ⟨_, rfl, ?_⟩
 refine MW 4 (wN (CE 32 [SN, SN, SN, SN]) aw fun aa bq ax => wS true 4 0 (.agg #[SL B c.1.Routes x, SL C c.1.Enabled y, SL D c.1.Raised z, SL E c.1.Cpus A]) 8 [SL B c.1.Routes x, SL C c.1.Enabled y, SL D c.1.Raised z, SL E c.1.Cpus A] ax rfl fun L O => MW 2 (NB (wR 2 [(4, pB h 0), (7, pB aa 0), (8, iv c.2.1), (28, .bool (!c.2.2))] L (NO (GT hm (fun V hm => ?_) fun V hm => ?_)))))
 ·refine QA (MW 1 (wS true 4 0 (.agg #[SN, SN, SN, SN]) 2 [SN, SN, SN, SN] O rfl fun bl Y => MW 2 (ND ?_)))
  obtain rfl := HS hm
  exact N_ret [.agg #[SN, SN, SN, SN], iv 0, .bool false] (RX true 4 0 (Y.blk 2 rfl) (rC (rC RVs_nil))) (⟨none, 0, [], none, 0, [], none, 0, [], none, 0, [], [], rfl, ownS_nil, ownS_nil, ownS_nil, ownD_nil, Y.pk [100000, 100001, 100002, 100003, 100004]⟩)
 refine KA (wV (.agg #[SL B c.1.Routes x, SL C c.1.Enabled y, SL D c.1.Raised z, SL E c.1.Cpus A]) L (eL true 4 0 (O.blk 8 rfl)) (MW 1 (wS true 4 0 (.agg #[SL B c.1.Routes x, SL C c.1.Enabled y, SL D c.1.Raised z, SL E c.1.Cpus A]) 2 [SL B c.1.Routes x, SL C c.1.Enabled y, SL D c.1.Raised z, SL E c.1.Cpus A] O rfl fun bm Z => MW 2 (NC ?_))))
 obtain rfl := HS hm
 exact N_ret [.agg #[SL B c.1.Routes x, SL C c.1.Enabled y, SL D c.1.Raised z, SL E c.1.Cpus A], iv c.2.1, .bool true] (RX true 4 0 (Z.blk 2 rfl) (rC (rC RVs_nil))) (⟨B, x, bd, C, y, be, D, z, bf, E, A, bg, bh, rfl, a3, a4, a5, a6, Z.pk [3, 4, 5, 6, 7]⟩)
end Go.Proofs.YtllhajkgkghhdaaGreat
set_option linter.unusedVariables false
set_option linter.unusedSimpArgs false
set_option maxRecDepth 100000
set_option maxHeartbeats 4000000
namespace Go.Proofs.YtllhajkgkghhdaaGreat
open Go.Gx
theorem c_l_vBig (w : World) (a : List Int) (c b) (d : rdS Gx.encU8 w a c b) {r : Bool} (hm : M.l_vBig a = some r) :
  Calls Tryz.prog 39 #[SL c a b] w fun e w' => e = .returned (.bool r) ∧ Mem [] w w' [] := by
 unfold M.l_vBig at hm
 refine cE Tryz.func39 ?_
 have M0 := Mem.refl [] w
 refine QA (MW 1 (NA (MW 4 (NC ?_))))
 cases hm
 exact RA [.bool (decide ((a.length : Int) > 65536))] (⟨rfl, M0.pk []⟩)
theorem c_s_l1Cur_next (w : World) (b : l1Cur) (d g) (v : rdS Gx.encU8 w b.code d g) (c : Nat) (hA : ∀ q ∈ List.flatten [(BK c 110 [SL d b.code g, iv b.at_, .int .u64 b.seed])], w.heap[q.1]? = some q.2) (hN : (idsOf [(BK c 110 [SL d b.code g, iv b.at_, .int .u64 b.seed])]).Nodup) (x : apartX (idsOf [(BK c 110 [SL d b.code g, iv b.at_, .int .u64 b.seed])]) b.code d) {r : Int × Int × Int} (hm : M.s_l1Cur_next b = some r) :
  Calls Tryz.prog 151 #[pB c 0] w fun e w' => e = .returned (iv r.1) ∧ Mem (idsOf [(BK c 110 [SL d b.code g, iv b.at_, .int .u64 b.seed])]) w w' [(BK c 110 [SL d b.code g, iv r.2.1, .int .u64 r.2.2])] := by
 unfold M.s_l1Cur_next at hm
 refine cE Tryz.func151 ?_
 have M0 := Mem.start' w [(BK c 110 [SL d b.code g, iv b.at_, .int .u64 b.seed])] hA hN
 refine QA (MW 1 (NA (MW 1 (NE (GS (G_quiet (by kernel_rfl) (by kernel_rfl) M0 (MZ 3 (zV (iv b.at_) (fun w_ M_ => (eL false 1 1 (M_.blk 0 rfl))) (MZ 3 (zV (SL d b.code g) (fun w_ M_ => (eL false 1 0 (M_.blk 0 rfl))) (MZ 2 (Z_end fun F o => (TN (GD hm fun f D C => G_meet (fun a w' => Mem (idsOf [(BK c 110 [SL d b.code g, iv b.at_, .int .u64 b.seed])]) w w' [(BK c 110 [SL d b.code g, iv b.at_, .int .u64 b.seed])] ∧ Sat Tryz.f151.ntmps [(0, pB c 0), (3, iv f)] a) ?_ ?_))))))))))))))
 ·have hm := D
  refine GT hm (fun k hm => ?_) fun k hm => ?_
  ·refine G_quiet (by kernel_rfl) (by kernel_rfl) o (MZ 3 (zV (SL d b.code g) (fun w_ M_ => (eL false 1 0 (M_.blk 0 rfl))) (MZ 3 (zV (iv b.at_) (fun w_ M_ => (eL false 1 1 (M_.blk 0 rfl))) (GD hm fun i y hm => zV (elemP d (b.at_.toNat * 1)) (fun w_ M_ => (eI (v.memX x M_) rfl y)) (zV (.int .u8 i) (fun w_ M_ => (eE false 1 0 (b.at_.toNat * 1) (v.memX x M_) y)) (MS 2 [(0, pB c 0), (3, iv (w64 i))] (Z_end fun G z => ?_))))))))
   obtain rfl := HS hm
   exact NM fun a ha => ⟨z.pk [0], ha.s⟩
  refine GK ?_
  obtain rfl := HS hm
  exact NM fun a ha => ⟨o.pk [0], ha.s⟩
 intro E m ⟨t, B⟩
 refine N_use B ?_
 have hm := C
 refine NF (MW 3 (wV (iv b.at_) m (eL false 1 1 (t.blk 0 rfl)) (MW 3 (wS false 1 1 (iv (w64 (b.at_ + 1))) 0 [SL d b.code g, iv (w64 (b.at_ + 1)), .int .u64 b.seed] t rfl fun n u => NA (MW 4 (wV (.int .u64 b.seed) n (eL false 1 2 (u.blk 0 rfl)) (MW 7 (wS false 1 2 (.int .u64 (IntKind.u64.wrap ((IntKind.u64.wrap ((IntKind.u64.wrap (b.seed * 6364136223846793005)) + (IntKind.u64.wrap f))) + 843843))) 0 [SL d b.code g, iv (w64 (b.at_ + 1)), .int .u64 (IntKind.u64.wrap ((IntKind.u64.wrap ((IntKind.u64.wrap (b.seed * 6364136223846793005)) + (IntKind.u64.wrap f))) + 843843))] u rfl fun H A => NE (GS (G_quiet (by kernel_rfl) (by kernel_rfl) A (MZ 3 (zV (iv (w64 (b.at_ + 1))) (fun w_ M_ => (eL false 1 1 (M_.blk 0 rfl))) (MZ 3 (zV (SL d b.code g) (fun w_ M_ => (eL false 1 0 (M_.blk 0 rfl))) (MS 2 [(0, pB c 0), (3, iv f), (53, .bool (decide ((w64 (b.at_ + 1)) ≤ (b.code.length : Int))))] (Z_end fun h j => (TN (GT hm (fun l hm => ?_) fun l hm => ?_))))))))))))))))))
 ·refine QA (MW 2 (ND ?_))
  obtain rfl := HS hm
  exact RA [iv f] (⟨rfl, j.pk [0]⟩)
 refine KA (MW 3 (wV (.int .u64 (IntKind.u64.wrap ((IntKind.u64.wrap ((IntKind.u64.wrap (b.seed * 6364136223846793005)) + (IntKind.u64.wrap f))) + 843843))) h (eL false 1 2 (j.blk 0 rfl)) (MW 4 (NC ?_))))
 cases hm
 exact RA [iv (w64 (gxAnd .u64 ((IntKind.u64.wrap ((IntKind.u64.wrap ((IntKind.u64.wrap (b.seed * 6364136223846793005)) + (IntKind.u64.wrap f))) + 843843)).fdiv (2 ^ 40)) 255))] (⟨rfl, j.pk [0]⟩)
end Go.Proofs.YtllhajkgkghhdaaGreat
set_option linter.unusedVariables false
set_option linter.unusedSimpArgs false
set_option maxRecDepth 100000
set_option maxHeartbeats 4000000
namespace Go.Proofs.YtllhajkgkghhdaaGreat
open Go.Gx
theorem c_s_l1Cur_pick (w : World) (b : l1Cur) (f g) (k : rdS Gx.encU8 w b.code f g) (c : Nat) (d : Int) (hA : ∀ q ∈ List.flatten [(BK c 110 [SL f b.code g, iv b.at_, .int .u64 b.seed])], w.heap[q.1]? = some q.2) (hN : (idsOf [(BK c 110 [SL f b.code g, iv b.at_, .int .u64 b.seed])]).Nodup) (l : apartX (idsOf [(BK c 110 [SL f b.code g, iv b.at_, .int .u64 b.seed])]) b.code f) {r : Int × Int × Int} (hm : M.s_l1Cur_pick b d = some r) :
  Calls Tryz.prog 100 #[pB c 0, iv d] w fun e w' => e = .returned (iv r.1) ∧ Mem (idsOf [(BK c 110 [SL f b.code g, iv b.at_, .int .u64 b.seed])]) w w' [(BK c 110 [SL f b.code g, iv r.2.1, .int .u64 r.2.2])] := by
 unfold M.s_l1Cur_pick at hm
 refine cE Tryz.func100 ?_
 have M0 := Mem.start' w [(BK c 110 [SL f b.code g, iv b.at_, .int .u64 b.seed])] hA hN
 refine QA (MW 1 (NB (MW 2 (NO (GT hm (fun o hm => ?_) fun o hm => ?_)))))
 ·refine QA (MW 1 (ND ?_))
  obtain rfl := HS hm
  exact RA [iv 0] (⟨rfl, M0.pk [0]⟩)
 refine KA (MW 1 (GD hm fun h E hm => WC ((c_s_l1Cur_next w b f g (k.memX l M0) c (M0.hasPick [0]) (M0.nodupPick [0] (by kernel_rfl)) (apartX.old k l M0 [0]) E).mono ?_)))
 rintro e_ n ⟨rfl, v⟩
 have i := M0.callF' [0] [] (by kernel_rfl) v
 refine ⟨_, rfl, ?_⟩
 refine MW 1 (NB (MW 2 (NO (GD hm fun j C B => G_meet (fun a w' => Mem (idsOf [(BK c 110 [SL f b.code g, iv b.at_, .int .u64 b.seed])]) w w' [(BK c 110 [SL f b.code g, iv j.2.1, .int .u64 j.2.2])] ∧ Sat Tryz.f100.ntmps [(1, iv d), (5, iv j.1)] a) ?_ ?_))))
 ·have hm := C
  refine GT hm (fun t hm => ?_) fun t hm => ?_
  ·refine GR (MW 3 (GD hm fun G F hm => WC ((c_s_l1Cur_next n (⟨b.code, h.2.1, h.2.2⟩ : l1Cur) f g (k.memX l i) c (i.hasPick [0]) (i.nodupPick [0] (by kernel_rfl)) (apartX.old k l i [0]) F).mono ?_)))
   rintro e_ H ⟨rfl, x⟩
   have y := i.callF' [0] [] (by kernel_rfl) x
   refine ⟨_, rfl, ?_⟩
   refine MW 2 (WN ?_)
   obtain rfl := HS hm
   exact NM fun a ha => ⟨y.pk [0], ha.s⟩
  refine GK ?_
  obtain rfl := HS hm
  exact NM fun a ha => ⟨i.pk [0], ha.s⟩
 intro I u ⟨z, A⟩
 refine N_use A ?_
 have hm := B
 refine NF (MW 2 (GD hm fun m D hm => wV (iv m) u (E_rem _ _ _ _ j.1 d m rfl (by kernel_rfl) (by kernel_rfl) D) (wR 1 [(4, iv m)] u (NC ?_))))
 obtain rfl := HS hm
 exact RA [iv m] (⟨rfl, z.pk [0]⟩)
theorem c_s_NewMachine (w : World) (H : List Route) (J I) (bf : rdS encRoute w H J I) (C : Int) {r : Machine × Bool} (hm : M.s_NewMachine H C = some r) :
  Calls Tryz.prog 46 #[SL J H I, iv C] w fun e w' => ∃ bh bb bm bi bc bn bj bd bo bk be bp bq, e = .returned (.tuple #[.agg #[SL bh r.1.Routes bb, SL bi r.1.Enabled bc, SL bj r.1.Raised bd, SL bk r.1.Cpus be], .bool r.2]) ∧ ownS encRoute r.1.Routes bh bb bm ∧ ownS Gx.encB r.1.Enabled bi bc bn ∧ ownS Gx.encB r.1.Raised bj bd bo ∧ ownD deepInterface r.1.Cpus bk be bp bq ∧ Mem [] w w' [bm, bn, bo, bp, bq] := by
 unfold M.s_NewMachine at hm
 refine cE Tryz.func46 ?_
 have M0 := Mem.refl [] w
 refine QA (wN (CE 32 [SN, SN, SN, SN]) M0 fun u ay a4 => MW 1 (NB (MW 2 (GD hm fun bl c1 hm => WD (c_s_l21Routes ay H J I (bf.mem0 a4) C c1) a4 fun bs a5 => MW 1 (NO (GT hm (fun am hm => ?_) fun am hm => ?_))))))
 ·refine QA (MW 1 (wS true 4 0 (.agg #[SN, SN, SN, SN]) 0 [SN, SN, SN, SN] a5 rfl fun c9 a6 => MW 1 (ND ?_)))
  obtain rfl := HS hm
  exact N_ret [.agg #[SN, SN, SN, SN], .bool false] (RX true 4 0 (a6.blk 0 rfl) (rC RVs_nil)) (⟨none, 0, [], none, 0, [], none, 0, [], none, 0, [], [], rfl, ownS_nil, ownS_nil, ownS_nil, ownD_nil, a6.pk [100000, 100001, 100002, 100003, 100004]⟩)
 refine GK (TN (GS (GD hm fun y cn hm => GD hm fun z cq hm => GD hm fun A cr hm => GU [(0, SL J H I), (1, iv C), (4, pB u 0), (11, .bool (!bl))] (DL 8 [[],[],[0,1],[],[],[],[],[]] [[],[],[0],[],[],[],[],[]] (EM 8) [[],[],[],[],[],[],[2,3,4,5],[]] [[],[],[],[],[],[],[2,3,4,5],[]] (EM 8) (fun _ => []) [fun f v s => ∃ T Q, v = (.slice T ([] : List Route).length Q : Value) ∧ ownS encRoute ([] : List Route) T Q s, QV (.slice J H.length I), fun f v s => ∃ n d, v = (.slice n y.length d : Value) ∧ ownS encRoute y n d s, fun f v s => ∃ q l, v = (.slice q z.length l : Value) ∧ ownS Gx.encB z q l s, fun f v s => ∃ t m, v = (.slice t A.length m : Value) ∧ ownS Gx.encB A t m s, fun f v s => ∃ G F P W, v = (.slice G ([] : List Interface).length F : Value) ∧ s = (P ++ W) ∧ ownD deepInterface ([] : List Interface) G F P W, fun f v s => v = (.agg #[(atPath (f 2) []), (atPath (f 3) []), (atPath (f 4) []), (atPath (f 5) [])] : Value) ∧ s = [], fun f v s => ∃ x, v = (pB x 0 : Value) ∧ s = (BK x 32 [SN, SN, SN, SN])] [] [2, 3, 4, 5, 6, 7] [2, 3, 4, 5, 7] (a5.preNil 8) (AC ?_ (AC ?_ (AC ?_ (AC ?_ (AC ?_ (AC ?_ (AC ?_ (AC ?_ AN)))))))) ?_))))
 ·intro c V R dl bv
  exact wL (E := encRoute) ([] : List Route) 0 [] 129 bv fun T Q c5 dm ao bw => WN (oE (SL T ([] : List Route) Q) c5 ⟨T, Q, rfl, ao⟩ (Mem.mid bw))
 ·intro c V R da bx
  exact OM ⟨rfl, rfl⟩ bx
 ·intro c V v0_ hb0_
  obtain ⟨T, Q, rfl, ao⟩ := hb0_
  rintro v1_ ⟨rfl, _⟩ R dn a7
  exact wA 16 [iv 0, iv 0] 2 a7 ao (bf.mem0 a7) cn fun n d c6 dp ap bz => WN (oE (SL n y d) c6 ⟨n, d, rfl, ap⟩ (Mem.takeOver bz))
 ·intro c V R dq b0
  exact W_make (E := Gx.encB) _ _ _ 8 1 [.bool false] (false : Bool) b0 (by kernel_rfl) rfl (by kernel_rfl) (by kernel_rfl) (by kernel_rfl) (by kernel_rfl) (by kernel_rfl) cq fun q l c7 dr aq b1 => WN (oE (SL q z l) c7 ⟨q, l, rfl, aq⟩ (Mem.mid b1))
 ·intro c V R ds b2
  exact W_make (E := Gx.encB) _ _ _ 8 1 [.bool false] (false : Bool) b2 (by kernel_rfl) rfl (by kernel_rfl) (by kernel_rfl) (by kernel_rfl) (by kernel_rfl) (by kernel_rfl) cr fun t m c8 dt ar b3 => WN (oE (SL t A m) c8 ⟨t, m, rfl, ar⟩ (Mem.mid b3))
 ·intro c V R du b4
  exact W_litD (D := deepInterface) (s1 := []) [] ([] : List Interface) rfl 0 [] 87 b4 (by kernel_rfl) (by kernel_rfl) (by kernel_rfl) (by kernel_rfl) (by kernel_rfl) ownI_nil fun G F P dv au b5 => WN (oE (.slice G ([] : List Interface).length F) (P ++ []) ⟨G, F, P, [], rfl, rfl, au⟩ (Mem.mid (by rw [List.append_nil]; exact b5)))
 ·intro c V v2_ hb2_
  obtain ⟨_, n, d, rfl, _⟩ := hb2_
  intro v3_ hb3_
  obtain ⟨_, q, l, rfl, _⟩ := hb3_
  intro v4_ hb4_
  obtain ⟨_, t, m, rfl, _⟩ := hb4_
  intro v5_ hb5_
  obtain ⟨_, G, F, _, _, rfl, _⟩ := hb5_
  intro R db b6
  exact OM ⟨rfl, rfl⟩ b6
 ·intro c V R dw b7
  exact wN (CE 32 [SN, SN, SN, SN]) b7 fun x dx b8 => WN (oE (pB x 0) (BK x 32 [SN, SN, SN, SN]) ⟨x, rfl, rfl⟩ (Mem.mid b8))
 intro c V v2_ hb2_
 obtain ⟨n, d, rfl, ap⟩ := hb2_
 intro v3_ hb3_
 obtain ⟨q, l, rfl, aq⟩ := hb3_
 intro v4_ hb4_
 obtain ⟨t, m, rfl, ar⟩ := hb4_
 intro v5_ hb5_
 obtain ⟨G, F, P, W, rfl, hs5_, au⟩ := hb5_
 intro v6_ hb6_
 obtain ⟨hv6_, _⟩ := hb6_
 obtain rfl : v6_ = (.agg #[SL n y d, SL q z l, SL t A m, SL G ([] : List Interface) F] : Value) := hv6_.trans (by kernel_rfl)
 intro v7_ hb7_
 obtain ⟨x, rfl, hs7_⟩ := hb7_
 intro bt b9
 have ab : Mem [] w bt [(BK u 32 [SN, SN, SN, SN]), (c 2), (c 3), (c 4), P, W, (BK x 32 [SN, SN, SN, SN])] := b9.permF (by simp [hs5_, hs7_, SL])
 refine wS true 4 0 (.agg #[SL n y d, SL q z l, SL t A m, SL G ([] : List Interface) F]) 6 [SL n y d, SL q z l, SL t A m, SL G ([] : List Interface) F] ab rfl fun dc ca => NB (MW 1 (NO (GD hm fun S c3 ct => G_meet (fun a w' => ∃ O L ag ah, ownD deepInterface S O L ag ah ∧ Mem [] w w' [(BK u 32 [SN, SN, SN, SN]), (c 2), (c 3), (c 4), (BK x 32 [SL n y d, SL q z l, SL t A m, SL O S L]), ag, ah] ∧ Sat Tryz.f46.ntmps [(4, pB u 0), (6, pB x 0)] a) ?_ ?_)))
 ·refine GB (G_while (σ := Int × List Interface) (ρ := List Interface) (fun B a w' => ∃ N K X U, ownD deepInterface B.2 N K X U ∧ Mem [] w w' [(BK u 32 [SN, SN, SN, SN]), (c 2), (c 3), (c 4), (BK x 32 [SL n y d, SL q z l, SL t A m, SL N B.2 K]), X, U] ∧ Sat Tryz.f46.ntmps [(1, iv C), (4, pB u 0), (6, pB x 0), (7, iv B.1)] a) c3 (fun a ha => ⟨G, F, P, W, au, ca.pk [0, 1, 2, 3, 6, 4, 5], ha.s⟩) ?_)
  clear hm
  intro B d0 hm c0 di az ⟨N, K, X, U, bg, ai, cl⟩
  refine G_use cl (QB (MW 3 (NO (GT hm (fun an hm => ?_) fun an hm => ?_))))
  ·refine GK (TN (GS (GB (GR (MW 1 (wV (SL N B.2 K) az (eL false 1 3 (ai.blk 4 rfl)) (wL (E := Gx.encI) ([] : List Int) 0 [] 3 ai fun ae ac Y dd cv cb => MW 4 (wL (E := encSlot) [(⟨0, 0, 0⟩ : Slot), (⟨0, 0, 0⟩ : Slot), (⟨0, 0, 0⟩ : Slot), (⟨0, 0, 0⟩ : Slot)] 4 [iv 0, iv 0, iv 0, iv 0, iv 0, iv 0, iv 0, iv 0, iv 0, iv 0, iv 0, iv 0] 117 cb fun av ak Z dy cw cc => wL (E := encWaiter) ([] : List Waiter) 0 [] 142 cc fun aw al aa a0 cx cd => wR 2 [(1, iv C), (4, pB u 0), (6, pB x 0), (7, iv B.1), (26, SL N B.2 K), (35, .agg #[iv 16, SL ae ([] : List Int) ac, SL av [(⟨0, 0, 0⟩ : Slot), (⟨0, 0, 0⟩ : Slot), (⟨0, 0, 0⟩ : Slot), (⟨0, 0, 0⟩ : Slot)] ak, SL aw ([] : List Waiter) al])] a0 ?_))))))))
   have ce : Mem [] w a0 [(BK u 32 [SN, SN, SN, SN]), (c 2), (c 3), (c 4), (BK x 32 [SL n y d, SL q z l, SL t A m, SL N B.2 K]), X, U, Y, Z, aa] := cd.pk [0, 1, 2, 3, 4, 5, 6, 7, 8, 9]
   have cf : Mem [] w a0 [(BK u 32 [SN, SN, SN, SN]), (c 2), (c 3), (c 4), (BK x 32 [SL n y d, SL q z l, SL t A m, SL N B.2 K]), X, U, (Y ++ (Z ++ (aa ++ [])))] := ce.regroup (by simp)
   refine W_litD (D := deepInterface) [((⟨16, ([] : List Int), (⟨[(⟨0, 0, 0⟩ : Slot), (⟨0, 0, 0⟩ : Slot), (⟨0, 0, 0⟩ : Slot), (⟨0, 0, 0⟩ : Slot)], ([] : List Waiter)⟩ : Queue)⟩ : Interface), plOf [(ae, ac), (av, ak), (aw, al)])] [(⟨16, ([] : List Int), (⟨[(⟨0, 0, 0⟩ : Slot), (⟨0, 0, 0⟩ : Slot), (⟨0, 0, 0⟩ : Slot), (⟨0, 0, 0⟩ : Slot)], ([] : List Waiter)⟩ : Queue)⟩ : Interface)] rfl 1 [iv 16, SL ae ([] : List Int) ac, SL av [(⟨0, 0, 0⟩ : Slot), (⟨0, 0, 0⟩ : Slot), (⟨0, 0, 0⟩ : Slot), (⟨0, 0, 0⟩ : Slot)] ak, SL aw ([] : List Waiter) al] 87 cf (by kernel_rfl) (by kernel_rfl) (by kernel_rfl) (by kernel_rfl) (by kernel_rfl) (ownI_cons (i := ⟨Int, Gx.encI, _, _, _⟩) cv (ownI_cons (i := ⟨Slot, encSlot, _, _, _⟩) cw (ownI_cons (i := ⟨Waiter, encWaiter, _, _, _⟩) cx ownI_nil))) fun dk ck br dz cy a8 => GD hm fun aj co hm => ?_
   obtain ⟨dh, c4, c2, cp⟩ := id cy
   refine W_appendD (D := deepInterface) (us := dh) (s2 := (Y ++ (Z ++ (aa ++ [])))) _ _ _ 80 [iv 0, SN, SN, SN] 5 ck a8 bg (by kernel_rfl) (by kernel_rfl) (by kernel_rfl) rfl (by kernel_rfl) (by kernel_rfl) (by kernel_rfl) (by kernel_rfl) (by kernel_rfl) (by kernel_rfl) (c2.r a8 8) c4 cp co ?_
   intro af ad ax a3 cz cg
   have ch : Mem [] w a3 [(BK u 32 [SN, SN, SN, SN]), (c 2), (c 3), (c 4), (BK x 32 [SL n y d, SL q z l, SL t A m, SL N B.2 K]), ax, br, U, (Y ++ (Z ++ (aa ++ [])))] := cg.pk [0, 1, 2, 3, 4, 5, 8, 6, 7]
   have ci : Mem [] w a3 [(BK u 32 [SN, SN, SN, SN]), (c 2), (c 3), (c 4), (BK x 32 [SL n y d, SL q z l, SL t A m, SL N B.2 K]), ax, br, (U ++ (Y ++ (Z ++ (aa ++ []))))] := ch.regroup (by simp)
   refine MW 1 (wS false 1 3 (SL af aj ad) 4 [SL n y d, SL q z l, SL t A m, SL af aj ad] ci rfl fun de cj => NG (MW 3 (WN ?_)))
   cases hm
   exact N_loop fun a ha => ⟨_, rfl, af, ad, ax, (U ++ (Y ++ (Z ++ (aa ++ [])))), cz, cj.pk [0, 1, 2, 3, 4, 5, 7], ha.s⟩
  refine XA ?_
  obtain rfl := HS hm
  obtain rfl := c0 _ rfl
  exact NM fun a ha => ⟨N, K, X, U, bg, ai.pk [0, 1, 2, 3, 4, 5, 6], ha.s⟩
 intro dj df ⟨O, L, ag, ah, cu, a9, cm⟩
 refine N_use cm ?_
 have hm := ct
 refine NF (wV (.agg #[SL n y d, SL q z l, SL t A m, SL O S L]) df (eL true 4 0 (a9.blk 4 rfl)) (wS true 4 0 (.agg #[SL n y d, SL q z l, SL t A m, SL O S L]) 0 [SL n y d, SL q z l, SL t A m, SL O S L] a9 rfl fun dg ba => MW 1 (NC ?_)))
 obtain rfl := HS hm
 exact N_ret [.agg #[SL n y d, SL q z l, SL t A m, SL O S L], .bool true] (RX true 4 0 (ba.blk 0 rfl) (rC RVs_nil)) (⟨n, d, (c 2), q, l, (c 3), t, m, (c 4), O, L, ag, ah, rfl, ap, aq, ar, cu, ba.pk [1, 2, 3, 5, 6]⟩)
theorem c_s_l1Cur_one (w : World) (a : l1Cur) (c d) (g : rdS Gx.encU8 w a.code c d) (b : Nat) (f : Int) (hA : ∀ q ∈ List.flatten [(BK b 110 [SL c a.code d, iv a.at_, .int .u64 a.seed])], w.heap[q.1]? = some q.2) (hN : (idsOf [(BK b 110 [SL c a.code d, iv a.at_, .int .u64 a.seed])]).Nodup) (h : apartX (idsOf [(BK b 110 [SL c a.code d, iv a.at_, .int .u64 a.seed])]) a.code c) {r : Bool × Int × Int} (hm : M.s_l1Cur_one a f = some r) :
  Calls Tryz.prog 101 #[pB b 0, iv f] w fun e w' => e = .returned (.bool r.1) ∧ Mem (idsOf [(BK b 110 [SL c a.code d, iv a.at_, .int .u64 a.seed])]) w w' [(BK b 110 [SL c a.code d, iv r.2.1, .int .u64 r.2.2])] := by
 unfold M.s_l1Cur_one at hm
 refine cE Tryz.func101 ?_
 have M0 := Mem.start' w [(BK b 110 [SL c a.code d, iv a.at_, .int .u64 a.seed])] hA hN
 refine QA (MW 1 (NA (MW 2 (GD hm fun i l hm => WC ((c_s_l1Cur_pick w a c d (g.memX h M0) b f (M0.hasPick [0]) (M0.nodupPick [0] (by kernel_rfl)) (apartX.old g h M0 [0]) l).mono ?_)))))
 rintro e_ m ⟨rfl, j⟩
 have k := M0.callF' [0] [] (by kernel_rfl) j
 refine ⟨_, rfl, ?_⟩
 refine MW 2 (NC ?_)
 cases hm
 exact RA [.bool (i.1 == 0)] (⟨rfl, k.pk [0]⟩)
theorem c_s_l1Most (w : World) (a : Int) (b : Int) {r : Int} (hm : M.s_l1Most a b = some r) :
  Calls Tryz.prog 148 #[iv a, iv b] w fun e w' => e = .returned (iv r) ∧ Mem [] w w' [] := by
 unfold M.s_l1Most at hm
 refine cE Tryz.func148 ?_
 have M0 := Mem.refl [] w
 refine QA (MW 1 (NB (MW 3 (NO (GT hm (fun c hm => ?_) fun c hm => ?_)))))
 ·refine QA (MW 2 (ND ?_))
  obtain rfl := HS hm
  exact RA [iv a] (⟨rfl, M0.pk []⟩)
 refine KA (MW 2 (NC ?_))
 obtain rfl := HS hm
 exact RA [iv b] (⟨rfl, M0.pk []⟩)
theorem c_s_l1Cur_among (w : World) (a : l1Cur) (c d) (l : rdS Gx.encU8 w a.code c d) (b : Nat) (f : List Int) (g h) (m : rdS Gx.encI w f g h) (hA : ∀ q ∈ List.flatten [(BK b 110 [SL c a.code d, iv a.at_, .int .u64 a.seed])], w.heap[q.1]? = some q.2) (hN : (idsOf [(BK b 110 [SL c a.code d, iv a.at_, .int .u64 a.seed])]).Nodup) (n : apartX (idsOf [(BK b 110 [SL c a.code d, iv a.at_, .int .u64 a.seed])]) a.code c) (o : apartX (idsOf [(BK b 110 [SL c a.code d, iv a.at_, .int .u64 a.seed])]) f g) {r : Int × Int × Int} (hm : M.s_l1Cur_among a f = some r) :
  Calls Tryz.prog 97 #[pB b 0, SL g f h] w fun e w' => e = .returned (iv r.1) ∧ Mem (idsOf [(BK b 110 [SL c a.code d, iv a.at_, .int .u64 a.seed])]) w w' [(BK b 110 [SL c a.code d, iv r.2.1, .int .u64 r.2.2])] := by
 unfold M.s_l1Cur_among at hm
 refine cE Tryz.func97 ?_
 have M0 := Mem.start' w [(BK b 110 [SL c a.code d, iv a.at_, .int .u64 a.seed])] hA hN
 refine QA (MW 1 (NA (MW 4 (GD hm fun u x hm => WC ((c_s_l1Cur_pick w a c d (l.memX n M0) b (f.length : Int) (M0.hasPick [0]) (M0.nodupPick [0] (by kernel_rfl)) (apartX.old l n M0 [0]) x).mono ?_)))))
 rintro e_ j ⟨rfl, v⟩
 have i := M0.callF' [0] [] (by kernel_rfl) v
 refine ⟨_, rfl, ?_⟩
 refine GD hm fun k t hm => wV (elemP g (u.1.toNat * 1)) j (eI (m.memX o i) rfl t) (wV (iv k) j (eE false 1 0 (u.1.toNat * 1) (m.memX o i) t) (MW 1 (NC ?_)))
 obtain rfl := HS hm
 exact RA [iv k] (⟨rfl, i.pk [0]⟩)
theorem c_s_l1Cur_machStep (w : World) (d : l1Cur) (j l) (m : rdS Gx.encU8 w d.code j l) (c : Nat) (t : Machine) (T ab) (dy : rdS encRoute w t.Routes T ab) (U ac) (dz : rdS Gx.encB w t.Enabled U ac) (V ad) (d0 : rdS Gx.encB w t.Raised V ad) (W S) (hA : ∀ q ∈ List.flatten [(BK c 110 [SL j d.code l, iv d.at_, .int .u64 d.seed])], w.heap[q.1]? = some q.2) (hN : (idsOf [(BK c 110 [SL j d.code l, iv d.at_, .int .u64 d.seed])]).Nodup) (n : apartX (idsOf [(BK c 110 [SL j d.code l, iv d.at_, .int .u64 d.seed])]) d.code j) (d1 : apartX (idsOf [(BK c 110 [SL j d.code l, iv d.at_, .int .u64 d.seed])]) t.Routes T) (d2 : apartX (idsOf [(BK c 110 [SL j d.code l, iv d.at_, .int .u64 d.seed])]) t.Enabled U) (d3 : apartX (idsOf [(BK c 110 [SL j d.code l, iv d.at_, .int .u64 d.seed])]) t.Raised V) (d4 : rdX (idsOf [(BK c 110 [SL j d.code l, iv d.at_, .int .u64 d.seed])]) deepInterface w t.Cpus W S) {r : MachStep × Int × Int} (hm : M.s_l1Cur_machStep d t = some r) :
  Calls Tryz.prog 93 #[pB c 0, .agg #[SL T t.Routes ab, SL U t.Enabled ac, SL V t.Raised ad, SL W t.Cpus S]] w fun e w' => e = .returned (.agg #[iv r.1.Kind, iv r.1.Irq, iv r.1.Cpu, iv r.1.Value]) ∧ Mem (idsOf [(BK c 110 [SL j d.code l, iv d.at_, .int .u64 d.seed])]) w w' [(BK c 110 [SL j d.code l, iv r.2.1, .int .u64 r.2.2])] := by
 unfold M.s_l1Cur_machStep at hm
 refine cE Tryz.func93 ?_
 have M0 := Mem.start' w [(BK c 110 [SL j d.code l, iv d.at_, .int .u64 d.seed])] hA hN
 refine QA (wN (CE 32 [SL T t.Routes ab, SL U t.Enabled ac, SL V t.Raised ad, SL W t.Cpus S]) M0 fun cf eb b4 => wN (CE 51 [iv 0, iv 0, iv 0, iv 0]) b4 fun f X au => NA (MW 2 (wV (SL W t.Cpus S) X (eL false 1 3 (au.blk 1 rfl)) (MW 1 (GD hm fun bo cw hm => WD (c_s_l1Most X 1 (t.Cpus.length : Int) cw) au fun dd P => GD hm fun i cx hm => WC ((c_s_l1Cur_pick dd d j l (m.memX n P) c bo (P.hasPick [0]) (P.nodupPick [0] (by kernel_rfl)) (apartX.old m n P [0]) cx).mono ?_))))))
 rintro e_ aq ⟨rfl, bs⟩
 have Q := P.callF' [0] [1, 2] (by kernel_rfl) bs
 refine ⟨_, rfl, ?_⟩
 refine MW 1 (NB (MW 1 (GD hm fun h cy hm => WC ((c_s_l1Cur_pick aq (⟨d.code, i.2.1, i.2.2⟩ : l1Cur) j l (m.memX n Q) c 12 (Q.hasPick [2]) (Q.nodupPick [2] (by kernel_rfl)) (apartX.old m n Q [2]) cy).mono ?_))))
 rintro e_ ar ⟨rfl, bt⟩
 have aa := Q.callF' [2] [0, 1] (by kernel_rfl) bt
 refine ⟨_, rfl, ?_⟩
 refine NO (GB (QB (MW 2 (NO (GD hm fun c8 cq cl => G_meet (fun a w' => Mem (idsOf [(BK c 110 [SL j d.code l, iv d.at_, .int .u64 d.seed])]) w w' [(BK f 51 [iv 0, iv 0, iv 0, iv 0]), (BK c 110 [SL j d.code l, iv h.2.1, .int .u64 h.2.2])] ∧ Sat Tryz.f93.ntmps [(0, pB c 0), (4, pB f 0), (5, iv i.1), (13, iv h.1), (14, .bool c8)] a) ?_ ?_)))))
 ·have hm := cq
  refine GT hm (fun ae hm => ?_) fun ae hm => ?_
  ·refine GK ?_
   obtain rfl := HS hm
   exact NM fun a ha => ⟨aa.pk [1, 2], ha.s⟩
  refine QA (MW 2 (NO (GD hm fun c9 cr cm => G_meet (fun a w' => Mem (idsOf [(BK c 110 [SL j d.code l, iv d.at_, .int .u64 d.seed])]) w w' [(BK f 51 [iv 0, iv 0, iv 0, iv 0]), (BK c 110 [SL j d.code l, iv h.2.1, .int .u64 h.2.2])] ∧ Sat Tryz.f93.ntmps [(0, pB c 0), (4, pB f 0), (5, iv i.1), (13, iv h.1), (14, .bool c9)] a) ?_ ?_)))
  ·have hm := cr
   refine GT hm (fun af hm => ?_) fun af hm => ?_
   ·refine GK ?_
    obtain rfl := HS hm
    exact NM fun a ha => ⟨aa.pk [1, 2], ha.s⟩
   refine GR (MW 2 (WN ?_))
   obtain rfl := HS hm
   exact NM fun a ha => ⟨aa.pk [1, 2], ha.s⟩
  intro dt ec ⟨b5, cg⟩
  refine N_use cg ?_
  have hm := cm
  obtain rfl := HS hm
  exact NM fun a ha => ⟨b5.pk [0, 1], ha.s⟩
 intro du Y ⟨C, ch⟩
 refine N_use ch ?_
 have hm := cl
 refine TN (GT hm (fun ag hm => ?_) fun ag hm => ?_)
 ·refine QA (MW 1 (GD hm fun K cz hm => WC ((c_s_l1Cur_pick Y (⟨d.code, h.2.1, h.2.2⟩ : l1Cur) j l (m.memX n C) c 8 (C.hasPick [1]) (C.nodupPick [1] (by kernel_rfl)) (apartX.old m n C [1]) cz).mono ?_)))
  rintro e_ de ⟨rfl, bu⟩
  have b6 := C.callF' [1] [0] (by kernel_rfl) bu
  refine ⟨_, rfl, ?_⟩
  refine MW 1 (wS true 4 0 (.agg #[iv 1, iv K.1, iv 0, iv 0]) 0 [iv 1, iv K.1, iv 0, iv 0] b6 rfl fun ed av => NC (BR (TR ?_)))
  obtain rfl := HS hm
  exact N_ret [.agg #[iv 1, iv K.1, iv 0, iv 0]] (RX true 4 0 (av.blk 0 rfl) RVs_nil) (⟨rfl, av.pk [1]⟩)
 refine QB (MW 2 (NO (GD hm fun da ct cn => G_meet (fun a w' => Mem (idsOf [(BK c 110 [SL j d.code l, iv d.at_, .int .u64 d.seed])]) w w' [(BK f 51 [iv 0, iv 0, iv 0, iv 0]), (BK c 110 [SL j d.code l, iv h.2.1, .int .u64 h.2.2])] ∧ Sat Tryz.f93.ntmps [(0, pB c 0), (4, pB f 0), (5, iv i.1), (13, iv h.1), (21, .bool da)] a) ?_ ?_)))
 ·have hm := ct
  refine GT hm (fun ah hm => ?_) fun ah hm => ?_
  ·refine GK ?_
   obtain rfl := HS hm
   exact NM fun a ha => ⟨C.pk [0, 1], ha.s⟩
  refine GR (wR 2 [(0, pB c 0), (4, pB f 0), (5, iv i.1), (13, iv h.1), (21, .bool (h.1 == 4))] Y (WN ?_))
  obtain rfl := HS hm
  exact NM fun a ha => ⟨C.pk [0, 1], ha.s⟩
 intro dv Z ⟨R, ci⟩
 refine N_use ci ?_
 have hm := cn
 refine TN (GT hm (fun ai hm => ?_) fun ai hm => ?_)
 ·refine QA (MW 1 (wS true 4 0 (.agg #[iv 2, iv 0, iv 0, iv 0]) 0 [iv 2, iv 0, iv 0, iv 0] R rfl fun ee aw => NC (BR (TR ?_))))
  obtain rfl := HS hm
  exact N_ret [.agg #[iv 2, iv 0, iv 0, iv 0]] (RX true 4 0 (aw.blk 0 rfl) RVs_nil) (⟨rfl, aw.pk [1]⟩)
 refine QB (MW 2 (NO (GD hm fun db cu co => G_meet (fun a w' => Mem (idsOf [(BK c 110 [SL j d.code l, iv d.at_, .int .u64 d.seed])]) w w' [(BK f 51 [iv 0, iv 0, iv 0, iv 0]), (BK c 110 [SL j d.code l, iv h.2.1, .int .u64 h.2.2])] ∧ Sat Tryz.f93.ntmps [(0, pB c 0), (4, pB f 0), (5, iv i.1), (13, iv h.1), (25, .bool db)] a) ?_ ?_)))
 ·have hm := cu
  refine GT hm (fun aj hm => ?_) fun aj hm => ?_
  ·refine GK ?_
   obtain rfl := HS hm
   exact NM fun a ha => ⟨R.pk [0, 1], ha.s⟩
  refine QA (MW 2 (NO (GD hm fun dc cv cp => G_meet (fun a w' => Mem (idsOf [(BK c 110 [SL j d.code l, iv d.at_, .int .u64 d.seed])]) w w' [(BK f 51 [iv 0, iv 0, iv 0, iv 0]), (BK c 110 [SL j d.code l, iv h.2.1, .int .u64 h.2.2])] ∧ Sat Tryz.f93.ntmps [(0, pB c 0), (4, pB f 0), (5, iv i.1), (13, iv h.1), (25, .bool dc)] a) ?_ ?_)))
  ·have hm := cv
   refine GT hm (fun ak hm => ?_) fun ak hm => ?_
   ·refine GK ?_
    obtain rfl := HS hm
    exact NM fun a ha => ⟨R.pk [0, 1], ha.s⟩
   refine GR (MW 2 (WN ?_))
   obtain rfl := HS hm
   exact NM fun a ha => ⟨R.pk [0, 1], ha.s⟩
  intro dw ef ⟨b7, cj⟩
  refine N_use cj ?_
  have hm := cp
  obtain rfl := HS hm
  exact NM fun a ha => ⟨b7.pk [0, 1], ha.s⟩
 intro dx B ⟨u, ck⟩
 refine N_use ck ?_
 have hm := co
 refine TN (GT hm (fun al hm => ?_) fun al hm => ?_)
 ·refine QA (MW 2 (wS true 4 0 (.agg #[iv 3, iv 0, iv i.1, iv 0]) 0 [iv 3, iv 0, iv i.1, iv 0] u rfl fun eg ax => NC (BR (TR ?_))))
  obtain rfl := HS hm
  exact N_ret [.agg #[iv 3, iv 0, iv i.1, iv 0]] (RX true 4 0 (ax.blk 0 rfl) RVs_nil) (⟨rfl, ax.pk [1]⟩)
 refine QA (MW 2 (NO (GT hm (fun am hm => ?_) fun am hm => ?_)))
 ·refine QA (MW 2 (wS true 4 0 (.agg #[iv 4, iv 0, iv i.1, iv 0]) 0 [iv 4, iv 0, iv i.1, iv 0] u rfl fun eh ay => NC (BR (TR ?_))))
  obtain rfl := HS hm
  exact N_ret [.agg #[iv 4, iv 0, iv i.1, iv 0]] (RX true 4 0 (ay.blk 0 rfl) RVs_nil) (⟨rfl, ay.pk [1]⟩)
 refine QA (MW 2 (NO (GT hm (fun an hm => ?_) fun an hm => ?_)))
 ·refine QA (wR 2 [(4, pB f 0), (37, iv i.1), (38, pB c 0)] B (wL (E := Gx.encI) [16, 16, 8, 4, 0] 5 [iv 16, iv 16, iv 8, iv 4, iv 0] 3 u fun bi a6 d5 df bc D => GD hm fun L c0 hm => WC ((c_s_l1Cur_among df (⟨d.code, h.2.1, h.2.2⟩ : l1Cur) j l (m.memX n D) c [16, 16, 8, 4, 0] bi a6 (bc.r D 2) (D.hasPick [1]) (D.nodupPick [1] (by kernel_rfl)) (apartX.old m n D [1]) (apartX.own bc D 2 (by kernel_rfl) [1] (by kernel_rfl)) c0).mono ?_)))
  rintro e_ dg ⟨rfl, bv⟩
  have b8 := D.callF' [1] [0, 2] (by kernel_rfl) bv
  refine ⟨_, rfl, ?_⟩
  refine MW 1 (wS true 4 0 (.agg #[iv 5, iv 0, iv i.1, iv L.1]) 0 [iv 5, iv 0, iv i.1, iv L.1] b8 rfl fun ei az => NC (BR (TR ?_)))
  obtain rfl := HS hm
  exact N_ret [.agg #[iv 5, iv 0, iv i.1, iv L.1]] (RX true 4 0 (az.blk 0 rfl) RVs_nil) (⟨rfl, az.pk [2]⟩)
 refine QA (MW 2 (NO (GT hm (fun ao hm => ?_) fun ao hm => ?_)))
 ·refine QA (MW 1 (GD hm fun z c1 hm => WC ((c_s_l1Cur_pick B (⟨d.code, h.2.1, h.2.2⟩ : l1Cur) j l (m.memX n u) c 8 (u.hasPick [1]) (u.nodupPick [1] (by kernel_rfl)) (apartX.old m n u [1]) c1).mono ?_)))
  rintro e_ dh ⟨rfl, bw⟩
  have b9 := u.callF' [1] [0] (by kernel_rfl) bw
  refine ⟨_, rfl, ?_⟩
  refine MW 1 (wL (E := Gx.encI) [1, 1, 0] 3 [iv 1, iv 1, iv 0] 3 b9 fun bj a7 d6 di bd F => GD hm fun N c2 hm => WC ((c_s_l1Cur_among di (⟨d.code, z.2.1, z.2.2⟩ : l1Cur) j l (m.memX n F) c [1, 1, 0] bj a7 (bd.r F 2) (F.hasPick [1]) (F.nodupPick [1] (by kernel_rfl)) (apartX.old m n F [1]) (apartX.own bd F 2 (by kernel_rfl) [1] (by kernel_rfl)) c2).mono ?_))
  rintro e_ dj ⟨rfl, bx⟩
  have ca := F.callF' [1] [0, 2] (by kernel_rfl) bx
  refine ⟨_, rfl, ?_⟩
  refine MW 1 (wS true 4 0 (.agg #[iv 6, iv z.1, iv 0, iv N.1]) 0 [iv 6, iv z.1, iv 0, iv N.1] ca rfl fun ej a0 => NC (BR (TR ?_)))
  obtain rfl := HS hm
  exact N_ret [.agg #[iv 6, iv z.1, iv 0, iv N.1]] (RX true 4 0 (a0.blk 0 rfl) RVs_nil) (⟨rfl, a0.pk [2]⟩)
 refine GK (BN (TN (QB (MW 1 (GD hm fun bp c3 hm => WC ((c_s_l1Cur_one B (⟨d.code, h.2.1, h.2.2⟩ : l1Cur) j l (m.memX n u) c 4 (u.hasPick [1]) (u.nodupPick [1] (by kernel_rfl)) (apartX.old m n u [1]) c3).mono ?_))))))
 rintro e_ bq ⟨rfl, bz⟩
 have a3 := u.callF' [1] [0] (by kernel_rfl) bz
 refine ⟨_, rfl, ?_⟩
 refine NO (GT hm (fun ap hm => ?_) fun ap hm => ?_)
 ·refine QA (MW 1 (wL (E := Gx.encI) [0, 7, 1, 5] 4 [iv 0, iv 7, iv 1, iv 5] 3 a3 fun bk a8 d7 dk be G => GD hm fun x c4 hm => WC ((c_s_l1Cur_among dk (⟨d.code, bp.2.1, bp.2.2⟩ : l1Cur) j l (m.memX n G) c [0, 7, 1, 5] bk a8 (be.r G 2) (G.hasPick [1]) (G.nodupPick [1] (by kernel_rfl)) (apartX.old m n G [1]) (apartX.own be G 2 (by kernel_rfl) [1] (by kernel_rfl)) c4).mono ?_)))
  rintro e_ dl ⟨rfl, b0⟩
  have cb := G.callF' [1] [0, 2] (by kernel_rfl) b0
  refine ⟨_, rfl, ?_⟩
  refine MW 1 (wL (E := Gx.encI) [0, 8, (-1)] 3 [iv 0, iv 8, iv (-1)] 3 cb fun bl a9 d8 dm bf H => GD hm fun y c5 hm => WC ((c_s_l1Cur_among dm (⟨d.code, x.2.1, x.2.2⟩ : l1Cur) j l (m.memX n H) c [0, 8, (-1)] bl a9 (bf.r H 3) (H.hasPick [2]) (H.nodupPick [2] (by kernel_rfl)) (apartX.old m n H [2]) (apartX.own bf H 3 (by kernel_rfl) [2] (by kernel_rfl)) c5).mono ?_))
  rintro e_ dn ⟨rfl, b1⟩
  have cc := H.callF' [2] [0, 1, 3] (by kernel_rfl) b1
  refine ⟨_, rfl, ?_⟩
  refine MW 1 (wL (E := Gx.encI) [0, 2] 2 [iv 0, iv 2] 3 cc fun bm ba d9 dp bg I => GD hm fun A c6 hm => WC ((c_s_l1Cur_among dp (⟨d.code, y.2.1, y.2.2⟩ : l1Cur) j l (m.memX n I) c [0, 2] bm ba (bg.r I 4) (I.hasPick [3]) (I.nodupPick [3] (by kernel_rfl)) (apartX.old m n I [3]) (apartX.own bg I 4 (by kernel_rfl) [3] (by kernel_rfl)) c6).mono ?_))
  rintro e_ dq ⟨rfl, b2⟩
  have cd := I.callF' [3] [0, 1, 2, 4] (by kernel_rfl) b2
  refine ⟨_, rfl, ?_⟩
  refine MW 1 (wL (E := Gx.encI) [0, 17] 2 [iv 0, iv 17] 3 cd fun bn bb ea dr bh J => GD hm fun O c7 hm => WC ((c_s_l1Cur_among dr (⟨d.code, A.2.1, A.2.2⟩ : l1Cur) j l (m.memX n J) c [0, 17] bn bb (bh.r J 5) (J.hasPick [4]) (J.nodupPick [4] (by kernel_rfl)) (apartX.old m n J [4]) (apartX.own bh J 5 (by kernel_rfl) [4] (by kernel_rfl)) c7).mono ?_))
  rintro e_ ds ⟨rfl, b3⟩
  have ce := J.callF' [4] [0, 1, 2, 3, 5] (by kernel_rfl) b3
  refine ⟨_, rfl, ?_⟩
  refine MW 1 (wS true 4 0 (.agg #[iv x.1, iv y.1, iv A.1, iv O.1]) 0 [iv x.1, iv y.1, iv A.1, iv O.1] ce rfl fun ek a4 => ND ?_)
  obtain rfl := HS hm
  exact N_ret [.agg #[iv x.1, iv y.1, iv A.1, iv O.1]] (RX true 4 0 (a4.blk 0 rfl) RVs_nil) (⟨rfl, a4.pk [5]⟩)
 refine KA (MW 1 (wS true 4 0 (.agg #[iv 2, iv 0, iv 0, iv 0]) 0 [iv 2, iv 0, iv 0, iv 0] a3 rfl fun el a5 => NC ?_))
 obtain rfl := HS hm
 exact N_ret [.agg #[iv 2, iv 0, iv 0, iv 0]] (RX true 4 0 (a5.blk 0 rfl) RVs_nil) (⟨rfl, a5.pk [1]⟩)
theorem c_s_l1Cur_slots (w : World) (c : l1Cur) (f g) (m : rdS Gx.encU8 w c.code f g) (b : Nat) (hA : ∀ q ∈ List.flatten [(BK b 110 [SL f c.code g, iv c.at_, .int .u64 c.seed])], w.heap[q.1]? = some q.2) (hN : (idsOf [(BK b 110 [SL f c.code g, iv c.at_, .int .u64 c.seed])]).Nodup) (n : apartX (idsOf [(BK b 110 [SL f c.code g, iv c.at_, .int .u64 c.seed])]) c.code f) {r : (List Slot) × Int × Int} (hm : M.s_l1Cur_slots c = some r) :
  Calls Tryz.prog 231 #[pB b 0] w fun e w' => ∃ ca bt cg, e = .returned (SL ca r.1 bt) ∧ ownS encSlot r.1 ca bt cg ∧ Mem (idsOf [(BK b 110 [SL f c.code g, iv c.at_, .int .u64 c.seed])]) w w' [(BK b 110 [SL f c.code g, iv r.2.1, .int .u64 r.2.2]), cg] := by
 unfold M.s_l1Cur_slots at hm
 refine cE Tryz.func231 ?_
 have M0 := Mem.start' w [(BK b 110 [SL f c.code g, iv c.at_, .int .u64 c.seed])] hA hN
 refine QA (MW 1 (NA (MW 4 (wL (E := encSlot) [(⟨0, 0, 0⟩ : Slot), (⟨0, 0, 0⟩ : Slot), (⟨0, 0, 0⟩ : Slot), (⟨0, 0, 0⟩ : Slot)] 4 [iv 0, iv 0, iv 0, iv 0, iv 0, iv 0, iv 0, iv 0, iv 0, iv 0, iv 0, iv 0] 117 M0 fun an ae fm bj eb T => MW 1 (NB (MW 1 (GD hm fun fj e2 hm => WC ((c_s_l1Cur_pick bj c f g (m.memX n T) b 9 (T.hasPick [0]) (T.nodupPick [0] (by kernel_rfl)) (apartX.old m n T [0]) e2).mono ?_))))))))
 rintro e_ fr ⟨rfl, co⟩
 have c3 := T.callF' [0] [1] (by kernel_rfl) co
 refine ⟨_, rfl, ?_⟩
 refine MW 1 (NO (GD hm fun j fh ea => G_meet (fun a w' => ∃ k l ac, ownS encSlot j.1 k l ac ∧ Mem (idsOf [(BK b 110 [SL f c.code g, iv c.at_, .int .u64 c.seed])]) w w' [(BK b 110 [SL f c.code g, iv j.2.1, .int .u64 j.2.2]), ac] ∧ Sat Tryz.f231.ntmps [(0, pB b 0), (3, SL k j.1 l)] a) ?_ ?_))
 ·refine GB (G_while (σ := List Slot × Int × Int × Int) (ρ := List Slot × Int × Int) (fun d a w' => ∃ i h z, ownS encSlot d.1 i h z ∧ Mem (idsOf [(BK b 110 [SL f c.code g, iv c.at_, .int .u64 c.seed])]) w w' [(BK b 110 [SL f c.code g, iv d.2.2.1, .int .u64 d.2.2.2]), z] ∧ Sat Tryz.f231.ntmps [(0, pB b 0), (3, SL i d.1 h), (4, iv d.2.1)] a) fh (fun a ha => ⟨an, ae, fm, eb, c3.pk [1, 0], ha.s⟩) ?_)
  clear hm
  intro d g2 hm e1 f9 bk ⟨i, h, z, B, P, dm⟩
  refine G_use dm (QB (MW 2 (NO (GT hm (fun a8 hm => ?_) fun a8 hm => ?_))))
  ·refine KD (MW 1 (GD hm fun t e3 hm => WC ((c_s_l1Cur_pick bk (⟨c.code, d.2.2.1, d.2.2.2⟩ : l1Cur) f g (m.memX n P) b 4 (P.hasPick [0]) (P.nodupPick [0] (by kernel_rfl)) (apartX.old m n P [0]) e3).mono ?_)))
   rintro e_ ck ⟨rfl, cp⟩
   have bm := P.callF' [0] [1] (by kernel_rfl) cp
   refine ⟨_, rfl, ?_⟩
   refine NO (GB (QB (MW 2 (NO (GD hm fun fi ec d0 => G_meet (fun a w' => Mem (idsOf [(BK b 110 [SL f c.code g, iv c.at_, .int .u64 c.seed])]) w w' [z, (BK b 110 [SL f c.code g, iv t.2.1, .int .u64 t.2.2])] ∧ Sat Tryz.f231.ntmps [(0, pB b 0), (3, SL i d.1 h), (4, iv d.2.1), (21, iv t.1), (22, .bool fi)] a) ?_ ?_)))))
   ·have hm := ec
    refine GT hm (fun a9 hm => ?_) fun a9 hm => ?_
    ·refine GK ?_
     obtain rfl := HS hm
     exact NM fun a ha => ⟨bm.pk [0, 1], ha.s⟩
    refine GR (MW 2 (WN ?_))
    obtain rfl := HS hm
    exact NM fun a ha => ⟨bm.pk [0, 1], ha.s⟩
   intro ga D ⟨o, dn⟩
   refine N_use dn ?_
   have hm := d0
   refine TN (GD hm fun X ed d1 => G_meet (fun a w' => ∃ Z W ay, ownS encSlot X.1 Z W ay ∧ Mem (idsOf [(BK b 110 [SL f c.code g, iv c.at_, .int .u64 c.seed])]) w w' [(BK b 110 [SL f c.code g, iv X.2.1, .int .u64 X.2.2]), ay] ∧ Sat Tryz.f231.ntmps [(0, pB b 0), (3, SL Z X.1 W), (4, iv d.2.1)] a) ?_ ?_)
   ·have hm := ed
    refine GT hm (fun ba hm => ?_) fun ba hm => ?_
    ·refine QA (wR 2 [(0, pB b 0), (3, SL i d.1 h), (4, iv d.2.1), (26, SL i d.1 h), (27, pB b 0)] D (GD hm fun aa e4 hm => WC ((c_s_l1Cur_pick D (⟨c.code, t.2.1, t.2.2⟩ : l1Cur) f g (m.memX n o) b 8 (o.hasPick [1]) (o.nodupPick [1] (by kernel_rfl)) (apartX.old m n o [1]) e4).mono ?_)))
     rintro e_ cl ⟨rfl, cq⟩
     have U := o.callF' [1] [0] (by kernel_rfl) cq
     refine ⟨_, rfl, ?_⟩
     refine MW 1 (GD hm fun aw e5 hm => WC ((c_s_l1Cur_pick cl (⟨c.code, aa.2.1, aa.2.2⟩ : l1Cur) f g (m.memX n U) b 8 (U.hasPick [1]) (U.nodupPick [1] (by kernel_rfl)) (apartX.old m n U [1]) e5).mono ?_))
     rintro e_ fs ⟨rfl, cr⟩
     have bn := U.callF' [1] [0] (by kernel_rfl) cr
     refine ⟨_, rfl, ?_⟩
     refine GD hm fun ab e6 hm => WC ((c_s_l8Put fs d.1 i h (B.r bn 0) aa.1 aw.1 e6).mono ?_)
     rintro e_ bl ⟨ao, af, fn, rfl, ef, cs⟩
     have bo := bn.call cs
     refine ⟨_, rfl, ?_⟩
     refine MW 5 (NA (MW 1 (NO (GD hm fun b6 eg d2 => G_meet (fun a w' => ∃ ap ag az, ownS encSlot b6 ap ag az ∧ Mem (idsOf [(BK b 110 [SL f c.code g, iv c.at_, .int .u64 c.seed])]) w w' [(BK b 110 [SL f c.code g, iv aw.2.1, .int .u64 aw.2.2]), az] ∧ Sat Tryz.f231.ntmps [(0, pB b 0), (3, SL ap b6 ag), (4, iv d.2.1)] a) ?_ ?_))))
     ·have hm := eg
      refine GT hm (fun bb hm => ?_) fun bb hm => ?_
      ·refine GR (MW 2 (WN ?_))
       obtain rfl := HS hm
       exact NM fun a ha => ⟨ao, af, fn, ef, bo.pk [1, 2], ha.s⟩
      refine GK ?_
      obtain rfl := HS hm
      exact NM fun a ha => ⟨i, h, z, B, bo.pk [1, 0], ha.s⟩
     intro gb gt ⟨ap, ag, az, eh, c4, dp⟩
     refine N_use dp ?_
     have hm := d2
     obtain rfl := HS hm
     exact NM fun a ha => ⟨ap, ag, az, eh, c4.pk [0, 1], ha.s⟩
    refine QA (MW 2 (NO (GD hm fun al ei d3 => G_meet (fun a w' => ∃ aq ah a0, ownS encSlot al.1 aq ah a0 ∧ Mem (idsOf [(BK b 110 [SL f c.code g, iv c.at_, .int .u64 c.seed])]) w w' [(BK b 110 [SL f c.code g, iv al.2.1, .int .u64 al.2.2]), a0] ∧ Sat Tryz.f231.ntmps [(0, pB b 0), (3, SL aq al.1 ah), (4, iv d.2.1)] a) ?_ ?_)))
    ·have hm := ei
     refine GT hm (fun bc hm => ?_) fun bc hm => ?_
     ·refine GR (wR 1 [(0, pB b 0), (3, SL i d.1 h), (4, iv d.2.1), (39, SL i d.1 h)] D ?_)
      rcases gx_alt hm with ⟨go, e7, hm⟩ | hm
      ·refine WD (c_s_l8Take__k D d.1 i h (B.r o 0) 16 e7) o fun ft c5 => MW 4 (WN ?_)
       obtain rfl := HS hm
       exact NM fun a ha => ⟨i, h, z, B, c5.pk [1, 0], ha.s⟩
      refine GD hm fun fk e8 hm => WC ((c_s_l8Take D d.1 i h (B.r o 0) 16 e8).mono ?_)
      rintro e_ fu ⟨cb, bu, fo, rfl, ek, cu⟩
      have c6 := o.call cu
      refine ⟨_, rfl, ?_⟩
      refine MW 4 (WN ?_)
      obtain rfl := HS hm
      exact NM fun a ha => ⟨cb, bu, fo, ek, c6.pk [1, 2], ha.s⟩
     refine QA (MW 2 (NO (GD hm fun am el d4 => G_meet (fun a w' => ∃ ar ai a3, ownS encSlot am.1 ar ai a3 ∧ Mem (idsOf [(BK b 110 [SL f c.code g, iv c.at_, .int .u64 c.seed])]) w w' [(BK b 110 [SL f c.code g, iv am.2.1, .int .u64 am.2.2]), a3] ∧ Sat Tryz.f231.ntmps [(0, pB b 0), (3, SL ar am.1 ai), (4, iv d.2.1)] a) ?_ ?_)))
     ·have hm := el
      refine GT hm (fun bd hm => ?_) fun bd hm => ?_
      ·refine QA (MW 2 (GD hm fun ax e9 hm => WC ((c_s_l1Cur_pick D (⟨c.code, t.2.1, t.2.2⟩ : l1Cur) f g (m.memX n o) b 8 (o.hasPick [1]) (o.nodupPick [1] (by kernel_rfl)) (apartX.old m n o [1]) e9).mono ?_)))
       rintro e_ fv ⟨rfl, cv⟩
       have bp := o.callF' [1] [0] (by kernel_rfl) cv
       refine ⟨_, rfl, ?_⟩
       refine GD hm fun C fa hm => WC ((c_s_l8End fv d.1 i h (B.r bp 0) ax.1 fa).mono ?_)
       rintro e_ ad ⟨G, F, ch, rfl, en, cw⟩
       have Q := bp.call cw
       refine ⟨_, rfl, ?_⟩
       refine wR 5 [(0, pB b 0), (3, SL i d.1 h), (4, iv d.2.1), (7, SL G C.1 F), (8, .bool C.2)] ad (NE (GD hm fun Y eo d5 => G_meet (fun a w' => Mem (idsOf [(BK b 110 [SL f c.code g, iv c.at_, .int .u64 c.seed])]) w w' [z, (BK b 110 [SL f c.code g, iv Y.2.1, .int .u64 Y.2.2]), ch] ∧ Sat Tryz.f231.ntmps [(0, pB b 0), (3, SL i d.1 h), (4, iv d.2.1), (7, SL G C.1 F), (56, .bool Y.1)] a) ?_ ?_))
       ·have hm := eo
        refine GR (wR 2 [(0, pB b 0), (3, SL i d.1 h), (4, iv d.2.1), (7, SL G C.1 F), (53, .bool C.2)] ad ?_)
        rcases gx_bif hm with ⟨be, hm⟩ | ⟨be, hm⟩
        ·refine wK 53 true be (MW 1 (GD hm fun fl fb hm => WC ((c_s_l1Cur_one ad (⟨c.code, ax.2.1, ax.2.2⟩ : l1Cur) f g (m.memX n Q) b 2 (Q.hasPick [1]) (Q.nodupPick [1] (by kernel_rfl)) (apartX.old m n Q [1]) fb).mono ?_)))
         rintro e_ fw ⟨rfl, cx⟩
         have c7 := Q.callF' [1] [0, 2] (by kernel_rfl) cx
         refine ⟨_, rfl, ?_⟩
         refine MW 1 (WN ?_)
         obtain rfl := HS hm
         exact NM fun a ha => ⟨c7.pk [0, 2, 1], ha.s⟩
        refine wK 53 false be (MW 3 (WN ?_))
        obtain rfl := HS hm
        exact NM fun a ha => ⟨Q.pk [0, 1, 2], ha.s⟩
       intro gc fx ⟨bq, dq⟩
       refine N_use dq ?_
       have hm := d5
       refine TN (GD hm fun b7 ep d6 => G_meet (fun a w' => ∃ au aj a4, ownS encSlot b7 au aj a4 ∧ Mem (idsOf [(BK b 110 [SL f c.code g, iv c.at_, .int .u64 c.seed])]) w w' [(BK b 110 [SL f c.code g, iv Y.2.1, .int .u64 Y.2.2]), a4] ∧ Sat Tryz.f231.ntmps [(0, pB b 0), (3, SL au b7 aj), (4, iv d.2.1)] a) ?_ ?_)
       ·have hm := ep
        refine GT hm (fun bf hm => ?_) fun bf hm => ?_
        ·refine GR (MW 2 (WN ?_))
         obtain rfl := HS hm
         exact NM fun a ha => ⟨G, F, ch, en, bq.pk [1, 2], ha.s⟩
        refine GK ?_
        obtain rfl := HS hm
        exact NM fun a ha => ⟨i, h, z, B, bq.pk [1, 0], ha.s⟩
       intro gd gu ⟨au, aj, a4, er, c8, dr⟩
       refine N_use dr ?_
       have hm := d6
       obtain rfl := HS hm
       exact NM fun a ha => ⟨au, aj, a4, er, c8.pk [0, 1], ha.s⟩
      refine GK ?_
      obtain rfl := HS hm
      exact NM fun a ha => ⟨i, h, z, B, o.pk [1, 0], ha.s⟩
     intro ge gv ⟨ar, ai, a3, em, c9, ds⟩
     refine N_use ds ?_
     have hm := d4
     obtain rfl := HS hm
     exact NM fun a ha => ⟨ar, ai, a3, em, c9.pk [0, 1], ha.s⟩
    intro gf gw ⟨aq, ah, a0, ej, da, dt⟩
    refine N_use dt ?_
    have hm := d3
    obtain rfl := HS hm
    exact NM fun a ha => ⟨aq, ah, a0, ej, da.pk [0, 1], ha.s⟩
   intro gg fy ⟨Z, W, ay, ee, db, du⟩
   refine N_use du ?_
   have hm := d1
   refine BN (BN (TN (GR (MW 3 (WN ?_)))))
   cases hm
   exact N_loop fun a ha => ⟨_, rfl, Z, W, ay, ee, db.pk [0, 1], ha.s⟩
  refine XA ?_
  obtain rfl := HS hm
  obtain rfl := e1 _ rfl
  exact NM fun a ha => ⟨i, h, z, B, P.pk [0, 1], ha.s⟩
 intro gh cm ⟨k, l, ac, L, V, dv⟩
 refine N_use dv ?_
 have hm := ea
 refine TN (QB (MW 1 (GD hm fun v fc hm => WC ((c_s_l1Cur_pick cm (⟨c.code, j.2.1, j.2.2⟩ : l1Cur) f g (m.memX n V) b 24 (V.hasPick [0]) (V.nodupPick [0] (by kernel_rfl)) (apartX.old m n V [0]) fc).mono ?_))))
 rintro e_ H ⟨rfl, cy⟩
 have A := V.callF' [0] [1] (by kernel_rfl) cy
 refine ⟨_, rfl, ?_⟩
 refine NO (GB (QA (MW 2 (NO (GD hm fun N es d7 => G_meet (fun a w' => ∃ S R a5 ci, ownS encSlot N.1 S R a5 ∧ ownS encSlot N.2.2.2 k l ci ∧ Mem (idsOf [(BK b 110 [SL f c.code g, iv c.at_, .int .u64 c.seed])]) w w' [(BK b 110 [SL f c.code g, iv N.2.1, .int .u64 N.2.2.1]), a5] ∧ Sat Tryz.f231.ntmps [(3, SL S N.1 R)] a) ?_ ?_)))))
 ·have hm := es
  refine GT hm (fun bg hm => ?_) fun bg hm => ?_
  ·refine GR (MW 2 (GD hm fun u fd hm => WC ((c_s_l1Cur_pick H (⟨c.code, v.2.1, v.2.2⟩ : l1Cur) f g (m.memX n A) b 4 (A.hasPick [1]) (A.nodupPick [1] (by kernel_rfl)) (apartX.old m n A [1]) fd).mono ?_)))
   rintro e_ fz ⟨rfl, cz⟩
   have dc := A.callF' [1] [0] (by kernel_rfl) cz
   refine ⟨_, rfl, ?_⟩
   refine wR 1 [(0, pB b 0), (3, SL k j.1 l), (62, SL k j.1 l), (64, iv u.1), (65, pB b 0)] fz (wL (E := Gx.encI) [(-1), 4, 1] 3 [iv (-1), iv 4, iv 1] 3 dc fun cc bv gp f0 b0 I => GD hm fun x fe hm => WC ((c_s_l1Cur_among f0 (⟨c.code, u.2.1, u.2.2⟩ : l1Cur) f g (m.memX n I) b [(-1), 4, 1] cc bv (b0.r I 2) (I.hasPick [1]) (I.nodupPick [1] (by kernel_rfl)) (apartX.old m n I [1]) (apartX.own b0 I 2 (by kernel_rfl) [1] (by kernel_rfl)) fe).mono ?_))
   rintro e_ f1 ⟨rfl, c0⟩
   have dd := I.callF' [1] [0, 2] (by kernel_rfl) c0
   refine ⟨_, rfl, ?_⟩
   refine MW 1 (wL (E := Gx.encI) [(-1), 7, 8] 3 [iv (-1), iv 7, iv 8] 3 dd fun cd bw gq f2 b1 J => GD hm fun y ff hm => WC ((c_s_l1Cur_among f2 (⟨c.code, x.2.1, x.2.2⟩ : l1Cur) f g (m.memX n J) b [(-1), 7, 8] cd bw (b1.r J 3) (J.hasPick [2]) (J.nodupPick [2] (by kernel_rfl)) (apartX.old m n J [2]) (apartX.own b1 J 3 (by kernel_rfl) [2] (by kernel_rfl)) ff).mono ?_))
   rintro e_ f3 ⟨rfl, c1⟩
   have de := J.callF' [2] [0, 1, 3] (by kernel_rfl) c1
   refine ⟨_, rfl, ?_⟩
   refine MW 1 (wL (E := Gx.encI) [(-1), 15, 16] 3 [iv (-1), iv 15, iv 16] 3 de fun ce bx gr f4 b2 K => GD hm fun O fg hm => WC ((c_s_l1Cur_among f4 (⟨c.code, y.2.1, y.2.2⟩ : l1Cur) f g (m.memX n K) b [(-1), 15, 16] ce bx (b2.r K 4) (K.hasPick [3]) (K.nodupPick [3] (by kernel_rfl)) (apartX.old m n K [3]) (apartX.own b2 K 4 (by kernel_rfl) [3] (by kernel_rfl)) fg).mono ?_))
   rintro e_ cn ⟨rfl, c2⟩
   have br := K.callF' [3] [0, 1, 2, 4] (by kernel_rfl) c2
   refine ⟨_, rfl, ?_⟩
   refine MW 1 (GD hm fun f7 b4 hm => wV (elemP k (u.1.toNat * 3)) cn (eI (L.r br 0) rfl b4) (wE true 3 u.1.toNat 0 (u.1.toNat * 3) f7 (⟨x.1, y.1, O.1⟩ : Slot) (.agg #[iv x.1, iv y.1, iv O.1]) 0 br L (gxIdx_spec b4).2 fun gx cj b3 df => LX 3 k l j.1 u.1.toNat (⟨x.1, y.1, O.1⟩ : Slot) (LX 62 k l j.1 u.1.toNat (⟨x.1, y.1, O.1⟩ : Slot) (WN ?_))))
   obtain rfl := HS hm
   exact NM fun a ha => ⟨k, l, cj, cj, b3, b3, df.pk [4, 0], ha.s⟩
  refine QA (MW 2 (NO (GD hm fun b8 eu d8 => G_meet (fun a w' => ∃ av ak a6, ownS encSlot b8 av ak a6 ∧ Mem (idsOf [(BK b 110 [SL f c.code g, iv c.at_, .int .u64 c.seed])]) w w' [(BK b 110 [SL f c.code g, iv v.2.1, .int .u64 v.2.2]), a6] ∧ Sat Tryz.f231.ntmps [(3, SL av b8 ak)] a) ?_ ?_)))
  ·have hm := eu
   refine GT hm (fun bh hm => ?_) fun bh hm => ?_
   ·refine GR (MW 2 (wL (E := encSlot) [(⟨0, 0, 0⟩ : Slot)] 1 [iv 0, iv 0, iv 0] 117 A fun gn gl gs gy ew bs => GD hm fun dl dz hm => wA 24 [iv 0, iv 0, iv 0] 0 bs L (ew.r bs 2) dz fun cf bz fp f5 ex dg => MW 1 (WN ?_)))
    obtain rfl := HS hm
    exact NM fun a ha => ⟨cf, bz, fp, ex, dg.pk [1, 0], ha.s⟩
   refine QA (MW 2 (NO (GD hm fun b9 ey d9 => G_meet (fun a w' => ∃ a7, ownS encSlot b9 k l a7 ∧ Mem (idsOf [(BK b 110 [SL f c.code g, iv c.at_, .int .u64 c.seed])]) w w' [(BK b 110 [SL f c.code g, iv v.2.1, .int .u64 v.2.2]), a7] ∧ Sat Tryz.f231.ntmps [(3, SL k b9 l)] a) ?_ ?_)))
   ·have hm := ey
    refine GT hm (fun bi hm => ?_) fun bi hm => ?_
    ·refine GR (MW 2 (GD hm fun f8 b5 hm => wV (elemP k ((3 : Int).toNat * 3)) H (eI (L.r A 0) rfl b5) (wE true 3 (3 : Int).toNat 0 ((3 : Int).toNat * 3) f8 (⟨0, 1, 0⟩ : Slot) (.agg #[iv 0, iv 1, iv 0]) 0 A L (gxIdx_spec b5).2 fun gz fq e0 dh => LX 3 k l j.1 ((3 : Int).toNat) (⟨0, 1, 0⟩ : Slot) (LX 84 k l j.1 ((3 : Int).toNat) (⟨0, 1, 0⟩ : Slot) (WN ?_)))))
     obtain rfl := HS hm
     exact NM fun a ha => ⟨fq, e0, dh.pk [1, 0], ha.s⟩
    refine GK ?_
    obtain rfl := HS hm
    exact NM fun a ha => ⟨ac, L, A.pk [1, 0], ha.s⟩
   intro gi g0 ⟨a7, ez, di, dw⟩
   refine N_use dw ?_
   have hm := d9
   obtain rfl := HS hm
   exact NM fun a ha => ⟨k, l, a7, ez, di.pk [0, 1], ha.s⟩
  intro gj g1 ⟨av, ak, a6, ev, dj, dx⟩
  refine N_use dx ?_
  have hm := d8
  obtain rfl := HS hm
  exact NM fun a ha => ⟨av, ak, a6, ac, ev, L, dj.pk [0, 1], ha.s⟩
 intro gk f6 ⟨S, R, a5, ci, et, gm, dk, dy⟩
 refine N_use dy ?_
 have hm := d7
 refine BN (NF (MW 2 (NC ?_)))
 obtain rfl := HS hm
 exact RA [SL S N.1 R] (⟨S, R, a5, rfl, et, dk.pk [0, 1]⟩)
theorem c_s_l1Cur_irq (w : World) (a : l1Cur) (c d) (h : rdS Gx.encU8 w a.code c d) (b : Nat) (hA : ∀ q ∈ List.flatten [(BK b 110 [SL c a.code d, iv a.at_, .int .u64 a.seed])], w.heap[q.1]? = some q.2) (hN : (idsOf [(BK b 110 [SL c a.code d, iv a.at_, .int .u64 a.seed])]).Nodup) (i : apartX (idsOf [(BK b 110 [SL c a.code d, iv a.at_, .int .u64 a.seed])]) a.code c) {r : Int × Int × Int} (hm : M.s_l1Cur_irq a = some r) :
  Calls Tryz.prog 232 #[pB b 0] w fun e w' => e = .returned (iv r.1) ∧ Mem (idsOf [(BK b 110 [SL c a.code d, iv a.at_, .int .u64 a.seed])]) w w' [(BK b 110 [SL c a.code d, iv r.2.1, .int .u64 r.2.2])] := by
 unfold M.s_l1Cur_irq at hm
 refine cE Tryz.func232 ?_
 have M0 := Mem.start' w [(BK b 110 [SL c a.code d, iv a.at_, .int .u64 a.seed])] hA hN
 refine QA (MW 1 (NB (MW 1 (GD hm fun j B hm => WC ((c_s_l1Cur_one w a c d (h.memX i M0) b 20 (M0.hasPick [0]) (M0.nodupPick [0] (by kernel_rfl)) (apartX.old h i M0 [0]) B).mono ?_)))))
 rintro e_ l ⟨rfl, v⟩
 have g := M0.callF' [0] [] (by kernel_rfl) v
 refine ⟨_, rfl, ?_⟩
 refine NO (GT hm (fun k hm => ?_) fun k hm => ?_)
 ·refine QA (MW 1 (wL (E := Gx.encI) [(-1), 8] 2 [iv (-1), iv 8] 3 g fun o m I F n f => GD hm fun t C hm => WC ((c_s_l1Cur_among F (⟨a.code, j.2.1, j.2.2⟩ : l1Cur) c d (h.memX i f) b [(-1), 8] o m (n.r f 1) (f.hasPick [0]) (f.nodupPick [0] (by kernel_rfl)) (apartX.old h i f [0]) (apartX.own n f 1 (by kernel_rfl) [0] (by kernel_rfl)) C).mono ?_)))
  rintro e_ G ⟨rfl, x⟩
  have z := f.callF' [0] [1] (by kernel_rfl) x
  refine ⟨_, rfl, ?_⟩
  refine MW 1 (ND ?_)
  obtain rfl := HS hm
  exact RA [iv t.1] (⟨rfl, z.pk [1]⟩)
 refine KA (MW 1 (GD hm fun u D hm => WC ((c_s_l1Cur_pick l (⟨a.code, j.2.1, j.2.2⟩ : l1Cur) c d (h.memX i g) b 8 (g.hasPick [0]) (g.nodupPick [0] (by kernel_rfl)) (apartX.old h i g [0]) D).mono ?_)))
 rintro e_ H ⟨rfl, y⟩
 have A := g.callF' [0] [] (by kernel_rfl) y
 refine ⟨_, rfl, ?_⟩
 refine MW 1 (NC ?_)
 obtain rfl := HS hm
 exact RA [iv u.1] (⟨rfl, A.pk [0]⟩)
theorem c_s_l1Cur_prio (w : World) (a : l1Cur) (c d) (h : rdS Gx.encU8 w a.code c d) (b : Nat) (hA : ∀ q ∈ List.flatten [(BK b 110 [SL c a.code d, iv a.at_, .int .u64 a.seed])], w.heap[q.1]? = some q.2) (hN : (idsOf [(BK b 110 [SL c a.code d, iv a.at_, .int .u64 a.seed])]).Nodup) (i : apartX (idsOf [(BK b 110 [SL c a.code d, iv a.at_, .int .u64 a.seed])]) a.code c) {r : Int × Int × Int} (hm : M.s_l1Cur_prio a = some r) :
  Calls Tryz.prog 233 #[pB b 0] w fun e w' => e = .returned (iv r.1) ∧ Mem (idsOf [(BK b 110 [SL c a.code d, iv a.at_, .int .u64 a.seed])]) w w' [(BK b 110 [SL c a.code d, iv r.2.1, .int .u64 r.2.2])] := by
 unfold M.s_l1Cur_prio at hm
 refine cE Tryz.func233 ?_
 have M0 := Mem.start' w [(BK b 110 [SL c a.code d, iv a.at_, .int .u64 a.seed])] hA hN
 refine QA (MW 1 (NA (MW 1 (wL (E := Gx.encI) [0, 1, 2, 3, 5, 8, 15, 4, 4, 7, 12, 16, (-1), 6] 14 [iv 0, iv 1, iv 2, iv 3, iv 5, iv 8, iv 15, iv 4, iv 4, iv 7, iv 12, iv 16, iv (-1), iv 6] 3 M0 fun k g v t j f => GD hm fun l o hm => WC ((c_s_l1Cur_among t a c d (h.memX i f) b [0, 1, 2, 3, 5, 8, 15, 4, 4, 7, 12, 16, (-1), 6] k g (j.r f 1) (f.hasPick [0]) (f.nodupPick [0] (by kernel_rfl)) (apartX.old h i f [0]) (apartX.own j f 1 (by kernel_rfl) [0] (by kernel_rfl)) o).mono ?_)))))
 rintro e_ u ⟨rfl, m⟩
 have n := f.callF' [0] [1] (by kernel_rfl) m
 refine ⟨_, rfl, ?_⟩
 refine MW 1 (NC ?_)
 obtain rfl := HS hm
 exact RA [iv l.1] (⟨rfl, n.pk [1]⟩)
theorem c_s_l1Cur_queue (w : World) (d : l1Cur) (l m) (Q : rdS Gx.encU8 w d.code l m) (c : Nat) (hA : ∀ q ∈ List.flatten [(BK c 110 [SL l d.code m, iv d.at_, .int .u64 d.seed])], w.heap[q.1]? = some q.2) (hN : (idsOf [(BK c 110 [SL l d.code m, iv d.at_, .int .u64 d.seed])]).Nodup) (S : apartX (idsOf [(BK c 110 [SL l d.code m, iv d.at_, .int .u64 d.seed])]) d.code l) {r : Queue × Int × Int} (hm : M.s_l1Cur_queue d = some r) :
  Calls Tryz.prog 184 #[pB c 0] w fun e w' => ∃ d8 d3 ea d9 d4 eb, e = .returned (.agg #[SL d8 r.1.Slots d3, SL d9 r.1.Waiting d4]) ∧ ownS encSlot r.1.Slots d8 d3 ea ∧ ownS encWaiter r.1.Waiting d9 d4 eb ∧ Mem (idsOf [(BK c 110 [SL l d.code m, iv d.at_, .int .u64 d.seed])]) w w' [(BK c 110 [SL l d.code m, iv r.2.1, .int .u64 r.2.2]), ea, eb] := by
 unfold M.s_l1Cur_queue at hm
 refine cE Tryz.func184 ?_
 have M0 := Mem.start' w [(BK c 110 [SL l d.code m, iv d.at_, .int .u64 d.seed])] hA hN
 refine QA (wN (CE 85 [SN, SN]) M0 fun u iw ex => NA (MW 4 (wL (E := encSlot) [(⟨0, 0, 0⟩ : Slot), (⟨0, 0, 0⟩ : Slot), (⟨0, 0, 0⟩ : Slot), (⟨0, 0, 0⟩ : Slot)] 4 [iv 0, iv 0, iv 0, iv 0, iv 0, iv 0, iv 0, iv 0, iv 0, iv 0, iv 0, iv 0] 117 ex fun b9 bq ik j6 g3 ey => wL (E := encWaiter) ([] : List Waiter) 0 [] 142 ey fun ca br il ix g4 ez => MW 1 (wN (CE 85 [SN, SN]) ez fun t j7 e0 => wS true 2 0 (.agg #[SL b9 [(⟨0, 0, 0⟩ : Slot), (⟨0, 0, 0⟩ : Slot), (⟨0, 0, 0⟩ : Slot), (⟨0, 0, 0⟩ : Slot)] bq, SL ca ([] : List Waiter) br]) 4 [SL b9 [(⟨0, 0, 0⟩ : Slot), (⟨0, 0, 0⟩ : Slot), (⟨0, 0, 0⟩ : Slot), (⟨0, 0, 0⟩ : Slot)] bq, SL ca ([] : List Waiter) br] e0 rfl fun ee ba => NB (MW 1 (GD hm fun ij h2 hm => WC ((c_s_l1Cur_pick ee d l m (Q.memX S ba) c 14 (ba.hasPick [0]) (ba.nodupPick [0] (by kernel_rfl)) (apartX.old Q S ba [0]) h2).mono ?_)))))))
 rintro e_ iy ⟨rfl, ej⟩
 have e1 := ba.callF' [0] [1, 2, 3, 4] (by kernel_rfl) ej
 refine ⟨_, rfl, ?_⟩
 refine MW 1 (NO (GD hm fun y ih g2 => G_meet (fun a w' => ∃ J K ad T P ab, ownS encSlot y.2.2.1 J K ad ∧ ownS encWaiter y.2.2.2 T P ab ∧ Mem (idsOf [(BK c 110 [SL l d.code m, iv d.at_, .int .u64 d.seed])]) w w' [(BK u 85 [SN, SN]), (BK t 85 [SL J y.2.2.1 K, SL T y.2.2.2 P]), (BK c 110 [SL l d.code m, iv y.1, .int .u64 y.2.1]), ad, ab] ∧ Sat Tryz.f184.ntmps [(0, pB c 0), (2, pB u 0), (3, pB t 0)] a) ?_ ?_))
 ·refine GB (G_while (σ := Int × Int × Int × List Slot × List Waiter) (ρ := Int × Int × List Slot × List Waiter) (fun n a w' => ∃ B z X C A Y, ownS encSlot n.2.2.2.1 B z X ∧ ownS encWaiter n.2.2.2.2 C A Y ∧ Mem (idsOf [(BK c 110 [SL l d.code m, iv d.at_, .int .u64 d.seed])]) w w' [(BK u 85 [SN, SN]), (BK t 85 [SL B n.2.2.2.1 z, SL C n.2.2.2.2 A]), (BK c 110 [SL l d.code m, iv n.2.1, .int .u64 n.2.2.1]), X, Y] ∧ Sat Tryz.f184.ntmps [(0, pB c 0), (2, pB u 0), (3, pB t 0), (4, iv n.1)] a) ih (fun a ha => ⟨b9, bq, ik, ca, br, il, g3, g4, e1.pk [0, 3, 4, 1, 2], ha.s⟩) ?_)
  clear hm
  intro n ky hm h1 jt dt ⟨B, z, X, C, A, Y, az, a0, ax, gf⟩
  refine G_use gf (QB (MW 2 (NO (GT hm (fun da hm => ?_) fun da hm => ?_))))
  ·refine KD (MW 1 (GD hm fun I h3 hm => WC ((c_s_l1Cur_pick dt (⟨d.code, n.2.1, n.2.2.1⟩ : l1Cur) l m (Q.memX S ax) c 5 (ax.hasPick [2]) (ax.nodupPick [2] (by kernel_rfl)) (apartX.old Q S ax [2]) h3).mono ?_)))
   rintro e_ du ⟨rfl, ek⟩
   have c3 := ax.callF' [2] [0, 1, 3, 4] (by kernel_rfl) ek
   refine ⟨_, rfl, ?_⟩
   refine NO (GB (QB (MW 2 (NO (GD hm fun d7 g5 gs => G_meet (fun a w' => Mem (idsOf [(BK c 110 [SL l d.code m, iv d.at_, .int .u64 d.seed])]) w w' [(BK u 85 [SN, SN]), (BK t 85 [SL B n.2.2.2.1 z, SL C n.2.2.2.2 A]), X, Y, (BK c 110 [SL l d.code m, iv I.2.1, .int .u64 I.2.2])] ∧ Sat Tryz.f184.ntmps [(0, pB c 0), (2, pB u 0), (3, pB t 0), (4, iv n.1), (21, iv I.1), (22, .bool d7)] a) ?_ ?_)))))
   ·have hm := g5
    refine GT hm (fun db hm => ?_) fun db hm => ?_
    ·refine GK ?_
     obtain rfl := HS hm
     exact NM fun a ha => ⟨c3.pk [0, 1, 2, 3, 4], ha.s⟩
    refine QA (MW 2 (NO (GD hm fun ii g6 gt => G_meet (fun a w' => Mem (idsOf [(BK c 110 [SL l d.code m, iv d.at_, .int .u64 d.seed])]) w w' [(BK u 85 [SN, SN]), (BK t 85 [SL B n.2.2.2.1 z, SL C n.2.2.2.2 A]), X, Y, (BK c 110 [SL l d.code m, iv I.2.1, .int .u64 I.2.2])] ∧ Sat Tryz.f184.ntmps [(0, pB c 0), (2, pB u 0), (3, pB t 0), (4, iv n.1), (21, iv I.1), (22, .bool ii)] a) ?_ ?_)))
    ·have hm := g6
     refine GT hm (fun dc hm => ?_) fun dc hm => ?_
     ·refine GK ?_
      obtain rfl := HS hm
      exact NM fun a ha => ⟨c3.pk [0, 1, 2, 3, 4], ha.s⟩
     refine GR (wR 2 [(0, pB c 0), (2, pB u 0), (3, pB t 0), (4, iv n.1), (21, iv I.1), (22, .bool (I.1 == 2))] du (WN ?_))
     obtain rfl := HS hm
     exact NM fun a ha => ⟨c3.pk [0, 1, 2, 3, 4], ha.s⟩
    intro ju j8 ⟨e2, gg⟩
    refine N_use gg ?_
    have hm := gt
    obtain rfl := HS hm
    exact NM fun a ha => ⟨e2.pk [0, 1, 2, 3, 4], ha.s⟩
   intro jv a9 ⟨av, gh⟩
   refine N_use gh ?_
   have hm := gs
   refine TN (GD hm fun a4 g7 gu => G_meet (fun a w' => ∃ cb bs cp cc bt cq, ownS encSlot a4.2.2.1 cb bs cp ∧ ownS encWaiter a4.2.2.2 cc bt cq ∧ Mem (idsOf [(BK c 110 [SL l d.code m, iv d.at_, .int .u64 d.seed])]) w w' [(BK u 85 [SN, SN]), (BK t 85 [SL cb a4.2.2.1 bs, SL cc a4.2.2.2 bt]), (BK c 110 [SL l d.code m, iv a4.1, .int .u64 a4.2.1]), cp, cq] ∧ Sat Tryz.f184.ntmps [(0, pB c 0), (2, pB u 0), (3, pB t 0), (4, iv n.1)] a) ?_ ?_)
   ·have hm := g7
    rcases gx_bif hm with ⟨dd, hm⟩ | ⟨dd, hm⟩
    ·refine gT dd (GD hm fun Z h4 hm => GD hm fun aj h5 hm => ?_)
     have e3 : Mem (idsOf [(BK c 110 [SL l d.code m, iv d.at_, .int .u64 d.seed])]) w a9 ([(BK u 85 [SN, SN]), (BK t 85 [SL B n.2.2.2.1 z, SL C n.2.2.2.2 A]), X, Y] ++ (List.range 5).map (fun i => ([[], [], (BK c 110 [SL l d.code m, iv I.2.1, .int .u64 I.2.2]), [], []] : List Seg).getD i [])) := av.pk [0, 1, 2, 3, 300000, 300001, 4, 300003, 300004]
     refine GU [(0, pB c 0), (2, pB u 0), (3, pB t 0), (4, iv n.1), (21, iv I.1), (22, .bool d7)] (DL 5 [[],[],[1],[],[2,3]] [[],[],[],[],[2]] (EM 5) (EM 5) (EM 5) (EM 5) (fun i => ([[], [], (BK c 110 [SL l d.code m, iv I.2.1, .int .u64 I.2.2]), [], []] : List Seg).getD i []) [QV (.agg #[SL B n.2.2.2.1 z, SL C n.2.2.2.2 A]), QV (pB c 0), fun f v s => v = (iv Z.1 : Value) ∧ s = (BK c 110 [SL l d.code m, iv Z.2.1, .int .u64 Z.2.2]), QV (pB c 0), fun f v s => v = (iv aj.1 : Value) ∧ s = (BK c 110 [SL l d.code m, iv aj.2.1, .int .u64 aj.2.2])] [2] [0, 4] [4] e3 (AC ?_ (AC ?_ (AC ?_ (AC ?_ (AC ?_ AN))))) ?_)
     ·intro aw bi R iz dx
      exact OV ⟨rfl, rfl⟩ (eL true 2 0 (dx.blk 1 rfl)) dx
     ·intro aw bi R i0 e4
      exact OM ⟨rfl, rfl⟩ e4
     ·rintro aw bi v1_ ⟨rfl, _⟩ R i1 bb
      refine WC ((c_s_l1Cur_pick i1 (⟨d.code, I.2.1, I.2.2⟩ : l1Cur) l m (Q.memX S bb) c 8 (bb.hasPick [4]) (bb.nodupPick [4] (by kernel_rfl)) (apartX.old Q S bb [4]) h4).mono ?_)
      rintro e_ j9 ⟨rfl, el⟩
      refine ⟨_, rfl, ?_⟩
      exact WN (oE (iv Z.1) (BK c 110 [SL l d.code m, iv Z.2.1, .int .u64 Z.2.2]) ⟨rfl, rfl⟩ (Mem.callMidF bb el))
     ·intro aw bi R i2 e5
      exact OM ⟨rfl, rfl⟩ e5
     ·intro aw bi v2_ hb2_
      obtain ⟨rfl, hs2_⟩ := hb2_
      rintro v3_ ⟨rfl, _⟩ R dv e6
      have bm : Mem (idsOf [(BK c 110 [SL l d.code m, iv d.at_, .int .u64 d.seed])]) w dv ([(BK u 85 [SN, SN]), (BK t 85 [SL B n.2.2.2.1 z, SL C n.2.2.2.2 A]), X, Y] ++ ([[]] ++ ([(aw 2)] ++ ([] ++ R)))) := e6
      rw [hs2_] at bm
      replace bm : Mem (idsOf [(BK c 110 [SL l d.code m, iv d.at_, .int .u64 d.seed])]) w dv ([(BK u 85 [SN, SN]), (BK t 85 [SL B n.2.2.2.1 z, SL C n.2.2.2.2 A]), X, Y] ++ ([[]] ++ ([(BK c 110 [SL l d.code m, iv Z.2.1, .int .u64 Z.2.2])] ++ ([] ++ R)))) := bm.permF (by simp)
      have bc := Mem.takeOver bm
      refine WC ((c_s_l1Cur_pick dv (⟨d.code, Z.2.1, Z.2.2⟩ : l1Cur) l m (Q.memX S bc) c 8 (bc.hasPick [4]) (bc.nodupPick [4] (by kernel_rfl)) (apartX.old Q S bc [4]) h5).mono ?_)
      rintro e_ ka ⟨rfl, em⟩
      refine ⟨_, rfl, ?_⟩
      exact WN (oE (iv aj.1) (BK c 110 [SL l d.code m, iv aj.2.1, .int .u64 aj.2.2]) ⟨rfl, rfl⟩ (Mem.callMidF bc em))
     intro aw bi v2_ hb2_
     obtain ⟨_, rfl, _⟩ := hb2_
     rintro v0_ ⟨rfl, _⟩ v4_ hb4_
     obtain ⟨rfl, hs4_⟩ := hb4_
     intro ef e7
     have bn : Mem (idsOf [(BK c 110 [SL l d.code m, iv d.at_, .int .u64 d.seed])]) w ef [(BK u 85 [SN, SN]), (BK t 85 [SL B n.2.2.2.1 z, SL C n.2.2.2.2 A]), X, Y, (aw 4)] := e7
     rw [hs4_] at bn
     refine GD hm fun co h6 hm => WC ((c_s_l9Offer ef (⟨n.2.2.2.1, n.2.2.2.2⟩ : Queue) B z (az.r bn 2) C A (a0.r bn 3) Z.1 aj.1 h6).mono ?_)
     rintro e_ kb ⟨dq, c8, im, dr, c9, io, rfl, hb, hc, en⟩
     have e8 := bn.call en
     refine ⟨_, rfl, ?_⟩
     refine wS true 2 0 (.agg #[SL dq co.Slots c8, SL dr co.Waiting c9]) 1 [SL dq co.Slots c8, SL dr co.Waiting c9] e8 rfl fun kc e9 => WN ?_
     obtain rfl := HS hm
     exact NM fun a ha => ⟨dq, c8, im, dr, c9, io, hb, hc, e9.pk [0, 1, 4, 5, 6], ha.s⟩
    refine gF dd (QA (MW 2 (NO (GD hm fun a5 hd gv => G_meet (fun a w' => ∃ cd bu cr ce bv ct, ownS encSlot a5.2.2.1 cd bu cr ∧ ownS encWaiter a5.2.2.2 ce bv ct ∧ Mem (idsOf [(BK c 110 [SL l d.code m, iv d.at_, .int .u64 d.seed])]) w w' [(BK u 85 [SN, SN]), (BK t 85 [SL cd a5.2.2.1 bu, SL ce a5.2.2.2 bv]), (BK c 110 [SL l d.code m, iv a5.1, .int .u64 a5.2.1]), cr, ct] ∧ Sat Tryz.f184.ntmps [(0, pB c 0), (2, pB u 0), (3, pB t 0), (4, iv n.1)] a) ?_ ?_))))
    ·have hm := hd
     refine GT hm (fun de hm => ?_) fun de hm => ?_
     ·refine GR (wV (.agg #[SL B n.2.2.2.1 z, SL C n.2.2.2.2 A]) a9 (eL true 2 0 (av.blk 1 rfl)) (GD hm fun a8 h7 hm => WC ((c_s_l9Take a9 (⟨n.2.2.2.1, n.2.2.2.2⟩ : Queue) B z (az.r av 2) C A (a0.r av 3) 16 h7).mono ?_)))
      rintro e_ i3 ⟨cf, bw, ip, cg, bx, iq, rfl, hg, hh, eo⟩
      have fa := av.call eo
      refine ⟨_, rfl, ?_⟩
      refine MW 3 (wS true 2 0 (.agg #[SL cf a8.1.Slots bw, SL cg a8.1.Waiting bx]) 1 [SL cf a8.1.Slots bw, SL cg a8.1.Waiting bx] fa rfl fun kd fb => WN ?_)
      obtain rfl := HS hm
      exact NM fun a ha => ⟨cf, bw, ip, cg, bx, iq, hg, hh, fb.pk [0, 1, 4, 5, 6], ha.s⟩
     refine QA (MW 2 (NO (GD hm fun a6 hi gw => G_meet (fun a w' => ∃ ch bz cu ci b0 cv, ownS encSlot a6.2.2.1 ch bz cu ∧ ownS encWaiter a6.2.2.2 ci b0 cv ∧ Mem (idsOf [(BK c 110 [SL l d.code m, iv d.at_, .int .u64 d.seed])]) w w' [(BK u 85 [SN, SN]), (BK t 85 [SL ch a6.2.2.1 bz, SL ci a6.2.2.2 b0]), (BK c 110 [SL l d.code m, iv a6.1, .int .u64 a6.2.1]), cu, cv] ∧ Sat Tryz.f184.ntmps [(0, pB c 0), (2, pB u 0), (3, pB t 0), (4, iv n.1)] a) ?_ ?_)))
     ·have hm := hi
      refine GT hm (fun df hm => ?_) fun df hm => ?_
      ·refine GS (GD hm fun aa h8 hm => GD hm fun x h9 hm => ?_)
       have fc : Mem (idsOf [(BK c 110 [SL l d.code m, iv d.at_, .int .u64 d.seed])]) w a9 ([(BK u 85 [SN, SN]), (BK t 85 [SL B n.2.2.2.1 z, SL C n.2.2.2.2 A]), X, Y] ++ (List.range 9).map (fun i => ([[], [], (BK c 110 [SL l d.code m, iv I.2.1, .int .u64 I.2.2]), [], [], [], [], [], []] : List Seg).getD i [])) := av.pk [0, 1, 2, 3, 300000, 300001, 4, 300003, 300004, 300005, 300006, 300007, 300008]
       refine GU [(0, pB c 0), (2, pB u 0), (3, pB t 0), (4, iv n.1), (39, .bool (I.1 == 4))] (DL 9 [[],[],[1],[0],[],[4],[4],[],[5,7]] [[],[],[],[],[],[],[],[],[7]] (EM 9) [[],[],[],[2],[3],[3],[3],[],[3]] [[],[],[],[],[3],[3],[],[],[3,7]] (EM 9) (fun i => ([[], [], (BK c 110 [SL l d.code m, iv I.2.1, .int .u64 I.2.2]), [], [], [], [], [], []] : List Seg).getD i []) [QV (.agg #[SL B n.2.2.2.1 z, SL C n.2.2.2.2 A]), QV (pB c 0), fun f v s => v = (iv aa.1 : Value) ∧ s = (BK c 110 [SL l d.code m, iv aa.2.1, .int .u64 aa.2.2]), fun f v s => ∃ G D ak H F al, v = (.tuple #[.agg #[SL G x.1.Slots D, SL H x.1.Waiting F], .bool x.2] : Value) ∧ s = (ak ++ al) ∧ ownS encSlot x.1.Slots G D ak ∧ ownS encWaiter x.1.Waiting H F al, fun f v s => v = (.tuple #[.agg #[(atPath (f 3) [0, 0]), (atPath (f 3) [0, 1])], .bool x.2] : Value) ∧ s = [], fun f v s => v = (.agg #[(atPath (f 3) [0, 0]), (atPath (f 3) [0, 1])] : Value) ∧ s = [], QV (.bool x.2), fun f v s => ∃ W, v = (pB W 0 : Value) ∧ s = (BK W 85 [SN, SN]), fun f v s => v = undef ∧ s = [((blkOf (f 7)), .cells ⟨[(atPath (f 3) [0, 0]), (atPath (f 3) [0, 1])]⟩ 85 (0, 0))]] [7] [2, 3, 6, 8] [2, 3, 8] fc (AC ?_ (AC ?_ (AC ?_ (AC ?_ (AC ?_ (AC ?_ (AC ?_ (AC ?_ (AC ?_ AN))))))))) ?_)
       ·intro ac ap R i4 dy
        exact OV ⟨rfl, rfl⟩ (eL true 2 0 (dy.blk 1 rfl)) dy
       ·intro ac ap R i5 fd
        exact OM ⟨rfl, rfl⟩ fd
       ·rintro ac ap v1_ ⟨rfl, _⟩ R i6 bd
        refine WC ((c_s_l1Cur_pick i6 (⟨d.code, I.2.1, I.2.2⟩ : l1Cur) l m (Q.memX S bd) c 8 (bd.hasPick [4]) (bd.nodupPick [4] (by kernel_rfl)) (apartX.old Q S bd [4]) h8).mono ?_)
        rintro e_ ke ⟨rfl, ep⟩
        refine ⟨_, rfl, ?_⟩
        exact WN (oE (iv aa.1) (BK c 110 [SL l d.code m, iv aa.2.1, .int .u64 aa.2.2]) ⟨rfl, rfl⟩ (Mem.callMidF bd ep))
       ·intro ac ap v2_ hb2_
        obtain ⟨_, rfl, _⟩ := hb2_
        rintro v0_ ⟨rfl, _⟩ R i7 c4
        refine WC ((c_s_l9End i7 (⟨n.2.2.2.1, n.2.2.2.2⟩ : Queue) B z (az.r c4 2) C A (a0.r c4 3) aa.1 h9).mono ?_)
        rintro e_ kf ⟨G, D, ak, H, F, al, rfl, dm, dn, er⟩
        refine ⟨_, rfl, ?_⟩
        exact WN (oE (.tuple #[.agg #[SL G x.1.Slots D, SL H x.1.Waiting F], .bool x.2]) (ak ++ al) ⟨G, D, ak, H, F, al, rfl, rfl, dm, dn⟩ (Mem.callMid c4 (er.permF (by simp))))
       ·intro ac ap v3_ hb3_
        obtain ⟨_, G, D, _, H, F, _, rfl, _⟩ := hb3_
        intro R i8 fe
        exact OM ⟨rfl, rfl⟩ fe
       ·intro ac ap v3_ hb3_
        obtain ⟨_, G, D, _, H, F, _, rfl, _⟩ := hb3_
        intro v4_ hb4_
        obtain ⟨hv4_, _⟩ := hb4_
        obtain rfl : v4_ = (.tuple #[.agg #[SL G x.1.Slots D, SL H x.1.Waiting F], .bool x.2] : Value) := hv4_.trans (by kernel_rfl)
        intro R i9 ff
        exact OM ⟨rfl, rfl⟩ ff
       ·intro ac ap v3_ hb3_
        obtain ⟨_, G, D, _, H, F, _, rfl, _⟩ := hb3_
        intro v4_ hb4_
        obtain ⟨hv4_, _⟩ := hb4_
        obtain rfl : v4_ = (.tuple #[.agg #[SL G x.1.Slots D, SL H x.1.Waiting F], .bool x.2] : Value) := hv4_.trans (by kernel_rfl)
        intro R ja fg
        exact OM ⟨rfl, rfl⟩ fg
       ·intro ac ap R kg fh
        exact wN (CE 85 [SN, SN]) fh fun W kh fi => WN (oE (pB W 0) (BK W 85 [SN, SN]) ⟨W, rfl, rfl⟩ (Mem.mid fi))
       ·intro ac ap v3_ hb3_
        obtain ⟨_, G, D, _, H, F, _, rfl, _⟩ := hb3_
        intro v5_ hb5_
        obtain ⟨hv5_, _⟩ := hb5_
        obtain rfl : v5_ = (.agg #[SL G x.1.Slots D, SL H x.1.Waiting F] : Value) := hv5_.trans (by kernel_rfl)
        intro v7_ hb7_
        obtain ⟨W, rfl, hs7_⟩ := hb7_
        intro R eg fj
        have bo : Mem (idsOf [(BK c 110 [SL l d.code m, iv d.at_, .int .u64 d.seed])]) w eg ([(BK u 85 [SN, SN]), (BK t 85 [SL B n.2.2.2.1 z, SL C n.2.2.2.2 A]), X, Y] ++ ([[]] ++ ([(ac 7)] ++ ([] ++ R)))) := fj
        rw [hs7_] at bo
        replace bo : Mem (idsOf [(BK c 110 [SL l d.code m, iv d.at_, .int .u64 d.seed])]) w eg ([(BK u 85 [SN, SN]), (BK t 85 [SL B n.2.2.2.1 z, SL C n.2.2.2.2 A]), X, Y] ++ ([[]] ++ ([(BK W 85 [SN, SN])] ++ ([] ++ R)))) := bo.permF (by simp)
        exact wS true 2 0 (.agg #[SL G x.1.Slots D, SL H x.1.Waiting F]) 5 [SL G x.1.Slots D, SL H x.1.Waiting F] bo rfl fun ki fk => WN (ob_none (BK W 85 [SL G x.1.Slots D, SL H x.1.Waiting F]) rfl ⟨rfl, by kernel_rfl⟩ (Mem.takeOver fk))
       intro ac ap v7_ hb7_
       obtain ⟨_, W, rfl, hs7_⟩ := hb7_
       intro v2_ hb2_
       obtain ⟨rfl, hs2_⟩ := hb2_
       intro v3_ hb3_
       obtain ⟨G, D, ak, H, F, al, rfl, hs3_, dm, dn⟩ := hb3_
       rintro v6_ ⟨rfl, _⟩ v8_ hb8_
       obtain ⟨rfl, hs8_⟩ := hb8_
       replace hs8_ := hs8_.trans (show _ = (BK W 85 [SL G x.1.Slots D, SL H x.1.Waiting F]) by kernel_rfl)
       intro bl fl
       have ar : Mem (idsOf [(BK c 110 [SL l d.code m, iv d.at_, .int .u64 d.seed])]) w bl [(BK u 85 [SN, SN]), (BK t 85 [SL B n.2.2.2.1 z, SL C n.2.2.2.2 A]), X, Y, (BK c 110 [SL l d.code m, iv aa.2.1, .int .u64 aa.2.2]), ak, al, (BK W 85 [SL G x.1.Slots D, SL H x.1.Waiting F])] := fl.permF (by simp [hs2_, hs3_, hs8_, SL])
       refine MW 1 (NA (MW 1 (NO (GD hm fun b6 hl gx => G_meet (fun a w' => ∃ cj b1 cw ck b2 cx, ownS encSlot b6.1 cj b1 cw ∧ ownS encWaiter b6.2 ck b2 cx ∧ Mem (idsOf [(BK c 110 [SL l d.code m, iv d.at_, .int .u64 d.seed])]) w w' [(BK u 85 [SN, SN]), (BK t 85 [SL cj b6.1 b1, SL ck b6.2 b2]), (BK c 110 [SL l d.code m, iv aa.2.1, .int .u64 aa.2.2]), cw, cx] ∧ Sat Tryz.f184.ntmps [(0, pB c 0), (2, pB u 0), (3, pB t 0), (4, iv n.1)] a) ?_ ?_))))
       ·have hm := hl
        refine GT hm (fun dg hm => ?_) fun dg hm => ?_
        ·refine GR (wV (.agg #[SL G x.1.Slots D, SL H x.1.Waiting F]) bl (eL true 2 0 (ar.blk 7 rfl)) (wS true 2 0 (.agg #[SL G x.1.Slots D, SL H x.1.Waiting F]) 1 [SL G x.1.Slots D, SL H x.1.Waiting F] ar rfl fun kj fm => WN ?_))
         obtain rfl := HS hm
         exact NM fun a ha => ⟨G, D, ak, H, F, al, dm, dn, fm.pk [0, 1, 4, 5, 6], ha.s⟩
        refine GK ?_
        obtain rfl := HS hm
        exact NM fun a ha => ⟨B, z, X, C, A, Y, az, a0, ar.pk [0, 1, 4, 2, 3], ha.s⟩
       intro jw kk ⟨cj, b1, cw, ck, b2, cx, hn, ho, fn, gi⟩
       refine N_use gi ?_
       have hm := gx
       obtain rfl := HS hm
       exact NM fun a ha => ⟨cj, b1, cw, ck, b2, cx, hn, ho, fn.pk [0, 1, 2, 3, 4], ha.s⟩
      refine GK ?_
      obtain rfl := HS hm
      exact NM fun a ha => ⟨B, z, X, C, A, Y, az, a0, av.pk [0, 1, 4, 2, 3], ha.s⟩
     intro jx kl ⟨ch, bz, cu, ci, b0, cv, hj, hk, fo, gj⟩
     refine N_use gj ?_
     have hm := gw
     obtain rfl := HS hm
     exact NM fun a ha => ⟨ch, bz, cu, ci, b0, cv, hj, hk, fo.pk [0, 1, 2, 3, 4], ha.s⟩
    intro jy km ⟨cd, bu, cr, ce, bv, ct, he, hf, fp, gk⟩
    refine N_use gk ?_
    have hm := gv
    obtain rfl := HS hm
    exact NM fun a ha => ⟨cd, bu, cr, ce, bv, ct, he, hf, fp.pk [0, 1, 2, 3, 4], ha.s⟩
   intro jz jb ⟨cb, bs, cp, cc, bt, cq, g8, g9, fq, gl⟩
   refine N_use gl ?_
   have hm := gu
   refine BN (BN (TN (GR (MW 3 (WN ?_)))))
   cases hm
   exact N_loop fun a ha => ⟨_, rfl, cb, bs, cp, cc, bt, cq, g8, g9, fq.pk [0, 1, 2, 3, 4], ha.s⟩
  refine XA ?_
  obtain rfl := HS hm
  obtain rfl := h1 _ rfl
  exact NM fun a ha => ⟨B, z, X, C, A, Y, az, a0, ax.pk [0, 1, 2, 3, 4], ha.s⟩
 intro j0 eh ⟨J, K, ad, T, P, ab, a3, dl, be, gm⟩
 refine N_use gm ?_
 have hm := g2
 refine TN (QB (MW 1 (GD hm fun O ia hm => WC ((c_s_l1Cur_pick eh (⟨d.code, y.1, y.2.1⟩ : l1Cur) l m (Q.memX S be) c 24 (be.hasPick [2]) (be.nodupPick [2] (by kernel_rfl)) (apartX.old Q S be [2]) ia).mono ?_))))
 rintro e_ an ⟨rfl, es⟩
 have am := be.callF' [2] [0, 1, 3, 4] (by kernel_rfl) es
 refine ⟨_, rfl, ?_⟩
 refine NO (GB (QA (MW 2 (NO (GD hm fun N hp gy => G_meet (fun a w' => ∃ ah ae cy ai af cz ec, ownS encSlot N.2.2.1 ah ae cy ∧ ownS encWaiter N.2.2.2.1 ai af cz ∧ ownS encSlot N.2.2.2.2 J K ec ∧ Mem (idsOf [(BK c 110 [SL l d.code m, iv d.at_, .int .u64 d.seed])]) w w' [(BK u 85 [SN, SN]), (BK t 85 [SL ah N.2.2.1 ae, SL ai N.2.2.2.1 af]), (BK c 110 [SL l d.code m, iv N.1, .int .u64 N.2.1]), cy, cz] ∧ Sat Tryz.f184.ntmps [(2, pB u 0), (3, pB t 0)] a) ?_ ?_)))))
 ·have hm := hp
  refine GT hm (fun dh hm => ?_) fun dh hm => ?_
  ·refine GR (wR 1 [(2, pB u 0), (3, pB t 0), (54, pB c 0)] an (GD hm fun ds ib hm => WC ((c_s_l1Cur_slots an (⟨d.code, O.2.1, O.2.2⟩ : l1Cur) l m (Q.memX S am) c (am.hasPick [4]) (am.nodupPick [4] (by kernel_rfl)) (apartX.old Q S am [4]) ib).mono ?_)))
   rintro e_ jc ⟨cl, b3, ir, rfl, hs, et⟩
   have fs := am.callF' [4] [0, 1, 2, 3] (by kernel_rfl) et
   refine ⟨_, rfl, ?_⟩
   refine MW 1 (wS false 1 0 (SL cl ds.1 b3) 1 [SL cl ds.1 b3, SL T y.2.2.2 P] fs rfl fun kn ft => WN ?_)
   obtain rfl := HS hm
   exact NM fun a ha => ⟨cl, b3, ir, T, P, ab, ad, hs, dl, a3, ft.pk [0, 1, 4, 5, 3], ha.s⟩
  refine QA (MW 2 (NO (GD hm fun a7 ht gz => G_meet (fun a w' => ∃ cm b4 c0 bk, ownS encWaiter a7.2.2.1 cm b4 c0 ∧ ownS encSlot a7.2.2.2 J K bk ∧ Mem (idsOf [(BK c 110 [SL l d.code m, iv d.at_, .int .u64 d.seed])]) w w' [(BK u 85 [SN, SN]), (BK t 85 [SL J a7.2.2.2 K, SL cm a7.2.2.1 b4]), (BK c 110 [SL l d.code m, iv a7.1, .int .u64 a7.2.1]), c0, bk] ∧ Sat Tryz.f184.ntmps [(2, pB u 0), (3, pB t 0)] a) ?_ ?_)))
  ·have hm := ht
   rcases gx_bif hm with ⟨di, hm⟩ | ⟨di, hm⟩
   ·refine gT di (GD hm fun L ic hm => GD hm fun U ie hm => ?_)
    have fu : Mem (idsOf [(BK c 110 [SL l d.code m, iv d.at_, .int .u64 d.seed])]) w an ([(BK u 85 [SN, SN]), (BK t 85 [SL J y.2.2.1 K, SL T y.2.2.2 P]), ad, ab] ++ (List.range 8).map (fun i => ([[], [], [], (BK c 110 [SL l d.code m, iv O.2.1, .int .u64 O.2.2]), [], [], [], []] : List Seg).getD i [])) := am.pk [0, 1, 2, 3, 300000, 300001, 300002, 4, 300004, 300005, 300006, 300007]
    refine GU [(0, pB c 0), (2, pB u 0), (3, pB t 0), (51, iv O.1), (57, .bool (O.1 == 1))] (DL 8 [[],[0],[],[2],[],[3,4],[],[6]] [[],[],[],[],[],[3],[],[]] (EM 8) [[],[],[],[],[],[],[3,5],[]] (EM 8) (EM 8) (fun i => ([[], [], [], (BK c 110 [SL l d.code m, iv O.2.1, .int .u64 O.2.2]), [], [], [], []] : List Seg).getD i []) [QV (pB t 1), QV (.slice T y.2.2.2.length P), QV (pB c 0), fun f v s => v = (iv L.1 : Value) ∧ s = (BK c 110 [SL l d.code m, iv L.2.1, .int .u64 L.2.2]), QV (pB c 0), fun f v s => v = (iv U.1 : Value) ∧ s = (BK c 110 [SL l d.code m, iv U.2.1, .int .u64 U.2.2]), QV (.agg #[iv L.1, iv U.1]), fun f v s => ∃ aq ao, v = (.slice aq [(⟨L.1, U.1⟩ : Waiter)].length ao : Value) ∧ ownS encWaiter [(⟨L.1, U.1⟩ : Waiter)] aq ao s] [] [1, 5, 7] [5, 7] fu (AC ?_ (AC ?_ (AC ?_ (AC ?_ (AC ?_ (AC ?_ (AC ?_ (AC ?_ AN)))))))) ?_)
    ·intro ag au R jd fv
     exact OM ⟨rfl, rfl⟩ fv
    ·rintro ag au v0_ ⟨rfl, _⟩ R je dz
     exact OV ⟨rfl, rfl⟩ (eL false 1 1 (dz.blk 1 rfl)) dz
    ·intro ag au R jf fw
     exact OM ⟨rfl, rfl⟩ fw
    ·rintro ag au v2_ ⟨rfl, _⟩ R jg bf
     refine WC ((c_s_l1Cur_irq jg (⟨d.code, O.2.1, O.2.2⟩ : l1Cur) l m (Q.memX S bf) c (bf.hasPick [4]) (bf.nodupPick [4] (by kernel_rfl)) (apartX.old Q S bf [4]) ic).mono ?_)
     rintro e_ ko ⟨rfl, eu⟩
     refine ⟨_, rfl, ?_⟩
     exact WN (oE (iv L.1) (BK c 110 [SL l d.code m, iv L.2.1, .int .u64 L.2.2]) ⟨rfl, rfl⟩ (Mem.callMidF bf eu))
    ·intro ag au R jh fx
     exact OM ⟨rfl, rfl⟩ fx
    ·intro ag au v3_ hb3_
     obtain ⟨rfl, hs3_⟩ := hb3_
     rintro v4_ ⟨rfl, _⟩ R dw fy
     have bp : Mem (idsOf [(BK c 110 [SL l d.code m, iv d.at_, .int .u64 d.seed])]) w dw ([(BK u 85 [SN, SN]), (BK t 85 [SL J y.2.2.1 K, SL T y.2.2.2 P]), ad, ab] ++ ([[]] ++ ([(ag 3)] ++ ([] ++ R)))) := fy
     rw [hs3_] at bp
     replace bp : Mem (idsOf [(BK c 110 [SL l d.code m, iv d.at_, .int .u64 d.seed])]) w dw ([(BK u 85 [SN, SN]), (BK t 85 [SL J y.2.2.1 K, SL T y.2.2.2 P]), ad, ab] ++ ([[]] ++ ([(BK c 110 [SL l d.code m, iv L.2.1, .int .u64 L.2.2])] ++ ([] ++ R)))) := bp.permF (by simp)
     have bg := Mem.takeOver bp
     refine WC ((c_s_l1Cur_prio dw (⟨d.code, L.2.1, L.2.2⟩ : l1Cur) l m (Q.memX S bg) c (bg.hasPick [4]) (bg.nodupPick [4] (by kernel_rfl)) (apartX.old Q S bg [4]) ie).mono ?_)
     rintro e_ kp ⟨rfl, ev⟩
     refine ⟨_, rfl, ?_⟩
     exact WN (oE (iv U.1) (BK c 110 [SL l d.code m, iv U.2.1, .int .u64 U.2.2]) ⟨rfl, rfl⟩ (Mem.callMidF bg ev))
    ·intro ag au v3_ hb3_
     obtain ⟨_, rfl, _⟩ := hb3_
     intro v5_ hb5_
     obtain ⟨_, rfl, _⟩ := hb5_
     intro R ji fz
     exact OM ⟨rfl, rfl⟩ fz
    ·rintro ag au v6_ ⟨rfl, _⟩ R kq f0
     exact wL (E := encWaiter) [(⟨L.1, U.1⟩ : Waiter)] 1 [iv L.1, iv U.1] 142 f0 fun aq ao it kr dp f1 => WN (oE (SL aq [(⟨L.1, U.1⟩ : Waiter)] ao) it ⟨aq, ao, rfl, dp⟩ (Mem.mid f1))
    rintro ag au v1_ ⟨rfl, _⟩ v5_ hb5_
    obtain ⟨rfl, hs5_⟩ := hb5_
    intro v7_ hb7_
    obtain ⟨aq, ao, rfl, dp⟩ := hb7_
    intro jj f2
    have c5 : Mem (idsOf [(BK c 110 [SL l d.code m, iv d.at_, .int .u64 d.seed])]) w jj [(BK u 85 [SN, SN]), (BK t 85 [SL J y.2.2.1 K, SL T y.2.2.2 P]), ad, ab, (ag 5), (ag 7)] := f2
    rw [hs5_] at c5
    refine GD hm fun c7 gr hm => wA 16 [iv 0, iv 0] 3 c5 dl (dp.r c5 5) gr fun cn b5 iu jk hv f3 => MW 1 (wS false 1 1 (SL cn c7 b5) 1 [SL J y.2.2.1 K, SL cn c7 b5] f3 rfl fun ks f4 => WN ?_)
    obtain rfl := HS hm
    exact NM fun a ha => ⟨cn, b5, iu, ad, hv, a3, f4.pk [0, 1, 4, 3, 2], ha.s⟩
   refine gF di (QA (MW 2 (NO (GD hm fun b7 hw g0 => G_meet (fun a w' => ∃ c1, ownS encSlot b7.2.2 J K c1 ∧ Mem (idsOf [(BK c 110 [SL l d.code m, iv d.at_, .int .u64 d.seed])]) w w' [(BK u 85 [SN, SN]), (BK t 85 [SL J b7.2.2 K, SL T y.2.2.2 P]), ab, (BK c 110 [SL l d.code m, iv b7.1, .int .u64 b7.2.1]), c1] ∧ Sat Tryz.f184.ntmps [(2, pB u 0), (3, pB t 0)] a) ?_ ?_))))
   ·have hm := hw
    refine GT hm (fun dj hm => ?_) fun dj hm => ?_
    ·refine QA (MW 1 (wV (SL T y.2.2.2 P) an (eL false 1 1 (am.blk 1 rfl)) (MW 2 (NO (GD hm fun b8 hy g1 => G_meet (fun a w' => ∃ c2, ownS encSlot b8.2.2 J K c2 ∧ Mem (idsOf [(BK c 110 [SL l d.code m, iv d.at_, .int .u64 d.seed])]) w w' [(BK u 85 [SN, SN]), (BK t 85 [SL J b8.2.2 K, SL T y.2.2.2 P]), ab, (BK c 110 [SL l d.code m, iv b8.1, .int .u64 b8.2.1]), c2] ∧ Sat Tryz.f184.ntmps [(2, pB u 0), (3, pB t 0)] a) ?_ ?_)))))
     ·have hm := hy
      rcases gx_bif hm with ⟨dk, hm⟩ | ⟨dk, hm⟩
      ·refine gT dk (GD hm fun V ig hm => ?_)
       have f5 : Mem (idsOf [(BK c 110 [SL l d.code m, iv d.at_, .int .u64 d.seed])]) w an ([(BK u 85 [SN, SN]), (BK t 85 [SL J y.2.2.1 K, SL T y.2.2.2 P]), ad, ab] ++ (List.range 5).map (fun i => ([[], [], [], (BK c 110 [SL l d.code m, iv O.2.1, .int .u64 O.2.2]), []] : List Seg).getD i [])) := am.pk [0, 1, 2, 3, 300000, 300001, 300002, 4, 300004]
       refine GU [(0, pB c 0), (2, pB u 0), (3, pB t 0), (74, .bool (decide ((y.2.2.2.length : Int) > 0)))] (DL 5 [[],[0],[],[2],[]] (EM 5) (EM 5) (EM 5) (EM 5) (EM 5) (fun i => ([[], [], [], (BK c 110 [SL l d.code m, iv O.2.1, .int .u64 O.2.2]), []] : List Seg).getD i []) [QV (pB t 0), QV (.slice J y.2.2.1.length K), QV (pB c 0), fun f v s => v = (iv V.1 : Value) ∧ s = (BK c 110 [SL l d.code m, iv V.2.1, .int .u64 V.2.2]), QV (.agg #[iv 0, iv 0, iv 0])] [] [1, 3, 4] [3] f5 (AC ?_ (AC ?_ (AC ?_ (AC ?_ (AC ?_ AN))))) ?_)
       ·intro ay bj R jl f6
        exact OM ⟨rfl, rfl⟩ f6
       ·rintro ay bj v0_ ⟨rfl, _⟩ R jm d0
        exact OV ⟨rfl, rfl⟩ (eL false 1 0 (d0.blk 1 rfl)) d0
       ·intro ay bj R jn f7
        exact OM ⟨rfl, rfl⟩ f7
       ·rintro ay bj v2_ ⟨rfl, _⟩ R jo bh
        refine WC ((c_s_l1Cur_pick jo (⟨d.code, O.2.1, O.2.2⟩ : l1Cur) l m (Q.memX S bh) c 4 (bh.hasPick [4]) (bh.nodupPick [4] (by kernel_rfl)) (apartX.old Q S bh [4]) ig).mono ?_)
        rintro e_ kt ⟨rfl, ew⟩
        refine ⟨_, rfl, ?_⟩
        exact WN (oE (iv V.1) (BK c 110 [SL l d.code m, iv V.2.1, .int .u64 V.2.2]) ⟨rfl, rfl⟩ (Mem.callMidF bh ew))
       ·intro ay bj R jp f8
        exact OM ⟨rfl, rfl⟩ f8
       rintro ay bj v1_ ⟨rfl, _⟩ v3_ hb3_
       obtain ⟨rfl, hs3_⟩ := hb3_
       rintro v4_ ⟨rfl, _⟩ ei f9
       have c6 : Mem (idsOf [(BK c 110 [SL l d.code m, iv d.at_, .int .u64 d.seed])]) w ei [(BK u 85 [SN, SN]), (BK t 85 [SL J y.2.2.1 K, SL T y.2.2.2 P]), ad, ab, (ay 3)] := f9
       rw [hs3_] at c6
       refine GD hm fun js d6 hm => wV (elemP J (V.1.toNat * 3)) ei (eI (a3.r c6 2) rfl d6) (wE true 3 V.1.toNat 0 (V.1.toNat * 3) js (⟨0, 0, 0⟩ : Slot) (.agg #[iv 0, iv 0, iv 0]) 2 c6 a3 (gxIdx_spec d6).2 fun jq ed h0 ga => LX 76 J K y.2.2.1 V.1.toNat (⟨0, 0, 0⟩ : Slot) ?_)
       have gb : Mem (idsOf [(BK c 110 [.slice l d.code.length m, iv d.at_, .int .u64 d.seed])]) w jq [(BK u 85 [.slice none 0 0, .slice none 0 0]), (BK t 85 [.slice J (y.2.2.1.set V.1.toNat (⟨0, 0, 0⟩ : Slot)).length K, .slice T y.2.2.2.length P]), ed, ab, (BK c 110 [.slice l d.code.length m, iv V.2.1, .int .u64 V.2.2])] := by rw [@List.length_set _ y.2.2.1 V.1.toNat (⟨0, 0, 0⟩ : Slot)]; exact ga
       refine WN ?_
       obtain rfl := HS hm
       exact NM fun a ha => ⟨ed, h0, gb.pk [0, 1, 3, 4, 2], ha.s⟩
      refine gF dk (GK ?_)
      obtain rfl := HS hm
      exact NM fun a ha => ⟨ad, a3, am.pk [0, 1, 3, 4, 2], ha.s⟩
     intro j1 ku ⟨c2, hz, gc, gn⟩
     refine N_use gn ?_
     have hm := g1
     obtain rfl := HS hm
     exact NM fun a ha => ⟨c2, hz, gc.pk [0, 1, 2, 3, 4], ha.s⟩
    refine GK ?_
    obtain rfl := HS hm
    exact NM fun a ha => ⟨ad, a3, am.pk [0, 1, 3, 4, 2], ha.s⟩
   intro j2 kv ⟨c1, hx, gd, go⟩
   refine N_use go ?_
   have hm := g0
   obtain rfl := HS hm
   exact NM fun a ha => ⟨T, P, ab, c1, dl, hx, gd.pk [0, 1, 3, 2, 4], ha.s⟩
  intro j3 kw ⟨cm, b4, c0, bk, hu, d5, ge, gp⟩
  refine N_use gp ?_
  have hm := gz
  obtain rfl := HS hm
  exact NM fun a ha => ⟨J, K, bk, cm, b4, c0, bk, d5, hu, d5, ge.pk [0, 1, 2, 4, 3], ha.s⟩
 intro j4 jr ⟨ah, ae, cy, ai, af, cz, ec, hq, hr, j5, d1, gq⟩
 refine N_use gq ?_
 have hm := gy
 refine BN (NF (wV (.agg #[SL ah N.2.2.1 ae, SL ai N.2.2.2.1 af]) jr (eL true 2 0 (d1.blk 1 rfl)) (wS true 2 0 (.agg #[SL ah N.2.2.1 ae, SL ai N.2.2.2.1 af]) 0 [SL ah N.2.2.1 ae, SL ai N.2.2.2.1 af] d1 rfl fun kx d2 => NC ?_)))
 obtain rfl := HS hm
 exact N_ret [.agg #[SL ah N.2.2.1 ae, SL ai N.2.2.2.1 af]] (RX true 2 0 (d2.blk 0 rfl) RVs_nil) (⟨ah, ae, cy, ai, af, cz, rfl, hq, hr, d2.pk [2, 3, 4]⟩)
end Go.Proofs.YtllhajkgkghhdaaGreat
