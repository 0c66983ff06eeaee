/- Part of a proof: what its last text rests on. -/
import Derived.Test.YtllhajkgkghhdaaGreatProg
import Derived.Test.YtllhajkgkghhdaaGreatSh
import Derived.Test.YtllhajkgkghhdaaGreatsb
set_option linter.unusedVariables false
set_option linter.unusedSimpArgs false
set_option maxRecDepth 100000
set_option maxHeartbeats 4000000
namespace Go.Proofs.YtllhajkgkghhdaaGreat
open Go.Gx
theorem c_s_l9Own (w : World) (a : Queue) (y q) (aj : rdS encSlot w a.Slots y q) (z t) (ak : rdS encWaiter w a.Waiting z t) {r : Queue} (hm : M.s_l9Own a = some r) :
  Calls Tryz.prog 183 #[.agg #[SL y a.Slots q, SL z a.Waiting t]] w fun e w' => ∃ U S W V T X, e = .returned (.agg #[SL U r.Slots S, SL V r.Waiting T]) ∧ ownS encSlot r.Slots U S W ∧ ownS encWaiter r.Waiting V T X ∧ Mem [] w w' [W, X] := by
 unfold M.s_l9Own at hm
 refine cE Tryz.func183 ?_
 have M0 := Mem.refl [] w
 refine QA (wN (CE 85 [SL y a.Slots q, SL z a.Waiting t]) M0 fun m a0 Y => wN (CE 85 [SN, SN]) Y fun H a3 Z => NE (GD hm fun l al hm => GU [(0, .agg #[SL y a.Slots q, SL z a.Waiting t]), (1, pB m 0), (2, pB H 0)] (DL 7 [[],[],[1],[0,2],[],[],[5]] [[],[],[],[0],[],[],[]] (EM 7) (EM 7) (EM 7) (EM 7) (fun _ => []) [fun f v s => ∃ A u, v = (.slice A ([] : List Slot).length u : Value) ∧ ownS encSlot ([] : List Slot) A u s, QV (pB m 0), QV (.slice y a.Slots.length q), fun f v s => ∃ d c, v = (.slice d l.length c : Value) ∧ ownS encSlot l d c s, fun f v s => ∃ B x, v = (.slice B ([] : List Waiter).length x : Value) ∧ ownS encWaiter ([] : List Waiter) B x s, QV (pB m 1), QV (.slice z a.Waiting.length t)] [] [3, 4, 6] [3, 4] (Z.preNil 7) (AC ?_ (AC ?_ (AC ?_ (AC ?_ (AC ?_ (AC ?_ (AC ?_ AN))))))) ?_)))
 ·intro n G R a4 aa
  exact wL (E := encSlot) ([] : List Slot) 0 [] 117 aa fun A u ao a5 I ab => WN (oE (SL A ([] : List Slot) u) ao ⟨A, u, rfl, I⟩ (Mem.mid ab))
 ·intro n G R au ac
  exact OM ⟨rfl, rfl⟩ ac
 ·rintro n G v1_ ⟨rfl, _⟩ R av L
  exact OV ⟨rfl, rfl⟩ (eL false 1 0 (L.blk 0 rfl)) L
 ·intro n G v0_ hb0_
  obtain ⟨A, u, rfl, I⟩ := hb0_
  rintro v2_ ⟨rfl, _⟩ R a6 N
  exact wA 24 [iv 0, iv 0, iv 0] 3 N I (aj.mem0 N) al fun d c ap a7 J ad => WN (oE (SL d l c) ap ⟨d, c, rfl, J⟩ (Mem.takeOver ad))
 ·intro n G R a8 ae
  exact wL (E := encWaiter) ([] : List Waiter) 0 [] 142 ae fun B x aq a9 K af => WN (oE (SL B ([] : List Waiter) x) aq ⟨B, x, rfl, K⟩ (Mem.mid af))
 ·intro n G R aw ag
  exact OM ⟨rfl, rfl⟩ ag
 ·rintro n G v5_ ⟨rfl, _⟩ R ax O
  exact OV ⟨rfl, rfl⟩ (eL false 1 1 (O.blk 0 rfl)) O
 intro n G v3_ hb3_
 obtain ⟨d, c, rfl, J⟩ := hb3_
 intro v4_ hb4_
 obtain ⟨B, x, rfl, K⟩ := hb4_
 rintro v6_ ⟨rfl, _⟩ ay ah
 have P : Mem [] w ay [(BK m 85 [SL y a.Slots q, SL z a.Waiting t]), (BK H 85 [SN, SN]), (n 3), (n 4)] := ah
 refine GD hm fun F am hm => wA 16 [iv 0, iv 0] 3 P K (ak.mem0 P) am fun D C ar az an ai => MW 1 (wS true 2 0 (.agg #[SL d l c, SL D F C]) 1 [SL d l c, SL D F C] ai rfl fun ba Q => NC ?_)
 obtain rfl := HS hm
 exact N_ret [.agg #[SL d l c, SL D F C]] (RX true 2 0 (Q.blk 1 rfl) RVs_nil) (⟨d, c, (n 3), D, C, ar, rfl, J, an, Q.pk [2, 3]⟩)
theorem c_s_l10Own (w : World) (a : Interface) (B x) (an : rdS Gx.encI w a.Stack B x) (C y) (ao : rdS encSlot w a.Queue.Slots C y) (D z) (ap : rdS encWaiter w a.Queue.Waiting D z) {r : Interface} (hm : M.s_l10Own a = some r) :
  Calls Tryz.prog 145 #[.agg #[iv a.Mask, SL B a.Stack x, SL C a.Queue.Slots y, SL D a.Queue.Waiting z]] w fun e w' => ∃ Z W ac aa X ad ab Y ae, e = .returned (.agg #[iv r.Mask, SL Z r.Stack W, SL aa r.Queue.Slots X, SL ab r.Queue.Waiting Y]) ∧ ownS Gx.encI r.Stack Z W ac ∧ ownS encSlot r.Queue.Slots aa X ad ∧ ownS encWaiter r.Queue.Waiting ab Y ae ∧ Mem [] w w' [ac, ad, ae] := by
 unfold M.s_l10Own at hm
 refine cE Tryz.func145 ?_
 have M0 := Mem.refl [] w
 refine QA (wN (CE 87 [iv a.Mask, SL B a.Stack x, SL C a.Queue.Slots y, SL D a.Queue.Waiting z]) M0 fun u a5 ah => wN (CE 87 [iv 0, SN, SN, SN]) ah fun I a6 ai => NE (GD hm fun E aq hm => GD hm fun c ar hm => GU [(0, .agg #[iv a.Mask, SL B a.Stack x, SL C a.Queue.Slots y, SL D a.Queue.Waiting z]), (1, pB u 0), (2, pB I 0)] (DL 8 [[],[0],[],[2],[3],[],[5],[6]] (EM 8) (EM 8) (EM 8) (EM 8) (EM 8) (fun _ => []) [QV (pB u 0), QV (iv a.Mask), QV (pB u 1), QV (.slice B a.Stack.length x), fun f v s => ∃ n d, v = (.slice n E.length d : Value) ∧ ownS Gx.encI E n d s, QV (pB u 2), QV (.agg #[SL C a.Queue.Slots y, SL D a.Queue.Waiting z]), fun f v s => ∃ q l F t m G, v = (.agg #[SL q c.Slots l, SL t c.Waiting m] : Value) ∧ s = (F ++ G) ∧ ownS encSlot c.Slots q l F ∧ ownS encWaiter c.Waiting t m G] [] [1, 4, 7] [4, 7] (ai.preNil 8) (AC ?_ (AC ?_ (AC ?_ (AC ?_ (AC ?_ (AC ?_ (AC ?_ (AC ?_ AN)))))))) ?_)))
 ·intro A H R av aj
  exact OM ⟨rfl, rfl⟩ aj
 ·rintro A H v0_ ⟨rfl, _⟩ R aw Q
  exact OV ⟨rfl, rfl⟩ (eL false 1 0 (Q.blk 0 rfl)) Q
 ·intro A H R ax ak
  exact OM ⟨rfl, rfl⟩ ak
 ·rintro A H v2_ ⟨rfl, _⟩ R ay S
  exact OV ⟨rfl, rfl⟩ (eL false 1 1 (S.blk 0 rfl)) S
 ·rintro A H v3_ ⟨rfl, _⟩ R az T
  refine WC ((c_s_l1Own az a.Stack B x (an.mem0 T) aq).mono ?_)
  rintro e_ a7 ⟨n, d, au, rfl, L, af⟩
  refine ⟨_, rfl, ?_⟩
  exact WN (oE (SL n E d) au ⟨n, d, rfl, L⟩ (Mem.callMid T af))
 ·intro A H R a0 al
  exact OM ⟨rfl, rfl⟩ al
 ·rintro A H v5_ ⟨rfl, _⟩ R a3 U
  exact OV ⟨rfl, rfl⟩ (eL true 2 2 (U.blk 0 rfl)) U
 ·rintro A H v6_ ⟨rfl, _⟩ R a4 K
  refine WC ((c_s_l9Own a4 a.Queue C y (ao.mem0 K) D z (ap.mem0 K) ar).mono ?_)
  rintro e_ a8 ⟨q, l, F, t, m, G, rfl, N, O, ag⟩
  refine ⟨_, rfl, ?_⟩
  exact WN (oE (.agg #[SL q c.Slots l, SL t c.Waiting m]) (F ++ G) ⟨q, l, F, t, m, G, rfl, rfl, N, O⟩ (Mem.callMid K (ag.permF (by simp))))
 rintro A H v1_ ⟨rfl, _⟩ v4_ hb4_
 obtain ⟨n, d, rfl, L⟩ := hb4_
 intro v7_ hb7_
 obtain ⟨q, l, F, t, m, G, rfl, hs7_, N, O⟩ := hb7_
 intro P am
 have J : Mem [] w P [(BK u 87 [iv a.Mask, SL B a.Stack x, SL C a.Queue.Slots y, SL D a.Queue.Waiting z]), (BK I 87 [iv 0, SN, SN, SN]), (A 4), F, G] := am.permF (by simp [hs7_, SL])
 refine MW 1 (wS true 4 0 (.agg #[iv a.Mask, SL n E d, SL q c.Slots l, SL t c.Waiting m]) 1 [iv a.Mask, SL n E d, SL q c.Slots l, SL t c.Waiting m] J rfl fun a9 V => NC ?_)
 obtain rfl := HS hm
 exact N_ret [.agg #[iv a.Mask, SL n E d, SL q c.Slots l, SL t c.Waiting m]] (RX true 4 0 (V.blk 1 rfl) RVs_nil) (⟨n, d, (A 4), q, l, F, t, m, G, rfl, L, N, O, V.pk [2, 3, 4]⟩)
theorem c_s_l21Own (w : World) (c : Machine) (Q N) (dq : rdS encRoute w c.Routes Q N) (S O) (dr : rdS Gx.encB w c.Enabled S O) (T P) (ds : rdS Gx.encB w c.Raised T P) (J L) (dt : rdD deepInterface w c.Cpus J L) {r : Machine} (hm : M.s_l21Own c = some r) :
  Calls Tryz.prog 88 #[.agg #[SL Q c.Routes N, SL S c.Enabled O, SL T c.Raised P, SL J c.Cpus L]] w fun e w' => ∃ cg b9 ck ch ca cl ci cb cm cj cc cn co, e = .returned (.agg #[SL cg r.Routes b9, SL ch r.Enabled ca, SL ci r.Raised cb, SL cj r.Cpus cc]) ∧ ownS encRoute r.Routes cg b9 ck ∧ ownS Gx.encB r.Enabled ch ca cl ∧ ownS Gx.encB r.Raised ci cb cm ∧ ownD deepInterface r.Cpus cj cc cn co ∧ Mem [] w w' [ck, cl, cm, cn, co] := by
 unfold M.s_l21Own at hm
 refine cE Tryz.func88 ?_
 have M0 := Mem.refl [] w
 refine QA (wN (CE 32 [SL Q c.Routes N, SL S c.Enabled O, SL T c.Raised P, SL J c.Cpus L]) M0 fun n e2 cu => wN (CE 32 [SN, SN, SN, SN]) cu fun K e3 cv => NE (GD hm fun G dw hm => GD hm fun H dx hm => GD hm fun I dy hm => GU [(0, .agg #[SL Q c.Routes N, SL S c.Enabled O, SL T c.Raised P, SL J c.Cpus L]), (1, pB n 0), (2, pB K 0)] (DL 15 [[],[],[1],[0,2],[],[],[5],[4,6],[],[],[9],[8,10],[],[],[]] [[],[],[],[0],[],[],[],[4],[],[],[],[8],[],[],[]] (EM 15) [[],[],[],[],[],[],[],[],[],[],[],[],[],[3,7,11,12],[]] [[],[],[],[],[],[],[],[],[],[],[],[],[],[3,7,11,12],[]] (EM 15) (fun _ => []) [fun f v s => ∃ ax aq, v = (.slice ax ([] : List Route).length aq : Value) ∧ ownS encRoute ([] : List Route) ax aq s, QV (pB n 0), QV (.slice Q c.Routes.length N), fun f v s => ∃ y t, v = (.slice y G.length t : Value) ∧ ownS encRoute G y t s, fun f v s => ∃ ay ar, v = (.slice ay ([] : List Bool).length ar : Value) ∧ ownS Gx.encB ([] : List Bool) ay ar s, QV (pB n 1), QV (.slice S c.Enabled.length O), fun f v s => ∃ z u, v = (.slice z H.length u : Value) ∧ ownS Gx.encB H z u s, fun f v s => ∃ az au, v = (.slice az ([] : List Bool).length au : Value) ∧ ownS Gx.encB ([] : List Bool) az au s, QV (pB n 2), QV (.slice T c.Raised.length P), fun f v s => ∃ B x, v = (.slice B I.length x : Value) ∧ ownS Gx.encB I B x s, fun f v s => ∃ V U am a3, v = (.slice V ([] : List Interface).length U : Value) ∧ s = (am ++ a3) ∧ ownD deepInterface ([] : List Interface) V U am a3, fun f v s => v = (.agg #[(atPath (f 3) []), (atPath (f 7) []), (atPath (f 11) []), (atPath (f 12) [])] : Value) ∧ s = [], fun f v s => ∃ q, v = (pB q 0 : Value) ∧ s = (BK q 32 [SN, SN, SN, SN])] [] [3, 7, 11, 12, 13, 14] [3, 7, 11, 12, 14] (cv.preNil 15) (AC ?_ (AC ?_ (AC ?_ (AC ?_ (AC ?_ (AC ?_ (AC ?_ (AC ?_ (AC ?_ (AC ?_ (AC ?_ (AC ?_ (AC ?_ (AC ?_ (AC ?_ AN))))))))))))))) ?_)))
 ·intro d W R e4 cw
  exact wL (E := encRoute) ([] : List Route) 0 [] 129 cw fun ax aq ea e5 bi cx => WN (oE (SL ax ([] : List Route) aq) ea ⟨ax, aq, rfl, bi⟩ (Mem.mid cx))
 ·intro d W R eg cy
  exact OM ⟨rfl, rfl⟩ cy
 ·rintro d W v1_ ⟨rfl, _⟩ R eh bw
  exact OV ⟨rfl, rfl⟩ (eL false 1 0 (bw.blk 0 rfl)) bw
 ·intro d W v0_ hb0_
  obtain ⟨ax, aq, rfl, bi⟩ := hb0_
  rintro v2_ ⟨rfl, _⟩ R e6 bx
  exact wA 16 [iv 0, iv 0] 3 bx bi (dq.mem0 bx) dw fun y t eb e7 bj cz => WN (oE (SL y G t) eb ⟨y, t, rfl, bj⟩ (Mem.takeOver cz))
 ·intro d W R e8 c0
  exact wL (E := Gx.encB) ([] : List Bool) 0 [] 4 c0 fun ay ar ec e9 bk c1 => WN (oE (SL ay ([] : List Bool) ar) ec ⟨ay, ar, rfl, bk⟩ (Mem.mid c1))
 ·intro d W R ei c2
  exact OM ⟨rfl, rfl⟩ c2
 ·rintro d W v5_ ⟨rfl, _⟩ R ej bz
  exact OV ⟨rfl, rfl⟩ (eL false 1 1 (bz.blk 0 rfl)) bz
 ·intro d W v4_ hb4_
  obtain ⟨ay, ar, rfl, bk⟩ := hb4_
  rintro v6_ ⟨rfl, _⟩ R fa b0
  exact wA 1 [.bool false] 3 b0 bk (dr.mem0 b0) dx fun z u ed fb bl c3 => WN (oE (SL z H u) ed ⟨z, u, rfl, bl⟩ (Mem.takeOver c3))
 ·intro d W R fc c4
  exact wL (E := Gx.encB) ([] : List Bool) 0 [] 4 c4 fun az au ee fd bm c5 => WN (oE (SL az ([] : List Bool) au) ee ⟨az, au, rfl, bm⟩ (Mem.mid c5))
 ·intro d W R ek c6
  exact OM ⟨rfl, rfl⟩ c6
 ·rintro d W v9_ ⟨rfl, _⟩ R el b1
  exact OV ⟨rfl, rfl⟩ (eL false 1 2 (b1.blk 0 rfl)) b1
 ·intro d W v8_ hb8_
  obtain ⟨az, au, rfl, bm⟩ := hb8_
  rintro v10_ ⟨rfl, _⟩ R fe b2
  exact wA 1 [.bool false] 3 b2 bm (ds.mem0 b2) dy fun B x ef ff bn c7 => WN (oE (SL B I x) ef ⟨B, x, rfl, bn⟩ (Mem.takeOver c7))
 ·intro d W R fg c8
  exact W_litD (D := deepInterface) (s1 := []) [] ([] : List Interface) rfl 0 [] 87 c8 (by kernel_rfl) (by kernel_rfl) (by kernel_rfl) (by kernel_rfl) (by kernel_rfl) ownI_nil fun V U am fh bo c9 => WN (oE (.slice V ([] : List Interface).length U) (am ++ []) ⟨V, U, am, [], rfl, rfl, bo⟩ (Mem.mid (by rw [List.append_nil]; exact c9)))
 ·intro d W v3_ hb3_
  obtain ⟨_, y, t, rfl, _⟩ := hb3_
  intro v7_ hb7_
  obtain ⟨_, z, u, rfl, _⟩ := hb7_
  intro v11_ hb11_
  obtain ⟨_, B, x, rfl, _⟩ := hb11_
  intro v12_ hb12_
  obtain ⟨_, V, U, _, _, rfl, _⟩ := hb12_
  intro R em da
  exact OM ⟨rfl, rfl⟩ da
 ·intro d W R fi db
  exact wN (CE 32 [SN, SN, SN, SN]) db fun q fj dc => WN (oE (pB q 0) (BK q 32 [SN, SN, SN, SN]) ⟨q, rfl, rfl⟩ (Mem.mid dc))
 intro d W v3_ hb3_
 obtain ⟨y, t, rfl, bj⟩ := hb3_
 intro v7_ hb7_
 obtain ⟨z, u, rfl, bl⟩ := hb7_
 intro v11_ hb11_
 obtain ⟨B, x, rfl, bn⟩ := hb11_
 intro v12_ hb12_
 obtain ⟨V, U, am, a3, rfl, hs12_, bo⟩ := hb12_
 intro v13_ hb13_
 obtain ⟨hv13_, _⟩ := hb13_
 obtain rfl : v13_ = (.agg #[SL y G t, SL z H u, SL B I x, SL V ([] : List Interface) U] : Value) := hv13_.trans (by kernel_rfl)
 intro v14_ hb14_
 obtain ⟨q, rfl, hs14_⟩ := hb14_
 intro cp dd
 have a5 : Mem [] w cp [(BK n 32 [SL Q c.Routes N, SL S c.Enabled O, SL T c.Raised P, SL J c.Cpus L]), (BK K 32 [SN, SN, SN, SN]), (d 3), (d 7), (d 11), am, a3, (BK q 32 [SN, SN, SN, SN])] := dd.permF (by simp [hs12_, hs14_, SL])
 refine wS true 4 0 (.agg #[SL y G t, SL z H u, SL B I x, SL V ([] : List Interface) U]) 7 [SL y G t, SL z H u, SL B I x, SL V ([] : List Interface) U] a5 rfl fun en de => NB (MW 1 (NO (GD hm fun aw d7 d1 => G_meet (fun a w' => ∃ ai ad bc bd, ownD deepInterface aw ai ad bc bd ∧ Mem [] w w' [(BK K 32 [SN, SN, SN, SN]), (d 3), (d 7), (d 11), (BK q 32 [SL y G t, SL z H u, SL B I x, SL ai aw ad]), bc, bd] ∧ Sat Tryz.f88.ntmps [(2, pB K 0), (3, pB q 0)] a) ?_ ?_)))
 ·refine GB (G_while (σ := Int × List Interface) (ρ := List Interface) (fun C a w' => ∃ Y X a4 an, ownD deepInterface C.2 Y X a4 an ∧ Mem [] w w' [(BK n 32 [SL Q c.Routes N, SL S c.Enabled O, SL T c.Raised P, SL J c.Cpus L]), (BK K 32 [SN, SN, SN, SN]), (d 3), (d 7), (d 11), (BK q 32 [SL y G t, SL z H u, SL B I x, SL Y C.2 X]), a4, an] ∧ Sat Tryz.f88.ntmps [(1, pB n 0), (2, pB K 0), (3, pB q 0), (4, iv C.1)] a) d7 (fun a ha => ⟨V, U, am, a3, bo, de.pk [0, 1, 2, 3, 4, 7, 5, 6], ha.s⟩) ?_)
  clear hm
  intro C fn hm d4 e0 bu ⟨Y, X, a4, an, cd, be, du⟩
  refine G_use du (QB (MW 2 (wV (SL J c.Cpus L) bu (eL false 1 3 (be.blk 0 rfl)) (MW 2 (NO (GT hm (fun bg hm => ?_) fun bg hm => ?_))))))
  ·refine GK (TN (GS (GB (GD hm fun F d8 hm => ?_))))
   obtain ⟨fo, cf, ce, bh⟩ := id dt
   obtain ⟨m, a7⟩ := gxIdx_fst cf d8
   refine GD hm fun l d5 hm => GU [(1, pB n 0), (2, pB K 0), (3, pB q 0), (4, iv C.1), (23, .bool (decide (C.1 < (c.Cpus.length : Int))))] (DL 9 [[],[0],[],[2],[],[3,4],[5],[6],[7]] [[],[],[],[],[],[],[],[],[7]] (EM 9) (EM 9) (EM 9) (EM 9) (fun _ => []) [QV (pB q 3), QV (.slice Y C.2.length X), QV (pB n 3), QV (.slice J c.Cpus.length L), QV (iv C.1), QV (elemP J (C.1.toNat * 4)), QV (.agg #[iv F.Mask, SL ((m 0).1) F.Stack ((m 0).2), SL ((m 1).1) F.Queue.Slots ((m 1).2), SL ((m 2).1) F.Queue.Waiting ((m 2).2)]), fun f v s => ∃ aj ae Z ak af aa al ag ab, v = (.agg #[iv l.Mask, SL aj l.Stack ae, SL ak l.Queue.Slots af, SL al l.Queue.Waiting ag] : Value) ∧ s = (Z ++ (aa ++ ab)) ∧ ownS Gx.encI l.Stack aj ae Z ∧ ownS encSlot l.Queue.Slots ak af aa ∧ ownS encWaiter l.Queue.Waiting al ag ab, fun f v s => ∃ a0 ap ac ao, v = (.slice a0 [l].length ap : Value) ∧ s = (ac ++ ao) ∧ ownD deepInterface [l] a0 ap ac ao] [] [1, 8] [8] (be.preNil 9) (AC ?_ (AC ?_ (AC ?_ (AC ?_ (AC ?_ (AC ?_ (AC ?_ (AC ?_ (AC ?_ AN))))))))) ?_)
   ·intro ah av R eo df
    exact OM ⟨rfl, rfl⟩ df
   ·rintro ah av v0_ ⟨rfl, _⟩ R ep b3
    exact OV ⟨rfl, rfl⟩ (eL false 1 3 (b3.blk 5 rfl)) b3
   ·intro ah av R er dg
    exact OM ⟨rfl, rfl⟩ dg
   ·rintro ah av v2_ ⟨rfl, _⟩ R es b4
    exact OV ⟨rfl, rfl⟩ (eL false 1 3 (b4.blk 0 rfl)) b4
   ·intro ah av R et dh
    exact OM ⟨rfl, rfl⟩ dh
   ·rintro ah av v3_ ⟨rfl, _⟩
    rintro v4_ ⟨rfl, _⟩ R eu b5
    exact OV ⟨rfl, rfl⟩ (eI (ce.mem0 b5) (len_fst cf) a7) b5
   ·rintro ah av v5_ ⟨rfl, _⟩ R ev b6
    exact OV ⟨rfl, rfl⟩ (eE true 4 0 (C.1.toNat * 4) (ce.mem0 b6) a7) b6
   ·rintro ah av v6_ ⟨rfl, _⟩ R ew a8
    refine WC ((c_s_l10Own ew F ((m 0).1) ((m 0).2) ((bh.mem0 a8).a_ a7 0) ((m 1).1) ((m 1).2) ((bh.mem0 a8).a_ a7 1) ((m 2).1) ((m 2).2) ((bh.mem0 a8).a_ a7 2) d5).mono ?_)
    rintro e_ fk ⟨aj, ae, Z, ak, af, aa, al, ag, ab, rfl, bp, bq, br, ct⟩
    refine ⟨_, rfl, ?_⟩
    exact WN (oE (.agg #[iv l.Mask, SL aj l.Stack ae, SL ak l.Queue.Slots af, SL al l.Queue.Waiting ag]) (Z ++ (aa ++ ab)) ⟨aj, ae, Z, ak, af, aa, al, ag, ab, rfl, rfl, bp, bq, br⟩ (Mem.callMid a8 (ct.permF (by simp))))
   ·intro ah av v7_ hb7_
    obtain ⟨aj, ae, Z, ak, af, aa, al, ag, ab, rfl, hs7_, bp, bq, br⟩ := hb7_
    intro R cq di
    have a9 : Mem [] w cq ([(BK n 32 [SL Q c.Routes N, SL S c.Enabled O, SL T c.Raised P, SL J c.Cpus L]), (BK K 32 [SN, SN, SN, SN]), (d 3), (d 7), (d 11), (BK q 32 [SL y G t, SL z H u, SL B I x, SL Y C.2 X]), a4, an] ++ ([[]] ++ ([(ah 7)] ++ ([] ++ R)))) := di
    rw [hs7_] at a9
    replace a9 : Mem [] w cq ([(BK n 32 [SL Q c.Routes N, SL S c.Enabled O, SL T c.Raised P, SL J c.Cpus L]), (BK K 32 [SN, SN, SN, SN]), (d 3), (d 7), (d 11), (BK q 32 [SL y G t, SL z H u, SL B I x, SL Y C.2 X]), a4, an] ++ ([[]] ++ ([Z, aa, ab] ++ ([] ++ R)))) := a9.permF (by simp)
    exact W_litD (D := deepInterface) [(l, plOf [(aj, ae), (ak, af), (al, ag)])] [l] rfl 1 [iv l.Mask, SL aj l.Stack ae, SL ak l.Queue.Slots af, SL al l.Queue.Waiting ag] 87 a9 (by kernel_rfl) (by kernel_rfl) (by kernel_rfl) (by kernel_rfl) (by kernel_rfl) (ownI_cons (i := ⟨Int, Gx.encI, _, _, _⟩) bp (ownI_cons (i := ⟨Slot, encSlot, _, _, _⟩) bq (ownI_cons (i := ⟨Waiter, encWaiter, _, _, _⟩) br ownI_nil))) fun a0 ap ac fl bs dj => WN (oE (SL a0 [l] ap) (ac ++ (Z ++ (aa ++ (ab ++ [])))) ⟨a0, ap, ac, (Z ++ (aa ++ (ab ++ []))), rfl, rfl, bs⟩ (Mem.midJ (A := [Z, aa, ab]) dj))
   rintro ah av v1_ ⟨rfl, _⟩ v8_ hb8_
   obtain ⟨a0, ap, ac, ao, rfl, hs8_, bs⟩ := hb8_
   intro cr dk
   have a6 : Mem [] w cr [(BK n 32 [SL Q c.Routes N, SL S c.Enabled O, SL T c.Raised P, SL J c.Cpus L]), (BK K 32 [SN, SN, SN, SN]), (d 3), (d 7), (d 11), (BK q 32 [SL y G t, SL z H u, SL B I x, SL Y C.2 X]), a4, an, ac, ao] := dk.permF (by simp [hs8_, SL])
   refine GD hm fun bf dz hm => ?_
   obtain ⟨ez, d9, d6, d0⟩ := id bs
   refine W_appendD (D := deepInterface) (us := ez) (s2 := ao) _ _ _ 80 [iv 0, SN, SN, SN] 6 ap a6 cd (by kernel_rfl) (by kernel_rfl) (by kernel_rfl) rfl (by kernel_rfl) (by kernel_rfl) (by kernel_rfl) (by kernel_rfl) (by kernel_rfl) (by kernel_rfl) (d6.r a6 8) d9 d0 dz ?_
   intro bb ba bt bv d3 dl
   have dm : Mem [] w bv [(BK n 32 [SL Q c.Routes N, SL S c.Enabled O, SL T c.Raised P, SL J c.Cpus L]), (BK K 32 [SN, SN, SN, SN]), (d 3), (d 7), (d 11), (BK q 32 [SL y G t, SL z H u, SL B I x, SL Y C.2 X]), bt, ac, an, ao] := dl.pk [0, 1, 2, 3, 4, 5, 6, 8, 7, 9]
   have dn : Mem [] w bv [(BK n 32 [SL Q c.Routes N, SL S c.Enabled O, SL T c.Raised P, SL J c.Cpus L]), (BK K 32 [SN, SN, SN, SN]), (d 3), (d 7), (d 11), (BK q 32 [SL y G t, SL z H u, SL B I x, SL Y C.2 X]), bt, ac, (an ++ ao)] := dm.regroup (by simp)
   refine MW 1 (wS false 1 3 (SL bb bf ba) 5 [SL y G t, SL z H u, SL B I x, SL bb bf ba] dn rfl fun ex dp => NG (MW 3 (WN ?_)))
   cases hm
   exact N_loop fun a ha => ⟨_, rfl, bb, ba, bt, (an ++ ao), d3, dp.pk [0, 1, 2, 3, 4, 5, 6, 8], ha.s⟩
  refine XA ?_
  obtain rfl := HS hm
  obtain rfl := d4 _ rfl
  exact NM fun a ha => ⟨Y, X, a4, an, cd, be.pk [1, 2, 3, 4, 5, 6, 7], ha.s⟩
 intro e1 ey ⟨ai, ad, bc, bd, d2, b7, dv⟩
 refine N_use dv ?_
 have hm := d1
 refine NF (wV (.agg #[SL y G t, SL z H u, SL B I x, SL ai aw ad]) ey (eL true 4 0 (b7.blk 4 rfl)) (wS true 4 0 (.agg #[SL y G t, SL z H u, SL B I x, SL ai aw ad]) 0 [SL y G t, SL z H u, SL B I x, SL ai aw ad] b7 rfl fun fm b8 => NC ?_))
 obtain rfl := HS hm
 exact N_ret [.agg #[SL y G t, SL z H u, SL B I x, SL ai aw ad]] (RX true 4 0 (b8.blk 0 rfl) RVs_nil) (⟨y, t, (d 3), z, u, (d 7), B, x, (d 11), ai, ad, bc, bd, rfl, bj, bl, bn, d2, b8.pk [1, 2, 3, 5, 6]⟩)
theorem c_s_l8With (w : World) (g : List Slot) (j i) (z : rdS encSlot w g j i) (b : Int) (a : Slot) {r : (List Slot)} (hm : M.s_l8With g b a = some r) :
  Calls Tryz.prog 251 #[SL j g i, iv b, .agg #[iv a.State, iv a.Irq, iv a.Priority]] w fun e w' => ∃ t n u, e = .returned (SL t r n) ∧ ownS encSlot r t n u ∧ Mem [] w w' [u] := by
 unfold M.s_l8With at hm
 refine cE Tryz.func251 ?_
 have M0 := Mem.refl [] w
 refine QA (wN (CE 117 [iv a.State, iv a.Irq, iv a.Priority]) M0 fun h G v => MW 1 (NA (wL (E := encSlot) ([] : List Slot) 0 [] 117 v fun D y K H B m => MW 1 (GD hm fun c A hm => wA 24 [iv 0, iv 0, iv 0] 1 m B (z.mem0 m) A fun d f L k o l => MW 1 (NA (MW 2 (wV (.agg #[iv a.State, iv a.Irq, iv a.Priority]) k (eL true 3 0 (l.blk 0 rfl)) (GD hm fun J q hm => wV (elemP d (b.toNat * 3)) k (eI (o.r l 1) rfl q) (wE true 3 b.toNat 0 (b.toNat * 3) J a (.agg #[iv a.State, iv a.Irq, iv a.Priority]) 1 l o (gxIdx_spec q).2 fun I F C x => LX 7 d f c b.toNat a (LX 11 d f c b.toNat a (NA (MW 2 (NC ?_)))))))))))))
 cases hm
 exact RA [SL d (c.set b.toNat a) f] (⟨d, f, F, rfl, C, x.pk [1]⟩)
theorem c_s_l8Put (w : World) (c : List Slot) (b d) (l : rdS encSlot w c b d) (g : Int) (i : Int) {r : (List Slot) × Bool} (hm : M.s_l8Put c g i = some r) :
  Calls Tryz.prog 223 #[SL b c d, iv g, iv i] w fun e w' => ∃ L J P, e = .returned (.tuple #[SL L r.1 J, .bool r.2]) ∧ ownS encSlot r.1 L J P ∧ Mem [] w w' [P] := by
 unfold M.s_l8Put at hm
 refine cE Tryz.func223 ?_
 have M0 := Mem.refl [] w
 refine QA (MW 2 (NB (MW 2 (GD hm fun h af hm => WD (c_s_l8Find w c b d (l.mem0 M0) g af) M0 fun k n => MW 1 (NA (MW 2 (NO (GT hm (fun B hm => ?_) fun B hm => ?_))))))))
 ·refine QA (MW 2 (GD hm fun f K hm => wV (elemP b (h.toNat * 3)) k (eI (l.mem0 n) rfl K) (wV (.agg #[iv f.State, iv f.Irq, iv f.Priority]) k (eE true 3 0 (h.toNat * 3) (l.mem0 n) K) (wN (CE 117 [iv 0, iv 0, iv 0]) n fun j aq U => wS true 3 0 (.agg #[iv f.State, iv f.Irq, iv f.Priority]) 0 [iv f.State, iv f.Irq, iv f.Priority] U rfl fun q u => NB (MW 1 (wV (iv f.State) q (eL false 1 0 (u.blk 0 rfl)) (MW 1 (NO (GD hm fun o ab aa => G_meet (fun a w' => Mem [] w w' [(BK j 117 [iv o, iv f.Irq, iv f.Priority])] ∧ Sat Tryz.f223.ntmps [(0, SL b c d), (8, iv h), (9, pB j 0)] a) ?_ ?_)))))))))
  ·have hm := ab
   refine GT hm (fun C hm => ?_) fun C hm => ?_
   ·refine GR (MW 1 (wS false 1 0 (iv 3) 0 [iv 3, iv f.Irq, iv f.Priority] u rfl fun ar V => WN ?_))
    obtain rfl := HS hm
    exact NM fun a ha => ⟨V.pk [0], ha.s⟩
   refine GK ?_
   obtain rfl := HS hm
   exact NM fun a ha => ⟨u.pk [0], ha.s⟩
  intro ap I ⟨v, Z⟩
  refine N_use Z ?_
  have hm := aa
  refine NF (MW 2 (wV (.agg #[iv o, iv f.Irq, iv f.Priority]) I (eL true 3 0 (v.blk 0 rfl)) (GD hm fun N ag hm => WC ((c_s_l8With I c b d (l.mem0 v) h (⟨o, f.Irq, f.Priority⟩ : Slot) ag).mono ?_))))
  rintro e_ am ⟨F, y, aj, rfl, ac, R⟩
  have W := v.call R
  refine ⟨_, rfl, ?_⟩
  refine wR 2 [(6, SL F N y), (7, .bool true)] am (ND ?_)
  cases hm
  exact RA [SL F N y, .bool true] (⟨F, y, aj, rfl, ac, W.pk [1]⟩)
 refine KA (MW 1 (GD hm fun m ah hm => WD (c_s_l8Free k c b d (l.mem0 n) ah) n fun t x => MW 1 (NB (MW 2 (NO (GT hm (fun D hm => ?_) fun D hm => ?_))))))
 ·refine QA (wL (E := encSlot) ([] : List Slot) 0 [] 117 x fun G z ak an ad X => MW 2 (ND ?_))
  cases hm
  exact RA [SL G ([] : List Slot) z, .bool false] (⟨G, z, ak, rfl, ad, X.pk [0]⟩)
 refine KA (MW 5 (GD hm fun O ai hm => WC ((c_s_l8With t c b d (l.mem0 x) m (⟨1, g, i⟩ : Slot) ai).mono ?_)))
 rintro e_ ao ⟨H, A, al, rfl, ae, T⟩
 have Y := x.call T
 refine ⟨_, rfl, ?_⟩
 refine MW 2 (NC ?_)
 cases hm
 exact RA [SL H O A, .bool true] (⟨H, A, al, rfl, ae, Y.pk [0]⟩)
theorem c_s_l9Settle (w : World) (H : Queue) (X U) (cl : rdS encSlot w H.Slots X U) (Y V) (cm : rdS encWaiter w H.Waiting Y V) {r : Queue} (hm : M.s_l9Settle H = some r) :
  Calls Tryz.prog 224 #[.agg #[SL X H.Slots U, SL Y H.Waiting V]] w fun e w' => ∃ bn bh bq bo bi br, e = .returned (.agg #[SL bn r.Slots bh, SL bo r.Waiting bi]) ∧ ownS encSlot r.Slots bn bh bq ∧ ownS encWaiter r.Waiting bo bi br ∧ Mem [] w w' [bq, br] := by
 unfold M.s_l9Settle at hm
 refine cE Tryz.func224 ?_
 have M0 := Mem.refl [] w
 refine QA (wN (CE 85 [SL X H.Slots U, SL Y H.Waiting V]) M0 fun d5 d7 b3 => wN (CE 85 [SN, SN]) b3 fun q bt af => NA (wV (.agg #[SL X H.Slots U, SL Y H.Waiting V]) bt (eL true 2 0 (af.blk 0 rfl)) (GD hm fun al c4 hm => WC ((c_s_l9Own bt H X U (cl.mem0 af) Y V (cm.mem0 af) c4).mono ?_))))
 rintro e_ d8 ⟨a0, au, de, a3, av, df, rfl, cu, cv, bw⟩
 have b4 := af.call bw
 refine ⟨_, rfl, ?_⟩
 refine wN (CE 85 [SN, SN]) b4 fun l d9 b5 => wS true 2 0 (.agg #[SL a0 al.Slots au, SL a3 al.Waiting av]) 4 [SL a0 al.Slots au, SL a3 al.Waiting av] b5 rfl fun ea b6 => NE (GD hm fun u da ct => G_meet (fun a w' => ∃ N I an O J ao, ownS encSlot u.1 N I an ∧ ownS encWaiter u.2 O J ao ∧ Mem [] w w' [(BK q 85 [SN, SN]), (BK l 85 [SL N u.1 I, SL O u.2 J]), an, ao] ∧ Sat Tryz.f224.ntmps [(2, pB q 0), (3, pB l 0)] a) ?_ ?_)
 ·refine GB (G_while (σ := List Slot × List Waiter) (ρ := List Slot × List Waiter) (fun d a w' => ∃ c n Z G F aa, ownS encSlot d.1 c n Z ∧ ownS encWaiter d.2 G F aa ∧ Mem [] w w' [(BK q 85 [SN, SN]), (BK l 85 [SL c d.1 n, SL G d.2 F]), Z, aa] ∧ Sat Tryz.f224.ntmps [(2, pB q 0), (3, pB l 0)] a) da (fun a ha => ⟨a0, au, de, a3, av, df, cu, cv, b6.pk [1, 4, 2, 3], ha.s⟩) ?_)
  clear hm
  intro d ef hm c3 d2 bu ⟨c, n, Z, G, F, aa, L, W, ag, cn⟩
  refine G_use cn (QB (wV (.agg #[SL c d.1 n, SL G d.2 F]) bu (eL true 2 0 (ag.blk 1 rfl)) (GD hm fun dc c5 hm => WD (c_s_l9Settled bu (⟨d.1, d.2⟩ : Queue) c n (L.r ag 2) G F (W.r ag 3) c5) ag fun ad ab => MW 1 (NO (GT hm (fun aw hm => ?_) fun aw hm => ?_)))))
  ·refine GK (TN (GB (QA (MW 1 (wV (SL G d.2 F) ad (eL false 1 1 (ab.blk 1 rfl)) (GD hm fun t bl hm => wV (elemP G ((0 : Int).toNat * 2)) ad (eI (W.r ab 3) rfl bl) (wV (.agg #[iv t.Irq, iv t.Priority]) ad (eE true 2 0 ((0 : Int).toNat * 2) (W.r ab 3) bl) (wN (CE 142 [iv 0, iv 0]) ab fun x eb b7 => wS true 2 0 (.agg #[iv t.Irq, iv t.Priority]) 4 [iv t.Irq, iv t.Priority] b7 rfl fun ec b8 => NA (wL (E := encWaiter) ([] : List Waiter) 0 [] 142 b8 fun db ck d6 a5 cy ah => MW 1 (wV (SL G d.2 F) a5 (eL false 1 1 (ah.blk 1 rfl)) (GD hm fun d1 bm hm => wV (SL (subP G (1 : Int).toNat F 2) d1 (F - (1 : Int).toNat)) a5 (E_slice (E := encWaiter) _ _ _ _ d.2.length 1 (d.2.length : Int) rfl (by kernel_rfl) (Or.inr ⟨_, rfl, by kernel_rfl⟩) (Or.inl ⟨rfl, rfl⟩) (by kernel_rfl) (W.r ah 3) rfl bm) (GD hm fun D cq hm => wA 16 [iv 0, iv 0] 5 ah cy ((W.r ah 3).sliceM bm) cq fun C z bs aq bk ar => MW 1 (NA (MW 1 (wV (SL c d.1 n) aq (eL false 1 0 (ar.blk 1 rfl)) (GD hm fun am c6 hm => WD (c_s_l8Free aq d.1 c n (L.r ar 2) c6) ar fun ae ai => MW 1 (NB (MW 2 (NO (GD hm fun y cz cr => G_meet (fun a w' => ∃ P K ap, ownS encWaiter y.1 P K ap ∧ Mem [] w w' [(BK q 85 [SN, SN]), (BK l 85 [SL c d.1 n, SL G d.2 F]), Z, aa, (BK x 142 [iv t.Irq, iv t.Priority]), ap] ∧ Sat Tryz.f224.ntmps [(2, pB q 0), (3, pB l 0), (4, pB x 0), (5, SL P y.1 K), (6, iv y.2)] a) ?_ ?_))))))))))))))))))))
   ·have hm := cz
    refine GT hm (fun ax hm => ?_) fun ax hm => ?_
    ·refine QA (MW 1 (wV (SL c d.1 n) ae (eL false 1 0 (ai.blk 1 rfl)) (GD hm fun m c7 hm => WD (c_s_l8Best ae d.1 c n (L.r ai 2) false c7) ai fun di b9 => MW 1 (NO (GD hm fun Q ay hm => GD hm fun S az hm => GU [(2, pB q 0), (3, pB l 0), (4, pB x 0), (5, SL C D z), (6, iv m)] (DL 14 [[],[],[1],[],[2,3],[4],[5],[],[7],[],[8,9],[10],[11],[6,12]] (EM 14) (EM 14) (EM 14) (EM 14) (EM 14) (fun _ => []) [QV (.slice C D.length z), QV (pB l 0), QV (.slice c d.1.length n), QV (iv m), QV (elemP c (m.toNat * 3)), QV (elemP c (m.toNat * 3 + 1)), QV (iv Q.Irq), QV (pB l 0), QV (.slice c d.1.length n), QV (iv m), QV (elemP c (m.toNat * 3)), QV (elemP c (m.toNat * 3 + 2)), QV (iv S.Priority), QV (.agg #[iv Q.Irq, iv S.Priority])] [] [0, 13] [] (b9.preNil 14) (AC ?_ (AC ?_ (AC ?_ (AC ?_ (AC ?_ (AC ?_ (AC ?_ (AC ?_ (AC ?_ (AC ?_ (AC ?_ (AC ?_ (AC ?_ (AC ?_ AN)))))))))))))) ?_))))))
     ·intro B A R dj ca
      exact OM ⟨rfl, rfl⟩ ca
     ·intro B A R dk cb
      exact OM ⟨rfl, rfl⟩ cb
     ·rintro B A v1_ ⟨rfl, _⟩ R dl a6
      exact OV ⟨rfl, rfl⟩ (eL false 1 0 (a6.blk 1 rfl)) a6
     ·intro B A R dm cc
      exact OM ⟨rfl, rfl⟩ cc
     ·rintro B A v2_ ⟨rfl, _⟩
      rintro v3_ ⟨rfl, _⟩ R dn a7
      exact OV ⟨rfl, rfl⟩ (eI (L.r a7 2) rfl ay) a7
     ·rintro B A v4_ ⟨rfl, _⟩ R dp a8
      exact OV ⟨rfl, rfl⟩ (eF 1 (m.toNat * 3) 1 (L.r a8 2) ay) a8
     ·rintro B A v5_ ⟨rfl, _⟩ R dq a9
      exact OV ⟨rfl, rfl⟩ (eE false 1 1 (m.toNat * 3 + 1) (L.r a9 2) ay) a9
     ·intro B A R dr cd
      exact OM ⟨rfl, rfl⟩ cd
     ·rintro B A v7_ ⟨rfl, _⟩ R ds ba
      exact OV ⟨rfl, rfl⟩ (eL false 1 0 (ba.blk 1 rfl)) ba
     ·intro B A R dt ce
      exact OM ⟨rfl, rfl⟩ ce
     ·rintro B A v8_ ⟨rfl, _⟩
      rintro v9_ ⟨rfl, _⟩ R du bb
      exact OV ⟨rfl, rfl⟩ (eI (L.r bb 2) rfl az) bb
     ·rintro B A v10_ ⟨rfl, _⟩ R dv bc
      exact OV ⟨rfl, rfl⟩ (eF 2 (m.toNat * 3) 2 (L.r bc 2) az) bc
     ·rintro B A v11_ ⟨rfl, _⟩ R dw bd
      exact OV ⟨rfl, rfl⟩ (eE false 1 2 (m.toNat * 3 + 2) (L.r bd 2) az) bd
     ·rintro B A v6_ ⟨rfl, _⟩
      rintro v12_ ⟨rfl, _⟩ R dx cf
      exact OM ⟨rfl, rfl⟩ cf
     rintro B A v0_ ⟨rfl, _⟩
     rintro v13_ ⟨rfl, _⟩ bv cg
     have be : Mem [] w bv [(BK q 85 [SN, SN]), (BK l 85 [SL c d.1 n, SL G d.2 F]), Z, aa, (BK x 142 [iv t.Irq, iv t.Priority]), bs] := cg
     refine GD hm fun dd c8 hm => WC ((c_s_l9Wait bv D C z (bk.r be 5) (⟨Q.Irq, S.Priority⟩ : Waiter) c8).mono ?_)
     rintro e_ dy ⟨bp, bj, dg, rfl, c1, b1⟩
     have ch := be.call b1
     refine ⟨_, rfl, ?_⟩
     refine MW 1 (WN ?_)
     obtain rfl := HS hm
     exact NM fun a ha => ⟨bp, bj, dg, c1, ch.pk [0, 1, 2, 3, 4, 6], ha.s⟩
    refine GK ?_
    obtain rfl := HS hm
    exact NM fun a ha => ⟨C, z, bs, bk, ai.pk [0, 1, 2, 3, 4, 5], ha.s⟩
   intro d3 T ⟨P, K, ap, c0, ac, co⟩
   refine N_use co ?_
   have hm := cr
   refine TN (GR (MW 1 (wV (SL c d.1 n) T (eL false 1 0 (ac.blk 1 rfl)) (MW 2 (wV (iv t.Irq) T (eL false 1 0 (ac.blk 4 rfl)) (MW 1 (wV (iv t.Priority) T (eL false 1 1 (ac.blk 4 rfl)) (wR 1 [(2, pB q 0), (3, pB l 0), (5, SL P y.1 K), (45, SL c d.1 n), (46, iv y.2), (51, .agg #[iv 1, iv t.Irq, iv t.Priority])] T (GD hm fun a4 c9 hm => WC ((c_s_l8With T d.1 c n (L.r ac 2) y.2 (⟨1, t.Irq, t.Priority⟩ : Slot) c9).mono ?_))))))))))
   rintro e_ dz ⟨ak, aj, dh, rfl, c2, b2⟩
   have ci := ac.call b2
   refine ⟨_, rfl, ?_⟩
   refine MW 2 (wS true 2 0 (.agg #[SL ak a4 aj, SL P y.1 K]) 1 [SL ak a4 aj, SL P y.1 K] ci rfl fun ed cj => WN (BN ?_))
   cases hm
   exact N_loop fun a ha => ⟨_, rfl, ak, aj, dh, P, K, ap, c2, c0, cj.pk [0, 1, 6, 5], ha.s⟩
  refine XA ?_
  obtain rfl := HS hm
  obtain rfl := c3 _ rfl
  exact NM fun a ha => ⟨c, n, Z, G, F, aa, L, W, ab.pk [0, 1, 2, 3], ha.s⟩
 intro d4 d0 ⟨N, I, an, O, J, ao, cw, cx, bf, cp⟩
 refine N_use cp ?_
 have hm := ct
 refine NF (wV (.agg #[SL N u.1 I, SL O u.2 J]) d0 (eL true 2 0 (bf.blk 1 rfl)) (wS true 2 0 (.agg #[SL N u.1 I, SL O u.2 J]) 0 [SL N u.1 I, SL O u.2 J] bf rfl fun ee bg => NC ?_))
 obtain rfl := HS hm
 exact N_ret [.agg #[SL N u.1 I, SL O u.2 J]] (RX true 2 0 (bg.blk 0 rfl) RVs_nil) (⟨N, I, an, O, J, ao, rfl, cw, cx, bg.pk [2, 3]⟩)
theorem c_s_l9Has (w : World) (d : List Waiter) (c f) (j : rdS encWaiter w d c f) (g : Int) {r : Int} (hm : M.s_l9Has d g = some r) :
  Calls Tryz.prog 225 #[SL c d f, iv g] w fun e w' => e = .returned (iv r) ∧ Mem [] w w' [] := by
 unfold M.s_l9Has at hm
 refine cE Tryz.func225 ?_
 have M0 := Mem.refl [] w
 refine QA (MW 1 (NB (MW 1 (NO (GD hm fun z y n => G_meet (fun a w' => ∃ (q : Unit), z = .inl q ∧ Mem [] w w' [] ∧ Sat Tryz.f225.ntmps [] a) ?_ ?_)))))
 ·refine GB (G_while (σ := Int) (ρ := (Unit) ⊕ (Int)) (fun b a w' => Mem [] w w' [] ∧ Sat Tryz.f225.ntmps [(0, SL c d f), (1, iv g), (5, iv b)] a) y (fun a ha => ⟨M0.pk [], ha.s⟩) ?_)
  clear hm
  intro b D hm o B h ⟨i, v⟩
  refine G_use v (QB (MW 4 (NO (GT hm (fun k hm => ?_) fun k hm => ?_))))
  ·refine KD (MW 2 (GD hm fun t m hm => wV (elemP c (b.toNat * 2)) h (eI (j.mem0 i) rfl m) (wV (elemP c (b.toNat * 2 + 0)) h (eF 0 (b.toNat * 2) 0 (j.mem0 i) m) (wV (iv t.Irq) h (eE false 1 0 (b.toNat * 2 + 0) (j.mem0 i) m) (MW 2 (NO (GT hm (fun l hm => ?_) fun l hm => ?_)))))))
   ·refine QA (MW 2 (NX ?_))
    obtain rfl := HS hm
    obtain rfl := o _ rfl
    have hm := n; simp only [Sum.elim_inr] at hm
    refine BR (N_meet_ret (TR ?_))
    obtain rfl := HS hm
    exact RA [iv b] (⟨rfl, i.pk []⟩)
   refine KC (MW 3 (WN ?_))
   cases hm
   exact N_loop fun a ha => ⟨_, rfl, i.pk [], ha.s⟩
  refine XA ?_
  obtain rfl := HS hm
  obtain rfl := o _ rfl
  exact NM fun a ha => ⟨_, rfl, i.pk [], ha.s⟩
 intro C A ⟨q, hout_, u, x⟩
 refine N_use x ?_
 subst hout_
 have hm := n; simp only [Sum.elim_inl] at hm
 refine NF (wR 1 [(4, iv (-1))] A (NC ?_))
 cases hm
 exact RA [iv (-1)] (⟨rfl, u.pk []⟩)
theorem c_s_l9Offer (w : World) (a : Queue) (n m) (ab : rdS encSlot w a.Slots n m) (t q) (ac : rdS encWaiter w a.Waiting t q) (c : Int) (l : Int) {r : Queue} (hm : M.s_l9Offer a c l = some r) :
  Calls Tryz.prog 172 #[.agg #[SL n a.Slots m, SL t a.Waiting q], iv c, iv l] w fun e w' => ∃ av ar ay aw au az, e = .returned (.agg #[SL av r.Slots ar, SL aw r.Waiting au]) ∧ ownS encSlot r.Slots av ar ay ∧ ownS encWaiter r.Waiting aw au az ∧ Mem [] w w' [ay, az] := by
 unfold M.s_l9Offer at hm
 refine cE Tryz.func172 ?_
 have M0 := Mem.refl [] w
 refine QA (wN (CE 85 [SL n a.Slots m, SL t a.Waiting q]) M0 fun d cf a9 => wN (CE 85 [SN, SN]) a9 fun u ad ae => NB (MW 1 (wV (SL n a.Slots m) ad (eL false 1 0 (ae.blk 0 rfl)) (MW 1 (GD hm fun bx bq hm => WD (c_s_l8Find ad a.Slots n m (ab.mem0 ae) c bq) ae fun D U => MW 1 (NO (GT hm (fun ag hm => ?_) fun ag hm => ?_)))))))
 ·refine QA (MW 1 (wV (SL n a.Slots m) D (eL false 1 0 (U.blk 0 rfl)) (MW 2 (GD hm fun Y br hm => WC ((c_s_l8Put D a.Slots n m (ab.mem0 U) c l br).mono ?_)))))
  rintro e_ Z ⟨X, W, ce, rfl, bj, a3⟩
  have aa := U.call a3
  refine ⟨_, rfl, ?_⟩
  refine MW 5 (NA (MW 2 (wV (SL t a.Waiting q) Z (eL false 1 1 (aa.blk 0 rfl)) (MW 1 (GD hm fun z bs hm => WC ((c_s_l9Settle Z (⟨Y.1, a.Waiting⟩ : Queue) X W (bj.r aa 2) t q (ac.mem0 aa) bs).mono ?_))))))
  rintro e_ cg ⟨N, G, bz, O, H, b0, rfl, bk, bl, a4⟩
  have ba := aa.call a4
  refine ⟨_, rfl, ?_⟩
  refine wS true 2 0 (.agg #[SL N z.Slots G, SL O z.Waiting H]) 1 [SL N z.Slots G, SL O z.Waiting H] ba rfl fun ch al => ND ?_
  obtain rfl := HS hm
  exact N_ret [.agg #[SL N z.Slots G, SL O z.Waiting H]] (RX true 2 0 (al.blk 1 rfl) RVs_nil) (⟨N, G, bz, O, H, b0, rfl, bk, bl, al.pk [3, 4]⟩)
 refine KB (MW 1 (wV (SL t a.Waiting q) D (eL false 1 1 (U.blk 0 rfl)) (MW 1 (GD hm fun ax bt hm => WD (c_s_l9Has D a.Waiting t q (ac.mem0 U) c bt) U fun aj V => wR 1 [(1, iv c), (2, iv l), (3, pB d 0), (6, pB u 0), (31, .bool (decide (ax ≥ 0)))] aj (NO (GT hm (fun ah hm => ?_) fun ah hm => ?_))))))
 ·refine QA (wV (.agg #[SL n a.Slots m, SL t a.Waiting q]) aj (eL true 2 0 (V.blk 0 rfl)) (GD hm fun A bu hm => WC ((c_s_l9Settle aj a n m (ab.mem0 V) t q (ac.mem0 V) bu).mono ?_)))
  rintro e_ ci ⟨P, I, b1, Q, J, b2, rfl, bm, bn, a6⟩
  have bb := V.call a6
  refine ⟨_, rfl, ?_⟩
  refine wS true 2 0 (.agg #[SL P A.Slots I, SL Q A.Waiting J]) 1 [SL P A.Slots I, SL Q A.Waiting J] bb rfl fun cj am => ND ?_
  obtain rfl := HS hm
  exact N_ret [.agg #[SL P A.Slots I, SL Q A.Waiting J]] (RX true 2 0 (am.blk 1 rfl) RVs_nil) (⟨P, I, b1, Q, J, b2, rfl, bm, bn, am.pk [2, 3]⟩)
 refine GK (TN (GS (GD hm fun F bv hm => GU [(1, iv c), (2, iv l), (3, pB d 0), (6, pB u 0), (31, .bool (decide (ax ≥ 0)))] (DL 8 [[],[0],[],[2],[],[],[4,5],[3,6]] (EM 8) (EM 8) (EM 8) (EM 8) (EM 8) (fun _ => []) [QV (pB d 0), QV (.slice n a.Slots.length m), QV (pB d 1), QV (.slice t a.Waiting.length q), QV (iv c), QV (iv l), QV (.agg #[iv c, iv l]), fun f v s => ∃ y x, v = (.slice y F.length x : Value) ∧ ownS encWaiter F y x s] [] [1, 7] [7] (V.preNil 8) (AC ?_ (AC ?_ (AC ?_ (AC ?_ (AC ?_ (AC ?_ (AC ?_ (AC ?_ AN)))))))) ?_))))
 ·intro C E R b6 bc
  exact OM ⟨rfl, rfl⟩ bc
 ·rintro C E v0_ ⟨rfl, _⟩ R b7 an
  exact OV ⟨rfl, rfl⟩ (eL false 1 0 (an.blk 0 rfl)) an
 ·intro C E R b8 bd
  exact OM ⟨rfl, rfl⟩ bd
 ·rintro C E v2_ ⟨rfl, _⟩ R b9 ao
  exact OV ⟨rfl, rfl⟩ (eL false 1 1 (ao.blk 0 rfl)) ao
 ·intro C E R ca be
  exact OM ⟨rfl, rfl⟩ be
 ·intro C E R cb bf
  exact OM ⟨rfl, rfl⟩ bf
 ·rintro C E v4_ ⟨rfl, _⟩
  rintro v5_ ⟨rfl, _⟩ R cc bg
  exact OM ⟨rfl, rfl⟩ bg
 ·rintro C E v3_ ⟨rfl, _⟩
  rintro v6_ ⟨rfl, _⟩ R cd ap
  refine WC ((c_s_l9Wait cd a.Waiting t q (ac.mem0 ap) (⟨c, l⟩ : Waiter) bv).mono ?_)
  rintro e_ ck ⟨y, x, b3, rfl, ai, a7⟩
  refine ⟨_, rfl, ?_⟩
  exact WN (oE (SL y F x) b3 ⟨y, x, rfl, ai⟩ (Mem.callMid ap a7))
 rintro C E v1_ ⟨rfl, _⟩ v7_ hb7_
 obtain ⟨y, x, rfl, ai⟩ := hb7_
 intro ak bh
 have af : Mem [] w ak [(BK d 85 [SL n a.Slots m, SL t a.Waiting q]), (BK u 85 [SN, SN]), (C 7)] := bh
 refine MW 1 (GD hm fun B bw hm => WC ((c_s_l9Settle ak (⟨a.Slots, F⟩ : Queue) n m (ab.mem0 af) y x (ai.r af 2) bw).mono ?_))
 rintro e_ cl ⟨S, K, b4, T, L, b5, rfl, bo, bp, a8⟩
 have bi := af.call a8
 refine ⟨_, rfl, ?_⟩
 refine wS true 2 0 (.agg #[SL S B.Slots K, SL T B.Waiting L]) 1 [SL S B.Slots K, SL T B.Waiting L] bi rfl fun cm aq => NC ?_
 obtain rfl := HS hm
 exact N_ret [.agg #[SL S B.Slots K, SL T B.Waiting L]] (RX true 2 0 (aq.blk 1 rfl) RVs_nil) (⟨S, K, b4, T, L, b5, rfl, bo, bp, aq.pk [3, 4]⟩)
theorem c_s_l10Raise (w : World) (a : Interface) (B y) (ar : rdS Gx.encI w a.Stack B y) (C z) (au : rdS encSlot w a.Queue.Slots C z) (D A) (av : rdS encWaiter w a.Queue.Waiting D A) (I : Int) (J : Int) {r : Interface} (hm : M.s_l10Raise a I J = some r) :
  Calls Tryz.prog 132 #[.agg #[iv a.Mask, SL B a.Stack y, SL C a.Queue.Slots z, SL D a.Queue.Waiting A], iv I, iv J] w fun e w' => ∃ ab Y ae ac Z af ad aa ag, e = .returned (.agg #[iv r.Mask, SL ab r.Stack Y, SL ac r.Queue.Slots Z, SL ad r.Queue.Waiting aa]) ∧ ownS Gx.encI r.Stack ab Y ae ∧ ownS encSlot r.Queue.Slots ac Z af ∧ ownS encWaiter r.Queue.Waiting ad aa ag ∧ Mem [] w w' [ae, af, ag] := by
 unfold M.s_l10Raise at hm
 refine cE Tryz.func132 ?_
 have M0 := Mem.refl [] w
 refine QA (wN (CE 87 [iv a.Mask, SL B a.Stack y, SL C a.Queue.Slots z, SL D a.Queue.Waiting A]) M0 fun u bb aj => wN (CE 87 [iv 0, SN, SN, SN]) aj fun K bc ak => NE (GD hm fun E aw hm => GD hm fun c ax hm => GU [(0, .agg #[iv a.Mask, SL B a.Stack y, SL C a.Queue.Slots z, SL D a.Queue.Waiting A]), (1, iv I), (2, iv J), (3, pB u 0), (6, pB K 0)] (DL 10 [[],[0],[],[2],[3],[],[5],[],[],[6,7,8]] (EM 10) (EM 10) (EM 10) (EM 10) (EM 10) (fun _ => []) [QV (pB u 0), QV (iv a.Mask), QV (pB u 1), QV (.slice B a.Stack.length y), fun f v s => ∃ n d, v = (.slice n E.length d : Value) ∧ ownS Gx.encI E n d s, QV (pB u 2), QV (.agg #[SL C a.Queue.Slots z, SL D a.Queue.Waiting A]), QV (iv I), QV (iv J), fun f v s => ∃ q l F t m G, v = (.agg #[SL q c.Slots l, SL t c.Waiting m] : Value) ∧ s = (F ++ G) ∧ ownS encSlot c.Slots q l F ∧ ownS encWaiter c.Waiting t m G] [] [1, 4, 9] [4, 9] (ak.preNil 10) (AC ?_ (AC ?_ (AC ?_ (AC ?_ (AC ?_ (AC ?_ (AC ?_ (AC ?_ (AC ?_ (AC ?_ AN)))))))))) ?_)))
 ·intro x H R az al
  exact OM ⟨rfl, rfl⟩ al
 ·rintro x H v0_ ⟨rfl, _⟩ R a0 T
  exact OV ⟨rfl, rfl⟩ (eL false 1 0 (T.blk 0 rfl)) T
 ·intro x H R a3 am
  exact OM ⟨rfl, rfl⟩ am
 ·rintro x H v2_ ⟨rfl, _⟩ R a4 U
  exact OV ⟨rfl, rfl⟩ (eL false 1 1 (U.blk 0 rfl)) U
 ·rintro x H v3_ ⟨rfl, _⟩ R a5 V
  refine WC ((c_s_l1Own a5 a.Stack B y (ar.mem0 V) aw).mono ?_)
  rintro e_ bd ⟨n, d, ay, rfl, O, ah⟩
  refine ⟨_, rfl, ?_⟩
  exact WN (oE (SL n E d) ay ⟨n, d, rfl, O⟩ (Mem.callMid V ah))
 ·intro x H R a6 an
  exact OM ⟨rfl, rfl⟩ an
 ·rintro x H v5_ ⟨rfl, _⟩ R a7 W
  exact OV ⟨rfl, rfl⟩ (eL true 2 2 (W.blk 0 rfl)) W
 ·intro x H R a8 ao
  exact OM ⟨rfl, rfl⟩ ao
 ·intro x H R a9 ap
  exact OM ⟨rfl, rfl⟩ ap
 ·rintro x H v6_ ⟨rfl, _⟩
  rintro v7_ ⟨rfl, _⟩
  rintro v8_ ⟨rfl, _⟩ R ba N
  refine WC ((c_s_l9Offer ba a.Queue C z (au.mem0 N) D A (av.mem0 N) I J ax).mono ?_)
  rintro e_ be ⟨q, l, F, t, m, G, rfl, P, Q, ai⟩
  refine ⟨_, rfl, ?_⟩
  exact WN (oE (.agg #[SL q c.Slots l, SL t c.Waiting m]) (F ++ G) ⟨q, l, F, t, m, G, rfl, rfl, P, Q⟩ (Mem.callMid N (ai.permF (by simp))))
 rintro x H v1_ ⟨rfl, _⟩ v4_ hb4_
 obtain ⟨n, d, rfl, O⟩ := hb4_
 intro v9_ hb9_
 obtain ⟨q, l, F, t, m, G, rfl, hs9_, P, Q⟩ := hb9_
 intro S aq
 have L : Mem [] w S [(BK u 87 [iv a.Mask, SL B a.Stack y, SL C a.Queue.Slots z, SL D a.Queue.Waiting A]), (BK K 87 [iv 0, SN, SN, SN]), (x 4), F, G] := aq.permF (by simp [hs9_, SL])
 refine MW 1 (wS true 4 0 (.agg #[iv a.Mask, SL n E d, SL q c.Slots l, SL t c.Waiting m]) 1 [iv a.Mask, SL n E d, SL q c.Slots l, SL t c.Waiting m] L rfl fun bf X => NC ?_)
 obtain rfl := HS hm
 exact N_ret [.agg #[iv a.Mask, SL n E d, SL q c.Slots l, SL t c.Waiting m]] (RX true 4 0 (X.blk 1 rfl) RVs_nil) (⟨n, d, (x 4), q, l, F, t, m, G, rfl, O, P, Q, X.pk [2, 3, 4]⟩)
end Go.Proofs.YtllhajkgkghhdaaGreat
set_option linter.unusedVariables false
set_option linter.unusedSimpArgs false
set_option maxRecDepth 100000
set_option maxHeartbeats 4000000
namespace Go.Proofs.YtllhajkgkghhdaaGreat
open Go.Gx
theorem c_s_l21Sync (w : World) (d : Machine) (A F) (ak : rdS encRoute w d.Routes A F) (O Q) (bf : rdS Gx.encB w d.Enabled O Q) (P S) (bg : rdS Gx.encB w d.Raised P S) (L T) (b9 : rdD deepInterface w d.Cpus L T) {r : Machine} (hm : M.s_l21Sync d = some r) :
  Calls Tryz.prog 76 #[.agg #[SL A d.Routes F, SL O d.Enabled Q, SL P d.Raised S, SL L d.Cpus T]] w fun e w' => ∃ ce b5 ci cf b6 cj cg b7 ck ch b8 cl cm, e = .returned (.agg #[SL ce r.Routes b5, SL cf r.Enabled b6, SL cg r.Raised b7, SL ch r.Cpus b8]) ∧ ownS encRoute r.Routes ce b5 ci ∧ ownS Gx.encB r.Enabled cf b6 cj ∧ ownS Gx.encB r.Raised cg b7 ck ∧ ownD deepInterface r.Cpus ch b8 cl cm ∧ Mem [] w w' [ci, cj, ck, cl, cm] := by
 unfold M.s_l21Sync at hm
 refine cE Tryz.func76 ?_
 have M0 := Mem.refl [] w
 refine QA (wN (CE 32 [SL A d.Routes F, SL O d.Enabled Q, SL P d.Raised S, SL L d.Cpus T]) M0 fun u fc cu => wN (CE 32 [SN, SN, SN, SN]) cu fun y cn am => NA (wV (.agg #[SL A d.Routes F, SL O d.Enabled Q, SL P d.Raised S, SL L d.Cpus T]) cn (eL true 4 0 (am.blk 0 rfl)) (GD hm fun t d4 hm => WC ((c_s_l21Own cn d A F (ak.mem0 am) O Q (bf.mem0 am) P S (bg.mem0 am) L T (b9.mem0 am) d4).mono ?_))))
 rintro e_ fd ⟨I, G, af, J, H, ag, B, D, ef, x, z, eg, eh, rfl, dp, dq, dr, ds, cq⟩
 have cv := am.call cq
 refine ⟨_, rfl, ?_⟩
 refine wN (CE 32 [SN, SN, SN, SN]) cv fun n fe cw => wS true 4 0 (.agg #[SL I t.Routes G, SL J t.Enabled H, SL B t.Raised D, SL x t.Cpus z]) 7 [SL I t.Routes G, SL J t.Enabled H, SL B t.Raised D, SL x t.Cpus z] cw rfl fun ei cx => NB (MW 1 (NO (GD hm fun N d8 dn => G_meet (fun a w' => ∃ a8 a9 ba, ownS Gx.encB N.1 B D a8 ∧ ownD deepInterface N.2 x z a9 ba ∧ Mem [] w w' [(BK y 32 [SN, SN, SN, SN]), af, ag, (BK n 32 [SL I t.Routes G, SL J t.Enabled H, SL B N.1 D, SL x N.2 z]), a8, a9, ba] ∧ Sat Tryz.f76.ntmps [(2, pB y 0), (3, pB n 0)] a) ?_ ?_)))
 ·refine GB (G_while (σ := Int × List Bool × List Interface) (ρ := List Bool × List Interface) (fun c a w' => ∃ aq ai aj, ownS Gx.encB c.2.1 B D aq ∧ ownD deepInterface c.2.2 x z ai aj ∧ Mem [] w w' [(BK u 32 [SL A d.Routes F, SL O d.Enabled Q, SL P d.Raised S, SL L d.Cpus T]), (BK y 32 [SN, SN, SN, SN]), af, ag, (BK n 32 [SL I t.Routes G, SL J t.Enabled H, SL B c.2.1 D, SL x c.2.2 z]), aq, ai, aj] ∧ Sat Tryz.f76.ntmps [(1, pB u 0), (2, pB y 0), (3, pB n 0), (4, iv c.1)] a) d8 (fun a ha => ⟨ef, eg, eh, dr, ds, cx.pk [0, 1, 2, 3, 7, 4, 5, 6], ha.s⟩) ?_)
  clear hm
  intro c fh hm d2 e6 C ⟨aq, ai, aj, a5, bl, K, dg⟩
  refine G_use dg (QB (MW 2 (NO (GT hm (fun bh hm => ?_) fun bh hm => ?_))))
  ·refine KD (MW 1 (wV (SL A d.Routes F) C (eL false 1 0 (K.blk 0 rfl)) (MW 1 (GD hm fun m bq hm => wV (elemP A (c.1.toNat * 2)) C (eI (ak.mem0 K) rfl bq) (wV (elemP A (c.1.toNat * 2 + 1)) C (eF 1 (c.1.toNat * 2) 1 (ak.mem0 K) bq) (wV (iv m.Target) C (eE false 1 1 (c.1.toNat * 2 + 1) (ak.mem0 K) bq) (MW 1 (NE (GD hm fun ec dv dl => G_meet (fun a w' => Mem [] w w' [(BK u 32 [SL A d.Routes F, SL O d.Enabled Q, SL P d.Raised S, SL L d.Cpus T]), (BK y 32 [SN, SN, SN, SN]), af, ag, (BK n 32 [SL I t.Routes G, SL J t.Enabled H, SL B c.2.1 D, SL x c.2.2 z]), aq, ai, aj] ∧ Sat Tryz.f76.ntmps [(1, pB u 0), (2, pB y 0), (3, pB n 0), (4, iv c.1), (5, iv m.Target), (40, .bool ec)] a) ?_ ?_)))))))))
   ·have hm := dv
    refine GR (MW 1 (wV (SL O d.Enabled Q) C (eL false 1 1 (K.blk 0 rfl)) (MW 1 (GD hm fun co ca hm => wV (elemP O (c.1.toNat * 1)) C (eI (bf.mem0 K) rfl ca) (wV (.bool co) C (eE false 1 0 (c.1.toNat * 1) (bf.mem0 K) ca) (wR 1 [(1, pB u 0), (2, pB y 0), (3, pB n 0), (4, iv c.1), (5, iv m.Target), (23, .bool co)] C ?_))))))
    rcases gx_bif hm with ⟨bi, hm⟩ | ⟨bi, hm⟩
    ·refine wK 23 true bi (MW 1 (wV (SL P d.Raised S) C (eL false 1 2 (K.blk 0 rfl)) (MW 1 (GD hm fun cp cb hm => wV (elemP P (c.1.toNat * 1)) C (eI (bg.mem0 K) rfl cb) (wV (.bool cp) C (eE false 1 0 (c.1.toNat * 1) (bg.mem0 K) cb) (wR 2 [(1, pB u 0), (2, pB y 0), (3, pB n 0), (4, iv c.1), (5, iv m.Target), (30, .bool cp)] C ?_))))))
     rcases gx_bif hm with ⟨bj, hm⟩ | ⟨bj, hm⟩
     ·refine wK 30 true bj (MW 1 (wV (SL L d.Cpus T) C (eL false 1 3 (K.blk 0 rfl)) (MW 1 (GD hm fun ax d9 hm => ?_))))
      obtain ⟨fi, cd, bp, dk⟩ := id b9
      obtain ⟨ah, a0⟩ := gxIdx_fst cd d9
      refine wV (elemP L (m.Target.toNat * 4)) C (eI (bp.mem0 K) (len_fst cd) a0) (wV (elemP L (m.Target.toNat * 4 + 1)) C (eF 1 (m.Target.toNat * 4) 1 (bp.mem0 K) a0) (wV (SL ((ah 0).1) ax.Stack ((ah 0).2)) C (eE false 1 1 (m.Target.toNat * 4 + 1) (bp.mem0 K) a0) (MW 1 (GD hm fun ed d5 hm => WD (c_s_l1Has C ax.Stack ((ah 0).1) ((ah 0).2) ((dk.mem0 K).a_ a0 0) c.1 d5) K fun ej cy => MW 2 (WN ?_)))))
      obtain rfl := HS hm
      exact NM fun a ha => ⟨cy.pk [0, 1, 2, 3, 4, 5, 6, 7], ha.s⟩
     refine wK 30 false bj (MW 10 (WN ?_))
     obtain rfl := HS hm
     exact NM fun a ha => ⟨K.pk [0, 1, 2, 3, 4, 5, 6, 7], ha.s⟩
    refine wK 23 false bi (wR 17 [(1, pB u 0), (2, pB y 0), (3, pB n 0), (4, iv c.1), (5, iv m.Target), (40, .bool false)] C (WN ?_))
    obtain rfl := HS hm
    exact NM fun a ha => ⟨K.pk [0, 1, 2, 3, 4, 5, 6, 7], ha.s⟩
   intro e7 be ⟨ay, dh⟩
   refine N_use dh ?_
   have hm := dl
   refine TN (GD hm fun a7 dw dm => G_meet (fun a w' => ∃ bb bc bd, ownS Gx.encB a7.1 B D bb ∧ ownD deepInterface a7.2 x z bc bd ∧ Mem [] w w' [(BK u 32 [SL A d.Routes F, SL O d.Enabled Q, SL P d.Raised S, SL L d.Cpus T]), (BK y 32 [SN, SN, SN, SN]), af, ag, (BK n 32 [SL I t.Routes G, SL J t.Enabled H, SL B a7.1 D, SL x a7.2 z]), bb, bc, bd] ∧ Sat Tryz.f76.ntmps [(1, pB u 0), (2, pB y 0), (3, pB n 0), (4, iv c.1)] a) ?_ ?_)
   ·have hm := dw
    refine GT hm (fun bk hm => ?_) fun bk hm => ?_
    ·refine QA (MW 1 (wV (SL B c.2.1 D) be (eL false 1 2 (ay.blk 4 rfl)) (MW 1 (GD hm fun e4 cc hm => wV (elemP B (c.1.toNat * 1)) be (eI (a5.r ay 5) rfl cc) (wE false 1 c.1.toNat 0 (c.1.toNat * 1) e4 false (.bool false) 5 ay a5 (gxIdx_spec cc).2 fun ek al dz cz => LX 42 B D c.2.1 c.1.toNat false ?_)))))
     have c0 : Mem [] w ek [(BK u 32 [.slice A d.Routes.length F, .slice O d.Enabled.length Q, .slice P d.Raised.length S, .slice L d.Cpus.length T]), (BK y 32 [.slice none 0 0, .slice none 0 0, .slice none 0 0, .slice none 0 0]), af, ag, (BK n 32 [.slice I t.Routes.length G, .slice J t.Enabled.length H, .slice B (c.2.1.set c.1.toNat false).length D, .slice x c.2.2.length z]), al, ai, aj] := by rw [@List.length_set _ c.2.1 c.1.toNat false]; exact cz
     refine NO (GD hm fun E ea hm => ?_)
     obtain ⟨fj, an, a6, a4⟩ := id bl
     obtain ⟨q, av⟩ := gxIdx_fst an ea
     refine GD hm fun ar br hm => GD hm fun l d6 hm => GU [(1, pB u 0), (2, pB y 0), (3, pB n 0), (4, iv c.1), (5, iv m.Target), (42, SL B (c.2.1.set c.1.toNat false) D), (43, iv c.1), (44, elemP B (c.1.toNat * 1))] (DL 16 [[],[0],[],[],[3],[],[4,5],[6],[],[],[9],[],[10,11],[12],[13],[7,8,14]] (EM 16) (EM 16) (EM 16) (EM 16) (EM 16) (fun _ => []) [QV (pB n 3), QV (.slice x c.2.2.length z), QV (iv m.Target), QV (pB n 3), QV (.slice x c.2.2.length z), QV (iv m.Target), QV (elemP x (m.Target.toNat * 4)), QV (.agg #[iv E.Mask, SL ((q 0).1) E.Stack ((q 0).2), SL ((q 1).1) E.Queue.Slots ((q 1).2), SL ((q 2).1) E.Queue.Waiting ((q 2).2)]), QV (iv c.1), QV (pB u 0), QV (.slice A d.Routes.length F), QV (iv c.1), QV (elemP A (c.1.toNat * 2)), QV (elemP A (c.1.toNat * 2 + 0)), QV (iv ar.Priority), fun f v s => ∃ ac Z W ad aa X ae ab Y, v = (.agg #[iv l.Mask, SL ac l.Stack Z, SL ad l.Queue.Slots aa, SL ae l.Queue.Waiting ab] : Value) ∧ s = (W ++ (X ++ Y)) ∧ ownS Gx.encI l.Stack ac Z W ∧ ownS encSlot l.Queue.Slots ad aa X ∧ ownS encWaiter l.Queue.Waiting ae ab Y] [] [1, 2, 15] [15] (c0.preNil 16) (AC ?_ (AC ?_ (AC ?_ (AC ?_ (AC ?_ (AC ?_ (AC ?_ (AC ?_ (AC ?_ (AC ?_ (AC ?_ (AC ?_ (AC ?_ (AC ?_ (AC ?_ (AC ?_ AN)))))))))))))))) ?_)
     ·intro U V R el c1
      exact OM ⟨rfl, rfl⟩ c1
     ·rintro U V v0_ ⟨rfl, _⟩ R em bu
      exact OV ⟨rfl, rfl⟩ (eL false 1 3 (bu.blk 4 rfl)) bu
     ·intro U V R en c2
      exact OM ⟨rfl, rfl⟩ c2
     ·intro U V R eo c3
      exact OM ⟨rfl, rfl⟩ c3
     ·rintro U V v3_ ⟨rfl, _⟩ R ep bv
      exact OV ⟨rfl, rfl⟩ (eL false 1 3 (bv.blk 4 rfl)) bv
     ·intro U V R er c4
      exact OM ⟨rfl, rfl⟩ c4
     ·rintro U V v4_ ⟨rfl, _⟩
      rintro v5_ ⟨rfl, _⟩ R es bw
      exact OV ⟨rfl, rfl⟩ (eI (a6.r bw 6) (len_fst an) av) bw
     ·rintro U V v6_ ⟨rfl, _⟩ R et bx
      exact OV ⟨rfl, rfl⟩ (eE true 4 0 (m.Target.toNat * 4) (a6.r bx 6) av) bx
     ·intro U V R eu c5
      exact OM ⟨rfl, rfl⟩ c5
     ·intro U V R ev c6
      exact OM ⟨rfl, rfl⟩ c6
     ·rintro U V v9_ ⟨rfl, _⟩ R ew bz
      exact OV ⟨rfl, rfl⟩ (eL false 1 0 (bz.blk 0 rfl)) bz
     ·intro U V R ex c7
      exact OM ⟨rfl, rfl⟩ c7
     ·rintro U V v10_ ⟨rfl, _⟩
      rintro v11_ ⟨rfl, _⟩ R ey b0
      exact OV ⟨rfl, rfl⟩ (eI (ak.mem0 b0) rfl br) b0
     ·rintro U V v12_ ⟨rfl, _⟩ R ez b1
      exact OV ⟨rfl, rfl⟩ (eF 0 (c.1.toNat * 2) 0 (ak.mem0 b1) br) b1
     ·rintro U V v13_ ⟨rfl, _⟩ R e0 b2
      exact OV ⟨rfl, rfl⟩ (eE false 1 0 (c.1.toNat * 2 + 0) (ak.mem0 b2) br) b2
     ·rintro U V v7_ ⟨rfl, _⟩
      rintro v8_ ⟨rfl, _⟩
      rintro v14_ ⟨rfl, _⟩ R e1 az
      refine WC ((c_s_l10Raise e1 E ((q 0).1) ((q 0).2) ((a4.r az 7).a_ av 0) ((q 1).1) ((q 1).2) ((a4.r az 7).a_ av 1) ((q 2).1) ((q 2).2) ((a4.r az 7).a_ av 2) c.1 ar.Priority d6).mono ?_)
      rintro e_ ff ⟨ac, Z, W, ad, aa, X, ae, ab, Y, rfl, bm, bn, bo, ct⟩
      refine ⟨_, rfl, ?_⟩
      exact WN (oE (.agg #[iv l.Mask, SL ac l.Stack Z, SL ad l.Queue.Slots aa, SL ae l.Queue.Waiting ab]) (W ++ (X ++ Y)) ⟨ac, Z, W, ad, aa, X, ae, ab, Y, rfl, rfl, bm, bn, bo⟩ (Mem.callMid az (ct.permF (by simp))))
     rintro U V v1_ ⟨rfl, _⟩
     rintro v2_ ⟨rfl, _⟩ v15_ hb15_
     obtain ⟨ac, Z, W, ad, aa, X, ae, ab, Y, rfl, hs15_, bm, bn, bo⟩ := hb15_
     intro bs c8
     have au : Mem [] w bs [(BK u 32 [SL A d.Routes F, SL O d.Enabled Q, SL P d.Raised S, SL L d.Cpus T]), (BK y 32 [SN, SN, SN, SN]), af, ag, (BK n 32 [SL I t.Routes G, SL J t.Enabled H, SL B (c.2.1.set c.1.toNat false) D, SL x c.2.2 z]), al, ai, aj, W, X, Y] := c8.permF (by simp [hs15_, SL])
     refine GD hm fun e5 eb hm => ?_
     obtain ⟨df, a3⟩ := gxIdx_fst an eb
     refine wV (elemP x (m.Target.toNat * 4)) bs (eI (a6.r au 6) (len_fst an) a3) ?_
     obtain ⟨ao, ee, ap, d7, fa, d3⟩ := a4.lens (gxIdx_spec a3).2
     have c9 := au.cut 7 (sa := ao) (sb := ee) (sc := ap) d7 (by kernel_rfl)
     refine wE true 4 m.Target.toNat 0 (m.Target.toNat * 4) (e5, df) (l, (plOf [(ac, Z), (ad, aa), (ae, ab)])) (.agg #[iv l.Mask, SL ac l.Stack Z, SL ad l.Queue.Slots aa, SL ae l.Queue.Waiting ab]) 6 c9 a6 (gxIdx_spec a3).2 ?_
     intro bt aw d0 da
     have db : Mem [] w bt [(BK u 32 [SL A d.Routes F, SL O d.Enabled Q, SL P d.Raised S, SL L d.Cpus T]), (BK y 32 [SN, SN, SN, SN]), af, ag, (BK n 32 [SL I t.Routes G, SL J t.Enabled H, SL B (c.2.1.set c.1.toNat false) D, SL x c.2.2 z]), al, aw, ao, W, X, Y, ap] := da.pk [0, 1, 2, 3, 4, 5, 6, 7, 8, 9, 10, 12]
     have dc : Mem [] w bt [(BK u 32 [SL A d.Routes F, SL O d.Enabled Q, SL P d.Raised S, SL L d.Cpus T]), (BK y 32 [SN, SN, SN, SN]), af, ag, (BK n 32 [SL I t.Routes G, SL J t.Enabled H, SL B (c.2.1.set c.1.toNat false) D, SL x c.2.2 z]), al, aw, (ao ++ ((W ++ (X ++ (Y ++ []))) ++ ap))] := db.regroup (by simp)
     have d1 : ownD deepInterface (c.2.2.set m.Target.toNat l) x z aw (ao ++ ((W ++ (X ++ (Y ++ []))) ++ ap)) := ⟨_, set_fst an m.Target.toNat (l, (plOf [(ac, Z), (ad, aa), (ae, ab)])), d0, (d3 (l, (plOf [(ac, Z), (ad, aa), (ae, ab)])) _ (ownI_cons (i := ⟨Int, Gx.encI, _, _, _⟩) bm (ownI_cons (i := ⟨Slot, encSlot, _, _, _⟩) bn (ownI_cons (i := ⟨Waiter, encWaiter, _, _, _⟩) bo ownI_nil))))⟩
     have fb := gxIdx_put l (gxIdx_down an a3)
     refine LX 46 x z c.2.2 m.Target.toNat l ?_
     have dd : Mem [] w bt [(BK u 32 [.slice A d.Routes.length F, .slice O d.Enabled.length Q, .slice P d.Raised.length S, .slice L d.Cpus.length T]), (BK y 32 [.slice none 0 0, .slice none 0 0, .slice none 0 0, .slice none 0 0]), af, ag, (BK n 32 [.slice I t.Routes.length G, .slice J t.Enabled.length H, .slice B (c.2.1.set c.1.toNat false).length D, .slice x (c.2.2.set m.Target.toNat l).length z]), al, aw, (ao ++ ((W ++ (X ++ (Y ++ []))) ++ ap))] := by rw [@List.length_set _ c.2.2 m.Target.toNat l]; exact dc
     refine WN ?_
     obtain rfl := HS hm
     exact NM fun a ha => ⟨al, aw, (ao ++ ((W ++ (X ++ (Y ++ []))) ++ ap)), dz, d1, dd.pk [0, 1, 2, 3, 4, 5, 6, 7], ha.s⟩
    refine GK ?_
    obtain rfl := HS hm
    exact NM fun a ha => ⟨aq, ai, aj, a5, bl, ay.pk [0, 1, 2, 3, 4, 5, 6, 7], ha.s⟩
   intro e8 e2 ⟨bb, bc, bd, dx, dy, de, di⟩
   refine N_use di ?_
   have hm := dm
   refine BN (TN (GR (MW 3 (WN ?_))))
   cases hm
   exact N_loop fun a ha => ⟨_, rfl, bb, bc, bd, dx, dy, de.pk [0, 1, 2, 3, 4, 5, 6, 7], ha.s⟩
  refine XA ?_
  obtain rfl := HS hm
  obtain rfl := d2 _ rfl
  exact NM fun a ha => ⟨aq, ai, aj, a5, bl, K.pk [1, 2, 3, 4, 5, 6, 7], ha.s⟩
 intro e9 e3 ⟨a8, a9, ba, dt, du, b3, dj⟩
 refine N_use dj ?_
 have hm := dn
 refine NF (wV (.agg #[SL I t.Routes G, SL J t.Enabled H, SL B N.1 D, SL x N.2 z]) e3 (eL true 4 0 (b3.blk 3 rfl)) (wS true 4 0 (.agg #[SL I t.Routes G, SL J t.Enabled H, SL B N.1 D, SL x N.2 z]) 0 [SL I t.Routes G, SL J t.Enabled H, SL B N.1 D, SL x N.2 z] b3 rfl fun fg b4 => NC ?_))
 obtain rfl := HS hm
 exact N_ret [.agg #[SL I t.Routes G, SL J t.Enabled H, SL B N.1 D, SL x N.2 z]] (RX true 4 0 (b4.blk 0 rfl) RVs_nil) (⟨I, G, af, J, H, ag, B, D, a8, x, z, a9, ba, rfl, dp, dq, dt, du, b4.pk [1, 2, 4, 5, 6]⟩)
theorem c_s_l10Running (w : World) (a : Interface) (h i) (o : rdS Gx.encI w a.Stack h i) (f c) (u : rdS encSlot w a.Queue.Slots f c) (g d) (v : rdS encWaiter w a.Queue.Waiting g d) {r : Int} (hm : M.s_l10Running a = some r) :
  Calls Tryz.prog 175 #[.agg #[iv a.Mask, SL h a.Stack i, SL f a.Queue.Slots c, SL g a.Queue.Waiting d]] w fun e w' => e = .returned (iv r) ∧ Mem [] w w' [] := by
 unfold M.s_l10Running at hm
 refine cE Tryz.func175 ?_
 have M0 := Mem.refl [] w
 refine QA (wN (CE 87 [iv a.Mask, SL h a.Stack i, SL f a.Queue.Slots c, SL g a.Queue.Waiting d]) M0 fun b j l => MW 1 (NB (MW 1 (wV (SL h a.Stack i) j (eL false 1 1 (l.blk 0 rfl)) (MW 2 (NA (MW 2 (NO (GT hm (fun m hm => ?_) fun m hm => ?_)))))))))
 ·refine GS (G_quiet (by kernel_rfl) (by kernel_rfl) l (MZ 1 (zV (.agg #[SL f a.Queue.Slots c, SL g a.Queue.Waiting d]) (fun w_ M_ => (eL true 2 2 (M_.blk 0 rfl))) (MZ 1 (zV (SL h a.Stack i) (fun w_ M_ => (eL false 1 1 (M_.blk 0 rfl))) (MZ 2 (GD hm fun n q hm => zV (elemP h ((w64 ((a.Stack.length : Int) - 1)).toNat * 1)) (fun w_ M_ => (eI (o.mem0 M_) rfl q)) (zV (iv n) (fun w_ M_ => (eE false 1 0 ((w64 ((a.Stack.length : Int) - 1)).toNat * 1) (o.mem0 M_) q)) (GD hm fun k x hm => ZC (iv k) (fun w_ M_ => c_s_l10Level w_ a.Queue f c (u.mem0 M_) g d (v.mem0 M_) n x) (MZ 1 (Z_end fun y t => (TN (G_ret (TR ?_))))))))))))))
  obtain rfl := HS hm
  exact RA [iv k] (⟨rfl, t.pk []⟩)
 refine KA (MW 1 (NC ?_))
 obtain rfl := HS hm
 exact RA [iv 16] (⟨rfl, l.pk []⟩)
theorem c_s_l1Least (w : World) (a : Int) (b : Int) {r : Int} (hm : M.s_l1Least a b = some r) :
  Calls Tryz.prog 174 #[iv a, iv b] w fun e w' => e = .returned (iv r) ∧ Mem [] w w' [] := by
 unfold M.s_l1Least at hm
 refine cE Tryz.func174 ?_
 have M0 := Mem.refl [] w
 refine QA (MW 1 (NB (MW 3 (NO (GT hm (fun c hm => ?_) fun c hm => ?_)))))
 ·refine QA (MW 2 (ND ?_))
  obtain rfl := HS hm
  exact RA [iv a] (⟨rfl, M0.pk []⟩)
 refine KA (MW 2 (NC ?_))
 obtain rfl := HS hm
 exact RA [iv b] (⟨rfl, M0.pk []⟩)
theorem c_s_l8Take (w : World) (d : List Slot) (c g) (y : rdS encSlot w d c g) (u : Int) {r : (List Slot) × Int} (hm : M.s_l8Take d u = some r) :
  Calls Tryz.prog 226 #[SL c d g, iv u] w fun e w' => ∃ L J N, e = .returned (.tuple #[SL L r.1 J, iv r.2]) ∧ ownS encSlot r.1 L J N ∧ Mem [] w w' [N] := by
 unfold M.s_l8Take at hm
 refine cE Tryz.func226 ?_
 have M0 := Mem.refl [] w
 refine QA (MW 2 (NA (MW 1 (GD hm fun k af hm => WD (c_s_l8Best w d c g (y.mem0 M0) true af) M0 fun t z => MW 1 (NE (GS (GD hm fun ah ae ad => G_meet (fun a w' => Mem [] w w' [] ∧ Sat Tryz.f226.ntmps [(0, SL c d g), (6, iv k), (20, .bool ah)] a) ?_ ?_)))))))
 ·have hm := ae
  refine GR (wR 3 [(0, SL c d g), (1, iv u), (6, iv k), (12, .bool (decide (k < 0)))] t ?_)
  rcases gx_bif hm with ⟨C, hm⟩ | ⟨C, hm⟩
  ·refine wK 12 true C (MW 8 (WN ?_))
   obtain rfl := HS hm
   exact NM fun a ha => ⟨z.pk [], ha.s⟩
  refine wK 12 false C (MW 2 (GD hm fun P F hm => wV (elemP c (k.toNat * 3)) t (eI (y.mem0 z) rfl F) (wV (elemP c (k.toNat * 3 + 2)) t (eF 2 (k.toNat * 3) 2 (y.mem0 z) F) (wV (iv P.Priority) t (eE false 1 2 (k.toNat * 3 + 2) (y.mem0 z) F) (MW 3 (WN ?_))))))
  obtain rfl := HS hm
  exact NM fun a ha => ⟨z.pk [], ha.s⟩
 intro ar A ⟨B, ac⟩
 refine N_use ac ?_
 have hm := ad
 refine TN (GT hm (fun D hm => ?_) fun D hm => ?_)
 ·refine QA (wR 3 [(4, SL c d g), (5, iv (-1))] A (ND ?_))
  cases hm
 refine KA (MW 2 (GD hm fun b K hm => wV (elemP c (k.toNat * 3)) A (eI (y.mem0 B) rfl K) (wV (.agg #[iv b.State, iv b.Irq, iv b.Priority]) A (eE true 3 0 (k.toNat * 3) (y.mem0 B) K) (wN (CE 117 [iv 0, iv 0, iv 0]) B fun o au T => wS true 3 0 (.agg #[iv b.State, iv b.Irq, iv b.Priority]) 0 [iv b.State, iv b.Irq, iv b.Priority] T rfl fun aj U => NA (MW 1 (wS false 1 0 (iv 2) 0 [iv 2, iv b.Irq, iv b.Priority] U rfl fun av V => NE (GD hm fun n ag hm => GU [(0, SL c d g), (6, iv k), (7, pB o 0), (26, pB o 0)] (DL 7 [[],[],[],[0,1,2],[],[4],[]] (EM 7) (EM 7) [[],[],[],[],[],[],[3]] [[],[],[],[],[],[],[3]] (EM 7) (fun _ => []) [QV (.slice c d.length g), QV (iv k), QV (.agg #[iv 2, iv b.Irq, iv b.Priority]), fun f v s => ∃ m l, v = (.slice m n.length l : Value) ∧ ownS encSlot n m l s, QV (pB o 1), QV (iv b.Irq), fun f v s => v = ((atPath (f 3) []) : Value) ∧ s = []] [] [3, 5, 6] [3] (V.preNil 7) (AC ?_ (AC ?_ (AC ?_ (AC ?_ (AC ?_ (AC ?_ (AC ?_ AN))))))) ?_))))))))
 ·intro q x R ak W
  exact OM ⟨rfl, rfl⟩ W
 ·intro q x R al X
  exact OM ⟨rfl, rfl⟩ X
 ·intro q x R am G
  exact OV ⟨rfl, rfl⟩ (eL true 3 0 (G.blk 0 rfl)) G
 ·rintro q x v0_ ⟨rfl, _⟩
  rintro v1_ ⟨rfl, _⟩
  rintro v2_ ⟨rfl, _⟩ R an H
  refine WC ((c_s_l8With an d c g (y.mem0 H) k (⟨2, b.Irq, b.Priority⟩ : Slot) ag).mono ?_)
  rintro e_ aw ⟨m, l, ai, rfl, E, S⟩
  refine ⟨_, rfl, ?_⟩
  exact WN (oE (SL m n l) ai ⟨m, l, rfl, E⟩ (Mem.callMid H S))
 ·intro q x R ao Y
  exact OM ⟨rfl, rfl⟩ Y
 ·rintro q x v4_ ⟨rfl, _⟩ R ap I
  exact OV ⟨rfl, rfl⟩ (eL false 1 1 (I.blk 0 rfl)) I
 ·intro q x v3_ hb3_
  obtain ⟨_, m, l, rfl, _⟩ := hb3_
  intro R aq Z
  exact OM ⟨rfl, rfl⟩ Z
 intro q x v3_ hb3_
 obtain ⟨m, l, rfl, E⟩ := hb3_
 rintro v5_ ⟨rfl, _⟩ v6_ hb6_
 obtain ⟨hv6_, _⟩ := hb6_
 obtain rfl : v6_ = (.slice m n.length l : Value) := hv6_.trans (by kernel_rfl)
 intro O aa
 have ab : Mem [] w O [(BK o 117 [iv 2, iv b.Irq, iv b.Priority]), (q 3)] := aa
 refine MW 1 (NC ?_)
 cases hm
 exact RA [SL m n l, iv b.Irq] (⟨m, l, (q 3), rfl, E, ab.pk [1]⟩)
theorem c_s_l8Take__k (w : World) (d : List Slot) (b g) (y : rdS encSlot w d b g) (u : Int) {r : (List Slot) × Int} (hm : M.s_l8Take__k d u = some r) :
  Calls Tryz.prog 226 #[SL b d g, iv u] w fun e w' => e = .returned (.tuple #[SL b d g, iv r.2]) ∧ Mem [] w w' [] := by
 unfold M.s_l8Take__k at hm
 refine cE Tryz.func226 ?_
 have M0 := Mem.refl [] w
 refine QA (MW 2 (NA (MW 1 (GD hm fun k ab hm => WD (c_s_l8Best w d b g (y.mem0 M0) true ab) M0 fun t z => MW 1 (NE (GS (GD hm fun ad aa Z => G_meet (fun a w' => Mem [] w w' [] ∧ Sat Tryz.f226.ntmps [(0, SL b d g), (6, iv k), (20, .bool ad)] a) ?_ ?_)))))))
 ·have hm := aa
  refine GR (wR 3 [(0, SL b d g), (1, iv u), (6, iv k), (12, .bool (decide (k < 0)))] t ?_)
  rcases gx_bif hm with ⟨C, hm⟩ | ⟨C, hm⟩
  ·refine wK 12 true C (MW 8 (WN ?_))
   obtain rfl := HS hm
   exact NM fun a ha => ⟨z.pk [], ha.s⟩
  refine wK 12 false C (MW 2 (GD hm fun L E hm => wV (elemP b (k.toNat * 3)) t (eI (y.mem0 z) rfl E) (wV (elemP b (k.toNat * 3 + 2)) t (eF 2 (k.toNat * 3) 2 (y.mem0 z) E) (wV (iv L.Priority) t (eE false 1 2 (k.toNat * 3 + 2) (y.mem0 z) E) (MW 3 (WN ?_))))))
  obtain rfl := HS hm
  exact NM fun a ha => ⟨z.pk [], ha.s⟩
 intro ao B ⟨A, Y⟩
 refine N_use Y ?_
 have hm := Z
 refine TN (GT hm (fun D hm => ?_) fun D hm => ?_)
 ·refine QA (wR 3 [(4, SL b d g), (5, iv (-1))] B (ND ?_))
  cases hm
  exact RA [SL b d g, iv (-1)] (⟨rfl, A.pk []⟩)
 refine KA (MW 2 (GD hm fun c J hm => wV (elemP b (k.toNat * 3)) B (eI (y.mem0 A) rfl J) (wV (.agg #[iv c.State, iv c.Irq, iv c.Priority]) B (eE true 3 0 (k.toNat * 3) (y.mem0 A) J) (wN (CE 117 [iv 0, iv 0, iv 0]) A fun n ap P => wS true 3 0 (.agg #[iv c.State, iv c.Irq, iv c.Priority]) 0 [iv c.State, iv c.Irq, iv c.Priority] P rfl fun af Q => NA (MW 1 (wS false 1 0 (iv 2) 0 [iv 2, iv c.Irq, iv c.Priority] Q rfl fun aq S => NE (GD hm fun o ac hm => GU [(0, SL b d g), (6, iv k), (7, pB n 0), (26, pB n 0)] (DL 7 [[],[],[],[0,1,2],[],[4],[]] (EM 7) (EM 7) [[],[],[],[],[],[],[3]] [[],[],[],[],[],[],[3]] (EM 7) (fun _ => []) [QV (.slice b d.length g), QV (iv k), QV (.agg #[iv 2, iv c.Irq, iv c.Priority]), fun f v s => ∃ m l, v = (.slice m o.length l : Value) ∧ ownS encSlot o m l s, QV (pB n 1), QV (iv c.Irq), fun f v s => v = ((atPath (f 3) []) : Value) ∧ s = []] [] [3, 5, 6] [3] (S.preNil 7) (AC ?_ (AC ?_ (AC ?_ (AC ?_ (AC ?_ (AC ?_ (AC ?_ AN))))))) ?_))))))))
 ·intro q x R ag T
  exact OM ⟨rfl, rfl⟩ T
 ·intro q x R ah U
  exact OM ⟨rfl, rfl⟩ U
 ·intro q x R ai F
  exact OV ⟨rfl, rfl⟩ (eL true 3 0 (F.blk 0 rfl)) F
 ·rintro q x v0_ ⟨rfl, _⟩
  rintro v1_ ⟨rfl, _⟩
  rintro v2_ ⟨rfl, _⟩ R aj G
  refine WC ((c_s_l8With aj d b g (y.mem0 G) k (⟨2, c.Irq, c.Priority⟩ : Slot) ac).mono ?_)
  rintro e_ ar ⟨m, l, ae, rfl, I, O⟩
  refine ⟨_, rfl, ?_⟩
  exact WN (oE (SL m o l) ae ⟨m, l, rfl, I⟩ (Mem.callMid G O))
 ·intro q x R ak V
  exact OM ⟨rfl, rfl⟩ V
 ·rintro q x v4_ ⟨rfl, _⟩ R al H
  exact OV ⟨rfl, rfl⟩ (eL false 1 1 (H.blk 0 rfl)) H
 ·intro q x v3_ hb3_
  obtain ⟨_, m, l, rfl, _⟩ := hb3_
  intro R am W
  exact OM ⟨rfl, rfl⟩ W
 intro q x v3_ hb3_
 obtain ⟨m, l, rfl, I⟩ := hb3_
 rintro v5_ ⟨rfl, _⟩ v6_ hb6_
 obtain ⟨hv6_, _⟩ := hb6_
 obtain rfl : v6_ = (.slice m o.length l : Value) := hv6_.trans (by kernel_rfl)
 intro K X
 have an : Mem [] w K [(BK n 117 [iv 2, iv c.Irq, iv c.Priority]), (q 3)] := X
 refine MW 1 (NC ?_)
 cases hm
theorem c_s_l9Take (w : World) (a : Queue) (A z) (af : rdS encSlot w a.Slots A z) (J G) (ay : rdS encWaiter w a.Waiting J G) (X : Int) {r : Queue × Int} (hm : M.s_l9Take a X = some r) :
  Calls Tryz.prog 173 #[.agg #[SL A a.Slots z, SL J a.Waiting G], iv X] w fun e w' => ∃ az aw a3 a0 ax a4, e = .returned (.tuple #[.agg #[SL az r.1.Slots aw, SL a0 r.1.Waiting ax], iv r.2]) ∧ ownS encSlot r.1.Slots az aw a3 ∧ ownS encWaiter r.1.Waiting a0 ax a4 ∧ Mem [] w w' [a3, a4] := by
 unfold M.s_l9Take at hm
 refine cE Tryz.func173 ?_
 have M0 := Mem.refl [] w
 refine QA (wN (CE 85 [SL A a.Slots z, SL J a.Waiting G]) M0 fun y cy bc => wN (CE 85 [SN, SN]) bc fun c ab ac => MW 1 (NA (MW 1 (wV (SL A a.Slots z) ab (eL false 1 0 (ac.blk 0 rfl)) (wR 1 [(2, pB y 0), (4, pB c 0), (10, SL A a.Slots z), (11, iv X)] ab ?_)))))
 rcases gx_alt hm with ⟨Y, cd, hm⟩ | hm
 ·refine WD (c_s_l8Take__k ab a.Slots A z (af.mem0 ac) X cd) ac fun a6 bd => MW 5 (NE (GD hm fun B b8 hm => GD hm fun C b9 hm => ?_))
  have be : Mem [] w a6 ([(BK y 85 [SL A a.Slots z, SL J a.Waiting G])] ++ (List.range 10).map (fun i => ([[], [], [], [], [], [], [], [], [], (BK c 85 [SN, SN])] : List Seg).getD i [])) := bd.pk [0, 300000, 300001, 300002, 300003, 300004, 300005, 300006, 300007, 300008, 1]
  refine GU [(2, pB y 0), (4, pB c 0), (6, SL A a.Slots z), (7, iv Y.2)] (DL 10 [[],[],[0,1],[],[],[4],[3,5],[],[],[7]] [[],[],[0],[],[],[],[3],[],[],[]] (EM 10) [[],[],[],[],[],[],[],[2,6],[],[2,6]] [[],[],[],[],[],[],[],[2,6],[],[2,6]] (EM 10) (fun i => ([[], [], [], [], [], [], [], [], [], (BK c 85 [SN, SN])] : List Seg).getD i []) [fun f v s => ∃ T O, v = (.slice T ([] : List Slot).length O : Value) ∧ ownS encSlot ([] : List Slot) T O s, QV (.slice A a.Slots.length z), fun f v s => ∃ q d, v = (.slice q B.length d : Value) ∧ ownS encSlot B q d s, fun f v s => ∃ U P, v = (.slice U ([] : List Waiter).length P : Value) ∧ ownS encWaiter ([] : List Waiter) U P s, QV (pB y 1), QV (.slice J a.Waiting.length G), fun f v s => ∃ t l, v = (.slice t C.length l : Value) ∧ ownS encWaiter C t l s, fun f v s => v = (.agg #[(atPath (f 2) []), (atPath (f 6) [])] : Value) ∧ s = [], QV (iv Y.2), fun f v s => v = undef ∧ s = (BK c 85 [(atPath (f 2) []), (atPath (f 6) [])])] [] [2, 6, 8, 9] [2, 6, 9] be (AC ?_ (AC ?_ (AC ?_ (AC ?_ (AC ?_ (AC ?_ (AC ?_ (AC ?_ (AC ?_ (AC ?_ AN)))))))))) ?_)
  ·intro H L R cz bf
   exact wL (E := encSlot) ([] : List Slot) 0 [] 117 bf fun T O cf c0 ag bg => WN (oE (SL T ([] : List Slot) O) cf ⟨T, O, rfl, ag⟩ (Mem.mid bg))
  ·intro H L R cn bh
   exact OM ⟨rfl, rfl⟩ bh
  ·intro H L v0_ hb0_
   obtain ⟨T, O, rfl, ag⟩ := hb0_
   rintro v1_ ⟨rfl, _⟩ R c1 ao
   exact wA 24 [iv 0, iv 0, iv 0] 2 ao ag (af.mem0 ao) b8 fun q d cg c2 ah bi => WN (oE (SL q B d) cg ⟨q, d, rfl, ah⟩ (Mem.takeOver bi))
  ·intro H L R c3 bj
   exact wL (E := encWaiter) ([] : List Waiter) 0 [] 142 bj fun U P ch c4 ai bk => WN (oE (SL U ([] : List Waiter) P) ch ⟨U, P, rfl, ai⟩ (Mem.mid bk))
  ·intro H L R co bl
   exact OM ⟨rfl, rfl⟩ bl
  ·rintro H L v4_ ⟨rfl, _⟩ R cp ap
   exact OV ⟨rfl, rfl⟩ (eL false 1 1 (ap.blk 0 rfl)) ap
  ·intro H L v3_ hb3_
   obtain ⟨U, P, rfl, ai⟩ := hb3_
   rintro v5_ ⟨rfl, _⟩ R c5 aq
   exact wA 16 [iv 0, iv 0] 2 aq ai (ay.mem0 aq) b9 fun t l ci c6 aj bm => WN (oE (SL t C l) ci ⟨t, l, rfl, aj⟩ (Mem.takeOver bm))
  ·intro H L v2_ hb2_
   obtain ⟨_, q, d, rfl, _⟩ := hb2_
   intro v6_ hb6_
   obtain ⟨_, t, l, rfl, _⟩ := hb6_
   intro R cq bn
   exact OM ⟨rfl, rfl⟩ bn
  ·intro H L R cr bo
   exact OM ⟨rfl, rfl⟩ bo
  ·intro H L v2_ hb2_
   obtain ⟨_, q, d, rfl, _⟩ := hb2_
   intro v6_ hb6_
   obtain ⟨_, t, l, rfl, _⟩ := hb6_
   intro v7_ hb7_
   obtain ⟨hv7_, _⟩ := hb7_
   obtain rfl : v7_ = (.agg #[SL q B d, SL t C l] : Value) := hv7_.trans (by kernel_rfl)
   intro R c7 bp
   exact wS true 2 0 (.agg #[SL q B d, SL t C l]) 1 [SL q B d, SL t C l] bp rfl fun c8 bq => WN (ob_none (BK c 85 [SL q B d, SL t C l]) rfl ⟨rfl, by kernel_rfl⟩ bq)
  intro H L v2_ hb2_
  obtain ⟨q, d, rfl, ah⟩ := hb2_
  intro v6_ hb6_
  obtain ⟨t, l, rfl, aj⟩ := hb6_
  rintro v8_ ⟨rfl, _⟩ v9_ hb9_
  obtain ⟨rfl, hs9_⟩ := hb9_
  replace hs9_ := hs9_.trans (show _ = (BK c 85 [SL q B d, SL t C l]) by kernel_rfl)
  intro a7 br
  have ad : Mem [] w a7 [(BK y 85 [SL A a.Slots z, SL J a.Waiting G]), (H 2), (H 6), (H 9)] := br
  rw [hs9_] at ad
  refine MW 1 (NC ?_)
  obtain rfl := HS hm
  exact N_ret [.agg #[SL q B d, SL t C l], iv Y.2] (RX true 2 0 (ad.blk 3 rfl) (rC RVs_nil)) (⟨q, d, (H 2), t, l, (H 6), rfl, ah, aj, ad.pk [1, 2]⟩)
 refine GD hm fun K ce hm => WC ((c_s_l8Take ab a.Slots A z (af.mem0 ac) X ce).mono ?_)
 rintro e_ a8 ⟨aa, Z, a5, rfl, cc, bb⟩
 have bs := ac.call bb
 refine ⟨_, rfl, ?_⟩
 refine MW 5 (NE (GD hm fun D ca hm => GD hm fun F cb hm => ?_))
 have bt : Mem [] w a8 ([(BK y 85 [SL A a.Slots z, SL J a.Waiting G]), a5] ++ (List.range 10).map (fun i => ([[], [], [], [], [], [], [], [], [], (BK c 85 [SN, SN])] : List Seg).getD i [])) := bs.pk [0, 2, 300000, 300001, 300002, 300003, 300004, 300005, 300006, 300007, 300008, 1]
 refine GU [(2, pB y 0), (4, pB c 0), (6, SL aa K.1 Z), (7, iv K.2)] (DL 10 [[],[],[0,1],[],[],[4],[3,5],[],[],[7]] [[],[],[0],[],[],[],[3],[],[],[]] (EM 10) [[],[],[],[],[],[],[],[2,6],[],[2,6]] [[],[],[],[],[],[],[],[2,6],[],[2,6]] (EM 10) (fun i => ([[], [], [], [], [], [], [], [], [], (BK c 85 [SN, SN])] : List Seg).getD i []) [fun f v s => ∃ V Q, v = (.slice V ([] : List Slot).length Q : Value) ∧ ownS encSlot ([] : List Slot) V Q s, QV (.slice aa K.1.length Z), fun f v s => ∃ u m, v = (.slice u D.length m : Value) ∧ ownS encSlot D u m s, fun f v s => ∃ W S, v = (.slice W ([] : List Waiter).length S : Value) ∧ ownS encWaiter ([] : List Waiter) W S s, QV (pB y 1), QV (.slice J a.Waiting.length G), fun f v s => ∃ x n, v = (.slice x F.length n : Value) ∧ ownS encWaiter F x n s, fun f v s => v = (.agg #[(atPath (f 2) []), (atPath (f 6) [])] : Value) ∧ s = [], QV (iv K.2), fun f v s => v = undef ∧ s = (BK c 85 [(atPath (f 2) []), (atPath (f 6) [])])] [] [2, 6, 8, 9] [2, 6, 9] bt (AC ?_ (AC ?_ (AC ?_ (AC ?_ (AC ?_ (AC ?_ (AC ?_ (AC ?_ (AC ?_ (AC ?_ AN)))))))))) ?_)
 ·intro I N R c9 bu
  exact wL (E := encSlot) ([] : List Slot) 0 [] 117 bu fun V Q cj da ak bv => WN (oE (SL V ([] : List Slot) Q) cj ⟨V, Q, rfl, ak⟩ (Mem.mid bv))
 ·intro I N R ct bw
  exact OM ⟨rfl, rfl⟩ bw
 ·intro I N v0_ hb0_
  obtain ⟨V, Q, rfl, ak⟩ := hb0_
  rintro v1_ ⟨rfl, _⟩ R db ar
  exact wA 24 [iv 0, iv 0, iv 0] 3 ar ak (cc.r ar 1) ca fun u m ck dc al bx => WN (oE (SL u D m) ck ⟨u, m, rfl, al⟩ (Mem.takeOver bx))
 ·intro I N R dd bz
  exact wL (E := encWaiter) ([] : List Waiter) 0 [] 142 bz fun W S cl de am b0 => WN (oE (SL W ([] : List Waiter) S) cl ⟨W, S, rfl, am⟩ (Mem.mid b0))
 ·intro I N R cu b1
  exact OM ⟨rfl, rfl⟩ b1
 ·rintro I N v4_ ⟨rfl, _⟩ R cv au
  exact OV ⟨rfl, rfl⟩ (eL false 1 1 (au.blk 0 rfl)) au
 ·intro I N v3_ hb3_
  obtain ⟨W, S, rfl, am⟩ := hb3_
  rintro v5_ ⟨rfl, _⟩ R df av
  exact wA 16 [iv 0, iv 0] 3 av am (ay.mem0 av) cb fun x n cm dg an b2 => WN (oE (SL x F n) cm ⟨x, n, rfl, an⟩ (Mem.takeOver b2))
 ·intro I N v2_ hb2_
  obtain ⟨_, u, m, rfl, _⟩ := hb2_
  intro v6_ hb6_
  obtain ⟨_, x, n, rfl, _⟩ := hb6_
  intro R cw b3
  exact OM ⟨rfl, rfl⟩ b3
 ·intro I N R cx b4
  exact OM ⟨rfl, rfl⟩ b4
 ·intro I N v2_ hb2_
  obtain ⟨_, u, m, rfl, _⟩ := hb2_
  intro v6_ hb6_
  obtain ⟨_, x, n, rfl, _⟩ := hb6_
  intro v7_ hb7_
  obtain ⟨hv7_, _⟩ := hb7_
  obtain rfl : v7_ = (.agg #[SL u D m, SL x F n] : Value) := hv7_.trans (by kernel_rfl)
  intro R dh b5
  exact wS true 2 0 (.agg #[SL u D m, SL x F n]) 2 [SL u D m, SL x F n] b5 rfl fun di b6 => WN (ob_none (BK c 85 [SL u D m, SL x F n]) rfl ⟨rfl, by kernel_rfl⟩ b6)
 intro I N v2_ hb2_
 obtain ⟨u, m, rfl, al⟩ := hb2_
 intro v6_ hb6_
 obtain ⟨x, n, rfl, an⟩ := hb6_
 rintro v8_ ⟨rfl, _⟩ v9_ hb9_
 obtain ⟨rfl, hs9_⟩ := hb9_
 replace hs9_ := hs9_.trans (show _ = (BK c 85 [SL u D m, SL x F n]) by kernel_rfl)
 intro a9 b7
 have ae : Mem [] w a9 [(BK y 85 [SL A a.Slots z, SL J a.Waiting G]), a5, (I 2), (I 6), (I 9)] := b7
 rw [hs9_] at ae
 refine MW 1 (NC ?_)
 obtain rfl := HS hm
 exact N_ret [.agg #[SL u D m, SL x F n], iv K.2] (RX true 2 0 (ae.blk 4 rfl) (rC RVs_nil)) (⟨u, m, (I 2), x, n, (I 6), rfl, al, an, ae.pk [2, 3]⟩)
theorem c_s_l10Take (w : World) (d : Interface) (z u) (a3 : rdS Gx.encI w d.Stack z u) (A x) (a4 : rdS encSlot w d.Queue.Slots A x) (B y) (a5 : rdS encWaiter w d.Queue.Waiting B y) {r : Interface × Int} (hm : M.s_l10Take d = some r) :
  Calls Tryz.prog 133 #[.agg #[iv d.Mask, SL z d.Stack u, SL A d.Queue.Slots x, SL B d.Queue.Waiting y]] w fun e w' => ∃ a6 ay a9 a7 az ba a8 a0 bb, e = .returned (.tuple #[.agg #[iv r.1.Mask, SL a6 r.1.Stack ay, SL a7 r.1.Queue.Slots az, SL a8 r.1.Queue.Waiting a0], iv r.2]) ∧ ownS Gx.encI r.1.Stack a6 ay a9 ∧ ownS encSlot r.1.Queue.Slots a7 az ba ∧ ownS encWaiter r.1.Queue.Waiting a8 a0 bb ∧ Mem [] w w' [a9, ba, bb] := by
 unfold M.s_l10Take at hm
 refine cE Tryz.func133 ?_
 have M0 := Mem.refl [] w
 refine QA (wN (CE 87 [iv d.Mask, SL z d.Stack u, SL A d.Queue.Slots x, SL B d.Queue.Waiting y]) M0 fun t c8 bi => wN (CE 87 [iv 0, SN, SN, SN]) bi fun C ch bj => MW 1 (NE (GD hm fun V cb hm => GD hm fun W cc hm => GD hm fun c cd hm => GU [(1, pB t 0), (2, pB C 0)] (DL 13 [[],[0],[],[2],[],[4],[3,5],[1,6],[],[8],[8],[],[9,11]] [[],[],[],[],[],[],[],[],[],[],[],[],[11]] (EM 13) [[],[],[],[],[],[],[],[],[7],[7],[7],[],[7]] [[],[],[],[],[],[],[],[],[7],[7],[],[],[7,11]] (EM 13) (fun _ => []) [QV (pB t 2), QV (.agg #[SL A d.Queue.Slots x, SL B d.Queue.Waiting y]), QV (pB t 0), QV (iv d.Mask), QV (.agg #[iv d.Mask, SL z d.Stack u, SL A d.Queue.Slots x, SL B d.Queue.Waiting y]), QV (iv V), QV (iv W), fun f v s => ∃ n l K q m L, v = (.tuple #[.agg #[SL n c.1.Slots l, SL q c.1.Waiting m], iv c.2] : Value) ∧ s = (K ++ L) ∧ ownS encSlot c.1.Slots n l K ∧ ownS encWaiter c.1.Waiting q m L, fun f v s => v = (.tuple #[.agg #[(atPath (f 7) [0, 0]), (atPath (f 7) [0, 1])], iv c.2] : Value) ∧ s = [], fun f v s => v = (.agg #[(atPath (f 7) [0, 0]), (atPath (f 7) [0, 1])] : Value) ∧ s = [], QV (iv c.2), fun f v s => ∃ D, v = (pB D 0 : Value) ∧ s = (BK D 85 [SN, SN]), fun f v s => v = undef ∧ s = [((blkOf (f 11)), .cells ⟨[(atPath (f 7) [0, 0]), (atPath (f 7) [0, 1])]⟩ 85 (0, 0))]] [11] [7, 10, 12] [7, 12] (bj.preNil 13) (AC ?_ (AC ?_ (AC ?_ (AC ?_ (AC ?_ (AC ?_ (AC ?_ (AC ?_ (AC ?_ (AC ?_ (AC ?_ (AC ?_ (AC ?_ AN))))))))))))) ?_))))
 ·intro I J R ci bk
  exact OM ⟨rfl, rfl⟩ bk
 ·rintro I J v0_ ⟨rfl, _⟩ R cj al
  exact OV ⟨rfl, rfl⟩ (eL true 2 2 (al.blk 0 rfl)) al
 ·intro I J R ck bl
  exact OM ⟨rfl, rfl⟩ bl
 ·rintro I J v2_ ⟨rfl, _⟩ R cl am
  exact OV ⟨rfl, rfl⟩ (eL false 1 0 (am.blk 0 rfl)) am
 ·intro I J R cm an
  exact OV ⟨rfl, rfl⟩ (eL true 4 0 (an.blk 0 rfl)) an
 ·rintro I J v4_ ⟨rfl, _⟩ R cn X
  refine WC ((c_s_l10Running cn d z u (a3.mem0 X) A x (a4.mem0 X) B y (a5.mem0 X) cb).mono ?_)
  rintro e_ c9 ⟨rfl, be⟩
  refine ⟨_, rfl, ?_⟩
  exact WN (oE (iv V) [] ⟨rfl, rfl⟩ (X.call0 be))
 ·rintro I J v3_ ⟨rfl, _⟩
  rintro v5_ ⟨rfl, _⟩ R co bm
  refine WC ((c_s_l1Least co d.Mask V cc).mono ?_)
  rintro e_ da ⟨rfl, bf⟩
  refine ⟨_, rfl, ?_⟩
  exact WN (oE (iv W) [] ⟨rfl, rfl⟩ (bm.call0 bf))
 ·rintro I J v1_ ⟨rfl, _⟩
  rintro v6_ ⟨rfl, _⟩ R cp ae
  refine WC ((c_s_l9Take cp d.Queue A x (a4.mem0 ae) B y (a5.mem0 ae) W cd).mono ?_)
  rintro e_ db ⟨n, l, K, q, m, L, rfl, ai, aj, bg⟩
  refine ⟨_, rfl, ?_⟩
  exact WN (oE (.tuple #[.agg #[SL n c.1.Slots l, SL q c.1.Waiting m], iv c.2]) (K ++ L) ⟨n, l, K, q, m, L, rfl, rfl, ai, aj⟩ (Mem.callMid ae (bg.permF (by simp))))
 ·intro I J v7_ hb7_
  obtain ⟨_, n, l, _, q, m, _, rfl, _⟩ := hb7_
  intro R cq bn
  exact OM ⟨rfl, rfl⟩ bn
 ·intro I J v7_ hb7_
  obtain ⟨_, n, l, _, q, m, _, rfl, _⟩ := hb7_
  intro v8_ hb8_
  obtain ⟨hv8_, _⟩ := hb8_
  obtain rfl : v8_ = (.tuple #[.agg #[SL n c.1.Slots l, SL q c.1.Waiting m], iv c.2] : Value) := hv8_.trans (by kernel_rfl)
  intro R cr bo
  exact OM ⟨rfl, rfl⟩ bo
 ·intro I J v7_ hb7_
  obtain ⟨_, n, l, _, q, m, _, rfl, _⟩ := hb7_
  intro v8_ hb8_
  obtain ⟨hv8_, _⟩ := hb8_
  obtain rfl : v8_ = (.tuple #[.agg #[SL n c.1.Slots l, SL q c.1.Waiting m], iv c.2] : Value) := hv8_.trans (by kernel_rfl)
  intro R ct bp
  exact OM ⟨rfl, rfl⟩ bp
 ·intro I J R dc bq
  exact wN (CE 85 [SN, SN]) bq fun D dd br => WN (oE (pB D 0) (BK D 85 [SN, SN]) ⟨D, rfl, rfl⟩ (Mem.mid br))
 ·intro I J v7_ hb7_
  obtain ⟨_, n, l, _, q, m, _, rfl, _⟩ := hb7_
  intro v9_ hb9_
  obtain ⟨hv9_, _⟩ := hb9_
  obtain rfl : v9_ = (.agg #[SL n c.1.Slots l, SL q c.1.Waiting m] : Value) := hv9_.trans (by kernel_rfl)
  intro v11_ hb11_
  obtain ⟨D, rfl, hs11_⟩ := hb11_
  intro R bc bs
  have Y : Mem [] w bc ([(BK t 87 [iv d.Mask, SL z d.Stack u, SL A d.Queue.Slots x, SL B d.Queue.Waiting y]), (BK C 87 [iv 0, SN, SN, SN])] ++ ([[]] ++ ([(I 11)] ++ ([] ++ R)))) := bs
  rw [hs11_] at Y
  replace Y : Mem [] w bc ([(BK t 87 [iv d.Mask, SL z d.Stack u, SL A d.Queue.Slots x, SL B d.Queue.Waiting y]), (BK C 87 [iv 0, SN, SN, SN])] ++ ([[]] ++ ([(BK D 85 [SN, SN])] ++ ([] ++ R)))) := Y.permF (by simp)
  exact wS true 2 0 (.agg #[SL n c.1.Slots l, SL q c.1.Waiting m]) 3 [SL n c.1.Slots l, SL q c.1.Waiting m] Y rfl fun de bt => WN (ob_none (BK D 85 [SL n c.1.Slots l, SL q c.1.Waiting m]) rfl ⟨rfl, by kernel_rfl⟩ (Mem.takeOver bt))
 intro I J v11_ hb11_
 obtain ⟨_, D, rfl, hs11_⟩ := hb11_
 intro v7_ hb7_
 obtain ⟨n, l, K, q, m, L, rfl, hs7_, ai, aj⟩ := hb7_
 rintro v10_ ⟨rfl, _⟩ v12_ hb12_
 obtain ⟨rfl, hs12_⟩ := hb12_
 replace hs12_ := hs12_.trans (show _ = (BK D 85 [SL n c.1.Slots l, SL q c.1.Waiting m]) by kernel_rfl)
 intro ak bu
 have U : Mem [] w ak [(BK t 87 [iv d.Mask, SL z d.Stack u, SL A d.Queue.Slots x, SL B d.Queue.Waiting y]), (BK C 87 [iv 0, SN, SN, SN]), K, L, (BK D 85 [SL n c.1.Slots l, SL q c.1.Waiting m])] := bu.permF (by simp [hs7_, hs12_, SL])
 refine MW 1 (NE (GD hm fun P ce hm => GU [(1, pB t 0), (2, pB C 0), (4, pB D 0), (5, iv c.2)] (DL 8 [[],[0],[],[2],[3],[],[1,5],[]] (EM 8) (EM 8) [[],[],[],[],[],[],[4],[]] [[],[],[],[],[],[],[4],[]] (EM 8) (fun _ => []) [QV (pB t 0), QV (iv d.Mask), QV (pB t 1), QV (.slice z d.Stack.length u), fun f v s => ∃ H G, v = (.slice H P.length G : Value) ∧ ownS Gx.encI P H G s, QV (.agg #[SL n c.1.Slots l, SL q c.1.Waiting m]), fun f v s => v = (.agg #[iv d.Mask, (atPath (f 4) []), SL n c.1.Slots l, SL q c.1.Waiting m] : Value) ∧ s = [], fun f v s => ∃ F, v = (pB F 0 : Value) ∧ s = (BK F 87 [iv 0, SN, SN, SN])] [] [4, 6, 7] [4, 7] (U.preNil 8) (AC ?_ (AC ?_ (AC ?_ (AC ?_ (AC ?_ (AC ?_ (AC ?_ (AC ?_ AN)))))))) ?_)))
 ·intro Q T R cu bv
  exact OM ⟨rfl, rfl⟩ bv
 ·rintro Q T v0_ ⟨rfl, _⟩ R cv ao
  exact OV ⟨rfl, rfl⟩ (eL false 1 0 (ao.blk 0 rfl)) ao
 ·intro Q T R cw bw
  exact OM ⟨rfl, rfl⟩ bw
 ·rintro Q T v2_ ⟨rfl, _⟩ R cx ap
  exact OV ⟨rfl, rfl⟩ (eL false 1 1 (ap.blk 0 rfl)) ap
 ·rintro Q T v3_ ⟨rfl, _⟩ R cy aq
  refine WC ((c_s_l1Own cy d.Stack z u (a3.mem0 aq) ce).mono ?_)
  rintro e_ df ⟨H, G, cf, rfl, aa, bh⟩
  refine ⟨_, rfl, ?_⟩
  exact WN (oE (SL H P G) cf ⟨H, G, rfl, aa⟩ (Mem.callMid aq bh))
 ·intro Q T R cz ar
  exact OV ⟨rfl, rfl⟩ (eL true 2 0 (ar.blk 4 rfl)) ar
 ·intro Q T v4_ hb4_
  obtain ⟨_, H, G, rfl, _⟩ := hb4_
  rintro v1_ ⟨rfl, _⟩
  rintro v5_ ⟨rfl, _⟩ R c0 bx
  exact OM ⟨rfl, rfl⟩ bx
 ·intro Q T R dg bz
  exact wN (CE 87 [iv 0, SN, SN, SN]) bz fun F dh b0 => WN (oE (pB F 0) (BK F 87 [iv 0, SN, SN, SN]) ⟨F, rfl, rfl⟩ (Mem.mid b0))
 intro Q T v4_ hb4_
 obtain ⟨H, G, rfl, aa⟩ := hb4_
 intro v6_ hb6_
 obtain ⟨hv6_, _⟩ := hb6_
 obtain rfl : v6_ = (.agg #[iv d.Mask, SL H P G, SL n c.1.Slots l, SL q c.1.Waiting m] : Value) := hv6_.trans (by kernel_rfl)
 intro v7_ hb7_
 obtain ⟨F, rfl, hs7_⟩ := hb7_
 intro c1 b1
 have au : Mem [] w c1 [(BK t 87 [iv d.Mask, SL z d.Stack u, SL A d.Queue.Slots x, SL B d.Queue.Waiting y]), (BK C 87 [iv 0, SN, SN, SN]), K, L, (BK D 85 [SL n c.1.Slots l, SL q c.1.Waiting m]), (Q 4), (Q 7)] := b1
 rw [hs7_] at au
 refine wS true 4 0 (.agg #[iv d.Mask, SL H P G, SL n c.1.Slots l, SL q c.1.Waiting m]) 6 [iv d.Mask, SL H P G, SL n c.1.Slots l, SL q c.1.Waiting m] au rfl fun ad af => NB (MW 2 (NO (GD hm fun S b7 b6 => G_meet (fun a w' => ∃ O N ac, ownS Gx.encI S O N ac ∧ Mem [] w w' [(BK C 87 [iv 0, SN, SN, SN]), K, L, (BK F 87 [iv d.Mask, SL O S N, SL n c.1.Slots l, SL q c.1.Waiting m]), ac] ∧ Sat Tryz.f133.ntmps [(2, pB C 0), (5, iv c.2), (6, pB F 0)] a) ?_ ?_)))
 ·have hm := b7
  refine GT hm (fun ah hm => ?_) fun ah hm => ?_
  ·refine GR (MW 1 (wV (SL H P G) ad (eL false 1 1 (af.blk 6 rfl)) (MW 1 (wL (E := Gx.encI) [c.2] 1 [iv c.2] 3 af fun c6 c5 c7 di b9 av => GD hm fun ag b5 hm => wA 8 [iv 0] 5 av aa (b9.r av 7) b5 fun ab Z cg c2 ca b2 => MW 1 (wS false 1 1 (SL ab ag Z) 6 [iv d.Mask, SL ab ag Z, SL n c.1.Slots l, SL q c.1.Waiting m] b2 rfl fun dj b3 => WN ?_)))))
   obtain rfl := HS hm
   exact NM fun a ha => ⟨ab, Z, cg, ca, b3.pk [1, 2, 3, 6, 5], ha.s⟩
  refine GK ?_
  obtain rfl := HS hm
  exact NM fun a ha => ⟨H, G, (Q 4), aa, af.pk [1, 2, 3, 6, 5], ha.s⟩
 intro c4 bd ⟨O, N, ac, b8, aw, b4⟩
 refine N_use b4 ?_
 have hm := b6
 refine NF (wV (.agg #[iv d.Mask, SL O S N, SL n c.1.Slots l, SL q c.1.Waiting m]) bd (eL true 4 0 (aw.blk 3 rfl)) (MW 1 (wS true 4 0 (.agg #[iv d.Mask, SL O S N, SL n c.1.Slots l, SL q c.1.Waiting m]) 0 [iv d.Mask, SL O S N, SL n c.1.Slots l, SL q c.1.Waiting m] aw rfl fun c3 ax => MW 1 (NC ?_))))
 obtain rfl := HS hm
 exact N_ret [.agg #[iv d.Mask, SL O S N, SL n c.1.Slots l, SL q c.1.Waiting m], iv c.2] (RX true 4 0 (ax.blk 0 rfl) (rC RVs_nil)) (⟨O, N, ac, n, l, K, q, m, L, rfl, b8, ai, aj, ax.pk [4, 1, 2]⟩)
theorem c_s_l8End (w : World) (d : List Slot) (b f) (h : rdS encSlot w d b f) (l : Int) {r : (List Slot) × Bool} (hm : M.s_l8End d l = some r) :
  Calls Tryz.prog 227 #[SL b d f, iv l] w fun e w' => ∃ I G L, e = .returned (.tuple #[SL I r.1 G, .bool r.2]) ∧ ownS encSlot r.1 I G L ∧ Mem [] w w' [L] := by
 unfold M.s_l8End at hm
 refine cE Tryz.func227 ?_
 have M0 := Mem.refl [] w
 refine QA (MW 2 (NA (MW 2 (GD hm fun c ad hm => WD (c_s_l8Find w d b f (h.mem0 M0) l ad) M0 fun k m => MW 1 (NE (GS (GD hm fun ag Z Y => G_meet (fun a w' => Mem [] w w' [] ∧ Sat Tryz.f227.ntmps [(0, SL b d f), (6, iv c), (20, .bool ag)] a) ?_ ?_)))))))
 ·have hm := Z
  refine GR (wR 3 [(0, SL b d f), (6, iv c), (13, .bool (decide (c < 0)))] k ?_)
  rcases gx_bif hm with ⟨v, hm⟩ | ⟨v, hm⟩
  ·refine wK 13 true v (MW 7 (WN ?_))
   obtain rfl := HS hm
   exact NM fun a ha => ⟨m.pk [], ha.s⟩
  refine wK 13 false v (MW 2 (GD hm fun N z hm => wV (elemP b (c.toNat * 3)) k (eI (h.mem0 m) rfl z) (wV (elemP b (c.toNat * 3 + 0)) k (eF 0 (c.toNat * 3) 0 (h.mem0 m) z) (wV (iv N.State) k (eE false 1 0 (c.toNat * 3 + 0) (h.mem0 m) z) (MW 2 (WN ?_))))))
  obtain rfl := HS hm
  exact NM fun a ha => ⟨m.pk [], ha.s⟩
 intro ao i ⟨j, X⟩
 refine N_use X ?_
 have hm := Y
 refine TN (GT hm (fun x hm => ?_) fun x hm => ?_)
 ·refine QA (wL (E := encSlot) ([] : List Slot) 0 [] 117 j fun B q ah ak aa S => MW 2 (ND ?_))
  cases hm
  exact RA [SL B ([] : List Slot) q, .bool false] (⟨B, q, ah, rfl, aa, S.pk [0]⟩)
 refine KB (MW 2 (GD hm fun O A hm => wV (elemP b (c.toNat * 3)) i (eI (h.mem0 j) rfl A) (wV (elemP b (c.toNat * 3 + 0)) i (eF 0 (c.toNat * 3) 0 (h.mem0 j) A) (wV (iv O.State) i (eE false 1 0 (c.toNat * 3 + 0) (h.mem0 j) A) (wR 1 [(0, SL b d f), (6, iv c), (27, .bool (O.State == 2))] i (NO (GT hm (fun y hm => ?_) fun y hm => ?_)))))))
 ·refine QA (MW 3 (GD hm fun J ae hm => WC ((c_s_l8With i d b f (h.mem0 j) c (⟨0, 0, 0⟩ : Slot) ae).mono ?_)))
  rintro e_ al ⟨C, t, ai, rfl, ab, Q⟩
  have T := j.call Q
  refine ⟨_, rfl, ?_⟩
  refine MW 2 (ND ?_)
  cases hm
  exact RA [SL C J t, .bool true] (⟨C, t, ai, rfl, ab, T.pk [0]⟩)
 refine KA (MW 2 (GD hm fun g H hm => wV (elemP b (c.toNat * 3)) i (eI (h.mem0 j) rfl H) (wV (.agg #[iv g.State, iv g.Irq, iv g.Priority]) i (eE true 3 0 (c.toNat * 3) (h.mem0 j) H) (wN (CE 117 [iv 0, iv 0, iv 0]) j fun o ap U => wS true 3 0 (.agg #[iv g.State, iv g.Irq, iv g.Priority]) 0 [iv g.State, iv g.Irq, iv g.Priority] U rfl fun am V => NA (MW 1 (wS false 1 0 (iv 1) 0 [iv 1, iv g.Irq, iv g.Priority] V rfl fun F n => NA (MW 2 (wV (.agg #[iv 1, iv g.Irq, iv g.Priority]) F (eL true 3 0 (n.blk 0 rfl)) (GD hm fun K af hm => WC ((c_s_l8With F d b f (h.mem0 n) c (⟨1, g.Irq, g.Priority⟩ : Slot) af).mono ?_))))))))))
 rintro e_ an ⟨D, u, aj, rfl, ac, R⟩
 have W := n.call R
 refine ⟨_, rfl, ?_⟩
 refine MW 2 (NC ?_)
 cases hm
 exact RA [SL D K u, .bool true] (⟨D, u, aj, rfl, ac, W.pk [1]⟩)
theorem c_s_l9End (w : World) (a : Queue) (n i) (S : rdS encSlot w a.Slots n i) (q j) (T : rdS encWaiter w a.Waiting q j) (y : Int) {r : Queue × Bool} (hm : M.s_l9End a y = some r) :
  Calls Tryz.prog 176 #[.agg #[SL n a.Slots i, SL q a.Waiting j], iv y] w fun e w' => ∃ J H L K I N, e = .returned (.tuple #[.agg #[SL J r.1.Slots H, SL K r.1.Waiting I], .bool r.2]) ∧ ownS encSlot r.1.Slots J H L ∧ ownS encWaiter r.1.Waiting K I N ∧ Mem [] w w' [L, N] := by
 unfold M.s_l9End at hm
 refine cE Tryz.func176 ?_
 have M0 := Mem.refl [] w
 refine QA (wN (CE 85 [SL n a.Slots i, SL q a.Waiting j]) M0 fun h ae Q => wN (CE 85 [SN, SN]) Q fun c C D => MW 1 (NA (MW 1 (wV (SL n a.Slots i) C (eL false 1 0 (D.blk 0 rfl)) (MW 1 (GD hm fun f X hm => WC ((c_s_l8End C a.Slots n i (S.mem0 D) y X).mono ?_)))))))
 rintro e_ x ⟨A, z, ad, rfl, U, O⟩
 have B := D.call O
 refine ⟨_, rfl, ?_⟩
 refine MW 5 (NB (MW 2 (NO (GT hm (fun E hm => ?_) fun E hm => ?_))))
 ·refine QA (MW 1 (wS true 2 0 (.agg #[SN, SN]) 1 [SN, SN] B rfl fun ab F => MW 1 (ND ?_)))
  obtain rfl := HS hm
  exact N_ret [.agg #[SN, SN], .bool false] (RX true 2 0 (F.blk 1 rfl) (rC RVs_nil)) (⟨none, 0, [], none, 0, [], rfl, ownS_nil, ownS_nil, F.pk [100000, 100001]⟩)
 refine KA (MW 2 (wV (SL q a.Waiting j) x (eL false 1 1 (B.blk 0 rfl)) (MW 1 (GD hm fun d Y hm => WC ((c_s_l9Settle x (⟨f.1, a.Waiting⟩ : Queue) A z (U.r B 2) q j (T.mem0 B) Y).mono ?_)))))
 rintro e_ af ⟨t, l, Z, u, m, aa, rfl, V, W, P⟩
 have R := B.call P
 refine ⟨_, rfl, ?_⟩
 refine wS true 2 0 (.agg #[SL t d.Slots l, SL u d.Waiting m]) 1 [SL t d.Slots l, SL u d.Waiting m] R rfl fun ac G => wR 1 [(4, pB c 0), (5, .bool true)] ac (NC ?_)
 obtain rfl := HS hm
 exact N_ret [.agg #[SL t d.Slots l, SL u d.Waiting m], .bool true] (RX true 2 0 (G.blk 1 rfl) (rC RVs_nil)) (⟨t, l, Z, u, m, aa, rfl, V, W, G.pk [3, 4]⟩)
theorem c_s_l10Leave (w : World) (a : Interface) (q t) (O : rdS Gx.encI w a.Stack q t) (F C) (b0 : rdS encSlot w a.Queue.Slots F C) (G D) (b1 : rdS encWaiter w a.Queue.Waiting G D) {r : Interface × Int} (hm : M.s_l10Leave a = some r) :
  Calls Tryz.prog 134 #[.agg #[iv a.Mask, SL q a.Stack t, SL F a.Queue.Slots C, SL G a.Queue.Waiting D]] w fun e w' => ∃ ay aq a3 az ar a4 a0 au a5, e = .returned (.tuple #[.agg #[iv r.1.Mask, SL ay r.1.Stack aq, SL az r.1.Queue.Slots ar, SL a0 r.1.Queue.Waiting au], iv r.2]) ∧ ownS Gx.encI r.1.Stack ay aq a3 ∧ ownS encSlot r.1.Queue.Slots az ar a4 ∧ ownS encWaiter r.1.Queue.Waiting a0 au a5 ∧ Mem [] w w' [a3, a4, a5] := by
 unfold M.s_l10Leave at hm
 refine cE Tryz.func134 ?_
 have M0 := Mem.refl [] w
 refine QA (wN (CE 87 [iv a.Mask, SL q a.Stack t, SL F a.Queue.Slots C, SL G a.Queue.Waiting D]) M0 fun u c0 ba => wN (CE 87 [iv 0, SN, SN, SN]) ba fun z P V => MW 1 (NA (MW 1 (wV (SL q a.Stack t) P (eL false 1 1 (V.blk 0 rfl)) (MW 2 (NB (MW 2 (NO (GT hm (fun aa hm => ?_) fun aa hm => ?_)))))))))
 ·refine QA (wV (.agg #[iv a.Mask, SL q a.Stack t, SL F a.Queue.Slots C, SL G a.Queue.Waiting D]) P (eL true 4 0 (V.blk 0 rfl)) (wS true 4 0 (.agg #[iv a.Mask, SL q a.Stack t, SL F a.Queue.Slots C, SL G a.Queue.Waiting D]) 1 [iv a.Mask, SL q a.Stack t, SL F a.Queue.Slots C, SL G a.Queue.Waiting D] V rfl fun b5 cz => MW 1 (ND ?_)))
  cases hm
 refine GK (TN (GS (GD hm fun Q av hm => GD hm fun c b2 hm => GU [(1, pB u 0), (2, pB z 0), (4, iv (a.Stack.length : Int)), (11, .bool ((a.Stack.length : Int) == 0))] (DL 14 [[],[0],[],[2],[],[4],[3,5],[6],[1,7],[],[9],[9],[],[10,12]] [[],[],[],[],[],[],[],[],[],[],[],[],[],[12]] (EM 14) [[],[],[],[],[],[],[],[],[],[8],[8],[8],[],[8]] [[],[],[],[],[],[],[],[],[],[8],[8],[],[],[8,12]] (EM 14) (fun _ => []) [QV (pB u 2), QV (.agg #[SL F a.Queue.Slots C, SL G a.Queue.Waiting D]), QV (pB u 1), QV (.slice q a.Stack.length t), QV (iv (a.Stack.length : Int)), QV (iv (w64 ((a.Stack.length : Int) - 1))), QV (elemP q ((w64 ((a.Stack.length : Int) - 1)).toNat * 1)), QV (iv Q), fun f v s => ∃ m d L n l N, v = (.tuple #[.agg #[SL m c.1.Slots d, SL n c.1.Waiting l], .bool c.2] : Value) ∧ s = (L ++ N) ∧ ownS encSlot c.1.Slots m d L ∧ ownS encWaiter c.1.Waiting n l N, fun f v s => v = (.tuple #[.agg #[(atPath (f 8) [0, 0]), (atPath (f 8) [0, 1])], .bool c.2] : Value) ∧ s = [], fun f v s => v = (.agg #[(atPath (f 8) [0, 0]), (atPath (f 8) [0, 1])] : Value) ∧ s = [], QV (.bool c.2), fun f v s => ∃ B, v = (pB B 0 : Value) ∧ s = (BK B 85 [SN, SN]), fun f v s => v = undef ∧ s = [((blkOf (f 12)), .cells ⟨[(atPath (f 8) [0, 0]), (atPath (f 8) [0, 1])]⟩ 85 (0, 0))]] [12] [8, 11, 13] [8, 13] (V.preNil 14) (AC ?_ (AC ?_ (AC ?_ (AC ?_ (AC ?_ (AC ?_ (AC ?_ (AC ?_ (AC ?_ (AC ?_ (AC ?_ (AC ?_ (AC ?_ (AC ?_ AN)))))))))))))) ?_))))
 ·intro I K R b6 bb
  exact OM ⟨rfl, rfl⟩ bb
 ·rintro I K v0_ ⟨rfl, _⟩ R b7 ae
  exact OV ⟨rfl, rfl⟩ (eL true 2 2 (ae.blk 0 rfl)) ae
 ·intro I K R b8 bc
  exact OM ⟨rfl, rfl⟩ bc
 ·rintro I K v2_ ⟨rfl, _⟩ R b9 af
  exact OV ⟨rfl, rfl⟩ (eL false 1 1 (af.blk 0 rfl)) af
 ·intro I K R ca bd
  exact OM ⟨rfl, rfl⟩ bd
 ·rintro I K v4_ ⟨rfl, _⟩ R cb be
  exact OM ⟨rfl, rfl⟩ be
 ·rintro I K v3_ ⟨rfl, _⟩
  rintro v5_ ⟨rfl, _⟩ R cc ag
  exact OV ⟨rfl, rfl⟩ (eI (O.mem0 ag) rfl av) ag
 ·rintro I K v6_ ⟨rfl, _⟩ R cd ah
  exact OV ⟨rfl, rfl⟩ (eE false 1 0 ((w64 ((a.Stack.length : Int) - 1)).toNat * 1) (O.mem0 ah) av) ah
 ·rintro I K v1_ ⟨rfl, _⟩
  rintro v7_ ⟨rfl, _⟩ R ce Y
  refine WC ((c_s_l9End ce a.Queue F C (b0.mem0 Y) G D (b1.mem0 Y) Q b2).mono ?_)
  rintro e_ c1 ⟨m, d, L, n, l, N, rfl, ab, ac, a8⟩
  refine ⟨_, rfl, ?_⟩
  exact WN (oE (.tuple #[.agg #[SL m c.1.Slots d, SL n c.1.Waiting l], .bool c.2]) (L ++ N) ⟨m, d, L, n, l, N, rfl, rfl, ab, ac⟩ (Mem.callMid Y (a8.permF (by simp))))
 ·intro I K v8_ hb8_
  obtain ⟨_, m, d, _, n, l, _, rfl, _⟩ := hb8_
  intro R cf bf
  exact OM ⟨rfl, rfl⟩ bf
 ·intro I K v8_ hb8_
  obtain ⟨_, m, d, _, n, l, _, rfl, _⟩ := hb8_
  intro v9_ hb9_
  obtain ⟨hv9_, _⟩ := hb9_
  obtain rfl : v9_ = (.tuple #[.agg #[SL m c.1.Slots d, SL n c.1.Waiting l], .bool c.2] : Value) := hv9_.trans (by kernel_rfl)
  intro R cg bg
  exact OM ⟨rfl, rfl⟩ bg
 ·intro I K v8_ hb8_
  obtain ⟨_, m, d, _, n, l, _, rfl, _⟩ := hb8_
  intro v9_ hb9_
  obtain ⟨hv9_, _⟩ := hb9_
  obtain rfl : v9_ = (.tuple #[.agg #[SL m c.1.Slots d, SL n c.1.Waiting l], .bool c.2] : Value) := hv9_.trans (by kernel_rfl)
  intro R ch bh
  exact OM ⟨rfl, rfl⟩ bh
 ·intro I K R c2 bi
  exact wN (CE 85 [SN, SN]) bi fun B c3 bj => WN (oE (pB B 0) (BK B 85 [SN, SN]) ⟨B, rfl, rfl⟩ (Mem.mid bj))
 ·intro I K v8_ hb8_
  obtain ⟨_, m, d, _, n, l, _, rfl, _⟩ := hb8_
  intro v10_ hb10_
  obtain ⟨hv10_, _⟩ := hb10_
  obtain rfl : v10_ = (.agg #[SL m c.1.Slots d, SL n c.1.Waiting l] : Value) := hv10_.trans (by kernel_rfl)
  intro v12_ hb12_
  obtain ⟨B, rfl, hs12_⟩ := hb12_
  intro R a6 bk
  have W : Mem [] w a6 ([(BK u 87 [iv a.Mask, SL q a.Stack t, SL F a.Queue.Slots C, SL G a.Queue.Waiting D]), (BK z 87 [iv 0, SN, SN, SN])] ++ ([[]] ++ ([(I 12)] ++ ([] ++ R)))) := bk
  rw [hs12_] at W
  replace W : Mem [] w a6 ([(BK u 87 [iv a.Mask, SL q a.Stack t, SL F a.Queue.Slots C, SL G a.Queue.Waiting D]), (BK z 87 [iv 0, SN, SN, SN])] ++ ([[]] ++ ([(BK B 85 [SN, SN])] ++ ([] ++ R)))) := W.permF (by simp)
  exact wS true 2 0 (.agg #[SL m c.1.Slots d, SL n c.1.Waiting l]) 3 [SL m c.1.Slots d, SL n c.1.Waiting l] W rfl fun c4 bl => WN (ob_none (BK B 85 [SL m c.1.Slots d, SL n c.1.Waiting l]) rfl ⟨rfl, by kernel_rfl⟩ (Mem.takeOver bl))
 intro I K v12_ hb12_
 obtain ⟨_, B, rfl, hs12_⟩ := hb12_
 intro v8_ hb8_
 obtain ⟨m, d, L, n, l, N, rfl, hs8_, ab, ac⟩ := hb8_
 rintro v11_ ⟨rfl, _⟩ v13_ hb13_
 obtain ⟨rfl, hs13_⟩ := hb13_
 replace hs13_ := hs13_.trans (show _ = (BK B 85 [SL m c.1.Slots d, SL n c.1.Waiting l]) by kernel_rfl)
 intro X bm
 have U : Mem [] w X [(BK u 87 [iv a.Mask, SL q a.Stack t, SL F a.Queue.Slots C, SL G a.Queue.Waiting D]), (BK z 87 [iv 0, SN, SN, SN]), L, N, (BK B 85 [SL m c.1.Slots d, SL n c.1.Waiting l])] := bm.permF (by simp [hs8_, hs13_, SL])
 refine MW 1 (NE (GD hm fun T ax hm => GD hm fun J b3 hm => GD hm fun S aw hm => ?_))
 have bn : Mem [] w X ([(BK u 87 [iv a.Mask, SL q a.Stack t, SL F a.Queue.Slots C, SL G a.Queue.Waiting D]), L, N, (BK B 85 [SL m c.1.Slots d, SL n c.1.Waiting l])] ++ (List.range 17).map (fun i => ([[], [], [], [], [], [], [], [], [], [], [], [], [], [], [], [], (BK z 87 [iv 0, SN, SN, SN])] : List Seg).getD i [])) := U.pk [0, 2, 3, 4, 300000, 300001, 300002, 300003, 300004, 300005, 300006, 300007, 300008, 300009, 300010, 300011, 300012, 300013, 300014, 300015, 1]
 refine GU [(1, pB u 0), (2, pB z 0), (4, iv (a.Stack.length : Int)), (5, pB B 0)] (DL 17 [[],[0],[],[2],[],[4],[3,5],[6],[],[1,8],[],[10],[],[12],[11,13],[14],[9]] (EM 17) (EM 17) [[],[],[],[],[],[],[],[],[],[7],[],[],[],[],[],[],[7]] [[],[],[],[],[],[],[],[],[],[7],[],[],[],[],[],[],[7]] (EM 17) (fun i => ([[], [], [], [], [], [], [], [], [], [], [], [], [], [], [], [], (BK z 87 [iv 0, SN, SN, SN])] : List Seg).getD i []) [QV (pB u 0), QV (iv a.Mask), QV (pB u 1), QV (.slice q a.Stack.length t), QV (iv (a.Stack.length : Int)), QV (iv (w64 ((a.Stack.length : Int) - 1))), QV (.slice (subP q (0 : Int).toNat t 1) T.length (t - (0 : Int).toNat)), fun f v s => ∃ y x, v = (.slice y J.length x : Value) ∧ ownS Gx.encI J y x s, QV (.agg #[SL m c.1.Slots d, SL n c.1.Waiting l]), fun f v s => v = (.agg #[iv a.Mask, (atPath (f 7) []), SL m c.1.Slots d, SL n c.1.Waiting l] : Value) ∧ s = [], QV (pB u 1), QV (.slice q a.Stack.length t), QV (iv (a.Stack.length : Int)), QV (iv (w64 ((a.Stack.length : Int) - 1))), QV (elemP q ((w64 ((a.Stack.length : Int) - 1)).toNat * 1)), QV (iv S), fun f v s => v = undef ∧ s = (BK z 87 [iv a.Mask, (atPath (f 7) []), SL m c.1.Slots d, SL n c.1.Waiting l])] [] [7, 15, 16] [7, 16] bn (AC ?_ (AC ?_ (AC ?_ (AC ?_ (AC ?_ (AC ?_ (AC ?_ (AC ?_ (AC ?_ (AC ?_ (AC ?_ (AC ?_ (AC ?_ (AC ?_ (AC ?_ (AC ?_ (AC ?_ AN))))))))))))))))) ?_)
 ·intro A H R ci bo
  exact OM ⟨rfl, rfl⟩ bo
 ·rintro A H v0_ ⟨rfl, _⟩ R cj ai
  exact OV ⟨rfl, rfl⟩ (eL false 1 0 (ai.blk 0 rfl)) ai
 ·intro A H R ck bp
  exact OM ⟨rfl, rfl⟩ bp
 ·rintro A H v2_ ⟨rfl, _⟩ R cl aj
  exact OV ⟨rfl, rfl⟩ (eL false 1 1 (aj.blk 0 rfl)) aj
 ·intro A H R cm bq
  exact OM ⟨rfl, rfl⟩ bq
 ·rintro A H v4_ ⟨rfl, _⟩ R cn br
  exact OM ⟨rfl, rfl⟩ br
 ·rintro A H v3_ ⟨rfl, _⟩
  rintro v5_ ⟨rfl, _⟩ R co ak
  exact OV ⟨rfl, rfl⟩ (E_slice (E := Gx.encI) _ _ _ _ a.Stack.length 0 (w64 ((a.Stack.length : Int) - 1)) rfl (by kernel_rfl) (Or.inl ⟨rfl, rfl⟩) (Or.inr ⟨_, rfl, by kernel_rfl⟩) (by kernel_rfl) (O.mem0 ak) rfl ax) ak
 ·rintro A H v6_ ⟨rfl, _⟩ R cp al
  refine WC ((c_s_l1Own cp T (subP q (0 : Int).toNat t 1) (t - (0 : Int).toNat) ((O.mem0 al).sliceM ax) b3).mono ?_)
  rintro e_ c5 ⟨y, x, b4, rfl, ad, a9⟩
  refine ⟨_, rfl, ?_⟩
  exact WN (oE (SL y J x) b4 ⟨y, x, rfl, ad⟩ (Mem.callMid al a9))
 ·intro A H R cq am
  exact OV ⟨rfl, rfl⟩ (eL true 2 0 (am.blk 3 rfl)) am
 ·intro A H v7_ hb7_
  obtain ⟨_, y, x, rfl, _⟩ := hb7_
  rintro v1_ ⟨rfl, _⟩
  rintro v8_ ⟨rfl, _⟩ R cr bs
  exact OM ⟨rfl, rfl⟩ bs
 ·intro A H R ct bt
  exact OM ⟨rfl, rfl⟩ bt
 ·rintro A H v10_ ⟨rfl, _⟩ R cu an
  exact OV ⟨rfl, rfl⟩ (eL false 1 1 (an.blk 0 rfl)) an
 ·intro A H R cv bu
  exact OM ⟨rfl, rfl⟩ bu
 ·rintro A H v12_ ⟨rfl, _⟩ R cw bv
  exact OM ⟨rfl, rfl⟩ bv
 ·rintro A H v11_ ⟨rfl, _⟩
  rintro v13_ ⟨rfl, _⟩ R cx ao
  exact OV ⟨rfl, rfl⟩ (eI (O.mem0 ao) rfl aw) ao
 ·rintro A H v14_ ⟨rfl, _⟩ R cy ap
  exact OV ⟨rfl, rfl⟩ (eE false 1 0 ((w64 ((a.Stack.length : Int) - 1)).toNat * 1) (O.mem0 ap) aw) ap
 ·intro A H v7_ hb7_
  obtain ⟨_, y, x, rfl, _⟩ := hb7_
  intro v9_ hb9_
  obtain ⟨hv9_, _⟩ := hb9_
  obtain rfl : v9_ = (.agg #[iv a.Mask, SL y J x, SL m c.1.Slots d, SL n c.1.Waiting l] : Value) := hv9_.trans (by kernel_rfl)
  intro R c6 bw
  exact wS true 4 0 (.agg #[iv a.Mask, SL y J x, SL m c.1.Slots d, SL n c.1.Waiting l]) 4 [iv a.Mask, SL y J x, SL m c.1.Slots d, SL n c.1.Waiting l] bw rfl fun c7 bx => WN (ob_none (BK z 87 [iv a.Mask, SL y J x, SL m c.1.Slots d, SL n c.1.Waiting l]) rfl ⟨rfl, by kernel_rfl⟩ bx)
 intro A H v7_ hb7_
 obtain ⟨y, x, rfl, ad⟩ := hb7_
 rintro v15_ ⟨rfl, _⟩ v16_ hb16_
 obtain ⟨rfl, hs16_⟩ := hb16_
 replace hs16_ := hs16_.trans (show _ = (BK z 87 [iv a.Mask, SL y J x, SL m c.1.Slots d, SL n c.1.Waiting l]) by kernel_rfl)
 intro a7 bz
 have Z : Mem [] w a7 [(BK u 87 [iv a.Mask, SL q a.Stack t, SL F a.Queue.Slots C, SL G a.Queue.Waiting D]), L, N, (BK B 85 [SL m c.1.Slots d, SL n c.1.Waiting l]), (A 7), (A 16)] := bz
 rw [hs16_] at Z
 refine MW 1 (NC ?_)
 obtain rfl := HS hm
 exact N_ret [.agg #[iv a.Mask, SL y J x, SL m c.1.Slots d, SL n c.1.Waiting l], iv S] (RX true 4 0 (Z.blk 5 rfl) (rC RVs_nil)) (⟨y, x, (A 7), m, d, L, n, l, N, rfl, ad, ab, ac, Z.pk [4, 1, 2]⟩)
end Go.Proofs.YtllhajkgkghhdaaGreat
set_option linter.unusedVariables false
set_option linter.unusedSimpArgs false
set_option maxRecDepth 100000
set_option maxHeartbeats 4000000
namespace Go.Proofs.YtllhajkgkghhdaaGreat
open Go.Gx
theorem c_s_l10Leave__k (w : World) (a : Interface) (d l) (O : rdS Gx.encI w a.Stack d l) (z x) (br : rdS encSlot w a.Queue.Slots z x) (A y) (bs : rdS encWaiter w a.Queue.Waiting A y) {r : Interface × Int} (hm : M.s_l10Leave__k a = some r) :
  Calls Tryz.prog 134 #[.agg #[iv a.Mask, SL d a.Stack l, SL z a.Queue.Slots x, SL A a.Queue.Waiting y]] w fun e w' => e = .returned (.tuple #[.agg #[iv r.1.Mask, SL d a.Stack l, SL z a.Queue.Slots x, SL A a.Queue.Waiting y], iv r.2]) ∧ Mem [] w w' [] := by
 unfold M.s_l10Leave__k at hm
 refine cE Tryz.func134 ?_
 have M0 := Mem.refl [] w
 refine QA (wN (CE 87 [iv a.Mask, SL d a.Stack l, SL z a.Queue.Slots x, SL A a.Queue.Waiting y]) M0 fun u cq az => wN (CE 87 [iv 0, SN, SN, SN]) az fun B P V => MW 1 (NA (MW 1 (wV (SL d a.Stack l) P (eL false 1 1 (V.blk 0 rfl)) (MW 2 (NB (MW 2 (NO (GT hm (fun Z hm => ?_) fun Z hm => ?_)))))))))
 ·refine QA (wV (.agg #[iv a.Mask, SL d a.Stack l, SL z a.Queue.Slots x, SL A a.Queue.Waiting y]) P (eL true 4 0 (V.blk 0 rfl)) (wS true 4 0 (.agg #[iv a.Mask, SL d a.Stack l, SL z a.Queue.Slots x, SL A a.Queue.Waiting y]) 1 [iv a.Mask, SL d a.Stack l, SL z a.Queue.Slots x, SL A a.Queue.Waiting y] V rfl fun bw aa => MW 1 (ND ?_)))
  obtain rfl := HS hm
  exact N_ret [.agg #[iv a.Mask, SL d a.Stack l, SL z a.Queue.Slots x, SL A a.Queue.Waiting y], iv (-1)] (RX true 4 0 (aa.blk 1 rfl) (rC RVs_nil)) (⟨rfl, aa.pk []⟩)
 refine GK (TN (GS (GD hm fun Q aq hm => GD hm fun c bt hm => GU [(1, pB u 0), (2, pB B 0), (4, iv (a.Stack.length : Int)), (11, .bool ((a.Stack.length : Int) == 0))] (DL 14 [[],[0],[],[2],[],[4],[3,5],[6],[1,7],[],[9],[9],[],[10,12]] [[],[],[],[],[],[],[],[],[],[],[],[],[],[12]] (EM 14) [[],[],[],[],[],[],[],[],[],[8],[8],[8],[],[8]] [[],[],[],[],[],[],[],[],[],[8],[8],[],[],[8,12]] (EM 14) (fun _ => []) [QV (pB u 2), QV (.agg #[SL z a.Queue.Slots x, SL A a.Queue.Waiting y]), QV (pB u 1), QV (.slice d a.Stack.length l), QV (iv (a.Stack.length : Int)), QV (iv (w64 ((a.Stack.length : Int) - 1))), QV (elemP d ((w64 ((a.Stack.length : Int) - 1)).toNat * 1)), QV (iv Q), fun f v s => ∃ q m L t n N, v = (.tuple #[.agg #[SL q c.1.Slots m, SL t c.1.Waiting n], .bool c.2] : Value) ∧ s = (L ++ N) ∧ ownS encSlot c.1.Slots q m L ∧ ownS encWaiter c.1.Waiting t n N, fun f v s => v = (.tuple #[.agg #[(atPath (f 8) [0, 0]), (atPath (f 8) [0, 1])], .bool c.2] : Value) ∧ s = [], fun f v s => v = (.agg #[(atPath (f 8) [0, 0]), (atPath (f 8) [0, 1])] : Value) ∧ s = [], QV (.bool c.2), fun f v s => ∃ C, v = (pB C 0 : Value) ∧ s = (BK C 85 [SN, SN]), fun f v s => v = undef ∧ s = [((blkOf (f 12)), .cells ⟨[(atPath (f 8) [0, 0]), (atPath (f 8) [0, 1])]⟩ 85 (0, 0))]] [12] [8, 11, 13] [8, 13] (V.preNil 14) (AC ?_ (AC ?_ (AC ?_ (AC ?_ (AC ?_ (AC ?_ (AC ?_ (AC ?_ (AC ?_ (AC ?_ (AC ?_ (AC ?_ (AC ?_ (AC ?_ AN)))))))))))))) ?_))))
 ·intro I J R bx a0
  exact OM ⟨rfl, rfl⟩ a0
 ·rintro I J v0_ ⟨rfl, _⟩ R bz ab
  exact OV ⟨rfl, rfl⟩ (eL true 2 2 (ab.blk 0 rfl)) ab
 ·intro I J R b0 a3
  exact OM ⟨rfl, rfl⟩ a3
 ·rintro I J v2_ ⟨rfl, _⟩ R b1 ac
  exact OV ⟨rfl, rfl⟩ (eL false 1 1 (ac.blk 0 rfl)) ac
 ·intro I J R b2 a4
  exact OM ⟨rfl, rfl⟩ a4
 ·rintro I J v4_ ⟨rfl, _⟩ R b3 a5
  exact OM ⟨rfl, rfl⟩ a5
 ·rintro I J v3_ ⟨rfl, _⟩
  rintro v5_ ⟨rfl, _⟩ R b4 ad
  exact OV ⟨rfl, rfl⟩ (eI (O.mem0 ad) rfl aq) ad
 ·rintro I J v6_ ⟨rfl, _⟩ R b5 ae
  exact OV ⟨rfl, rfl⟩ (eE false 1 0 ((w64 ((a.Stack.length : Int) - 1)).toNat * 1) (O.mem0 ae) aq) ae
 ·rintro I J v1_ ⟨rfl, _⟩
  rintro v7_ ⟨rfl, _⟩ R b6 Y
  refine WC ((c_s_l9End b6 a.Queue z x (br.mem0 Y) A y (bs.mem0 Y) Q bt).mono ?_)
  rintro e_ cr ⟨q, m, L, t, n, N, rfl, an, ao, ax⟩
  refine ⟨_, rfl, ?_⟩
  exact WN (oE (.tuple #[.agg #[SL q c.1.Slots m, SL t c.1.Waiting n], .bool c.2]) (L ++ N) ⟨q, m, L, t, n, N, rfl, rfl, an, ao⟩ (Mem.callMid Y (ax.permF (by simp))))
 ·intro I J v8_ hb8_
  obtain ⟨_, q, m, _, t, n, _, rfl, _⟩ := hb8_
  intro R b7 a6
  exact OM ⟨rfl, rfl⟩ a6
 ·intro I J v8_ hb8_
  obtain ⟨_, q, m, _, t, n, _, rfl, _⟩ := hb8_
  intro v9_ hb9_
  obtain ⟨hv9_, _⟩ := hb9_
  obtain rfl : v9_ = (.tuple #[.agg #[SL q c.1.Slots m, SL t c.1.Waiting n], .bool c.2] : Value) := hv9_.trans (by kernel_rfl)
  intro R b8 a7
  exact OM ⟨rfl, rfl⟩ a7
 ·intro I J v8_ hb8_
  obtain ⟨_, q, m, _, t, n, _, rfl, _⟩ := hb8_
  intro v9_ hb9_
  obtain ⟨hv9_, _⟩ := hb9_
  obtain rfl : v9_ = (.tuple #[.agg #[SL q c.1.Slots m, SL t c.1.Waiting n], .bool c.2] : Value) := hv9_.trans (by kernel_rfl)
  intro R b9 a8
  exact OM ⟨rfl, rfl⟩ a8
 ·intro I J R ct a9
  exact wN (CE 85 [SN, SN]) a9 fun C cu ba => WN (oE (pB C 0) (BK C 85 [SN, SN]) ⟨C, rfl, rfl⟩ (Mem.mid ba))
 ·intro I J v8_ hb8_
  obtain ⟨_, q, m, _, t, n, _, rfl, _⟩ := hb8_
  intro v10_ hb10_
  obtain ⟨hv10_, _⟩ := hb10_
  obtain rfl : v10_ = (.agg #[SL q c.1.Slots m, SL t c.1.Waiting n] : Value) := hv10_.trans (by kernel_rfl)
  intro v12_ hb12_
  obtain ⟨C, rfl, hs12_⟩ := hb12_
  intro R av bb
  have W : Mem [] w av ([(BK u 87 [iv a.Mask, SL d a.Stack l, SL z a.Queue.Slots x, SL A a.Queue.Waiting y]), (BK B 87 [iv 0, SN, SN, SN])] ++ ([[]] ++ ([(I 12)] ++ ([] ++ R)))) := bb
  rw [hs12_] at W
  replace W : Mem [] w av ([(BK u 87 [iv a.Mask, SL d a.Stack l, SL z a.Queue.Slots x, SL A a.Queue.Waiting y]), (BK B 87 [iv 0, SN, SN, SN])] ++ ([[]] ++ ([(BK C 85 [SN, SN])] ++ ([] ++ R)))) := W.permF (by simp)
  exact wS true 2 0 (.agg #[SL q c.1.Slots m, SL t c.1.Waiting n]) 3 [SL q c.1.Slots m, SL t c.1.Waiting n] W rfl fun cv bc => WN (ob_none (BK C 85 [SL q c.1.Slots m, SL t c.1.Waiting n]) rfl ⟨rfl, by kernel_rfl⟩ (Mem.takeOver bc))
 intro I J v12_ hb12_
 obtain ⟨_, C, rfl, hs12_⟩ := hb12_
 intro v8_ hb8_
 obtain ⟨q, m, L, t, n, N, rfl, hs8_, an, ao⟩ := hb8_
 rintro v11_ ⟨rfl, _⟩ v13_ hb13_
 obtain ⟨rfl, hs13_⟩ := hb13_
 replace hs13_ := hs13_.trans (show _ = (BK C 85 [SL q c.1.Slots m, SL t c.1.Waiting n]) by kernel_rfl)
 intro X bd
 have T : Mem [] w X [(BK u 87 [iv a.Mask, SL d a.Stack l, SL z a.Queue.Slots x, SL A a.Queue.Waiting y]), (BK B 87 [iv 0, SN, SN, SN]), L, N, (BK C 85 [SL q c.1.Slots m, SL t c.1.Waiting n])] := bd.permF (by simp [hs8_, hs13_, SL])
 refine MW 1 (NE (GD hm fun S au hm => GD hm fun K bu hm => GD hm fun U ar hm => ?_))
 have be : Mem [] w X ([(BK u 87 [iv a.Mask, SL d a.Stack l, SL z a.Queue.Slots x, SL A a.Queue.Waiting y]), L, N, (BK C 85 [SL q c.1.Slots m, SL t c.1.Waiting n])] ++ (List.range 17).map (fun i => ([[], [], [], [], [], [], [], [], [], [], [], [], [], [], [], [], (BK B 87 [iv 0, SN, SN, SN])] : List Seg).getD i [])) := T.pk [0, 2, 3, 4, 300000, 300001, 300002, 300003, 300004, 300005, 300006, 300007, 300008, 300009, 300010, 300011, 300012, 300013, 300014, 300015, 1]
 refine GU [(1, pB u 0), (2, pB B 0), (4, iv (a.Stack.length : Int)), (5, pB C 0)] (DL 17 [[],[0],[],[2],[],[4],[3,5],[6],[],[1,8],[],[10],[],[12],[11,13],[14],[9]] (EM 17) (EM 17) [[],[],[],[],[],[],[],[],[],[7],[],[],[],[],[],[],[7]] [[],[],[],[],[],[],[],[],[],[7],[],[],[],[],[],[],[7]] (EM 17) (fun i => ([[], [], [], [], [], [], [], [], [], [], [], [], [], [], [], [], (BK B 87 [iv 0, SN, SN, SN])] : List Seg).getD i []) [QV (pB u 0), QV (iv a.Mask), QV (pB u 1), QV (.slice d a.Stack.length l), QV (iv (a.Stack.length : Int)), QV (iv (w64 ((a.Stack.length : Int) - 1))), QV (.slice (subP d (0 : Int).toNat l 1) S.length (l - (0 : Int).toNat)), fun f v s => ∃ G F, v = (.slice G K.length F : Value) ∧ ownS Gx.encI K G F s, QV (.agg #[SL q c.1.Slots m, SL t c.1.Waiting n]), fun f v s => v = (.agg #[iv a.Mask, (atPath (f 7) []), SL q c.1.Slots m, SL t c.1.Waiting n] : Value) ∧ s = [], QV (pB u 1), QV (.slice d a.Stack.length l), QV (iv (a.Stack.length : Int)), QV (iv (w64 ((a.Stack.length : Int) - 1))), QV (elemP d ((w64 ((a.Stack.length : Int) - 1)).toNat * 1)), QV (iv U), fun f v s => v = undef ∧ s = (BK B 87 [iv a.Mask, (atPath (f 7) []), SL q c.1.Slots m, SL t c.1.Waiting n])] [] [7, 15, 16] [7, 16] be (AC ?_ (AC ?_ (AC ?_ (AC ?_ (AC ?_ (AC ?_ (AC ?_ (AC ?_ (AC ?_ (AC ?_ (AC ?_ (AC ?_ (AC ?_ (AC ?_ (AC ?_ (AC ?_ (AC ?_ AN))))))))))))))))) ?_)
 ·intro D H R ca bf
  exact OM ⟨rfl, rfl⟩ bf
 ·rintro D H v0_ ⟨rfl, _⟩ R cb af
  exact OV ⟨rfl, rfl⟩ (eL false 1 0 (af.blk 0 rfl)) af
 ·intro D H R cc bg
  exact OM ⟨rfl, rfl⟩ bg
 ·rintro D H v2_ ⟨rfl, _⟩ R cd ag
  exact OV ⟨rfl, rfl⟩ (eL false 1 1 (ag.blk 0 rfl)) ag
 ·intro D H R ce bh
  exact OM ⟨rfl, rfl⟩ bh
 ·rintro D H v4_ ⟨rfl, _⟩ R cf bi
  exact OM ⟨rfl, rfl⟩ bi
 ·rintro D H v3_ ⟨rfl, _⟩
  rintro v5_ ⟨rfl, _⟩ R cg ah
  exact OV ⟨rfl, rfl⟩ (E_slice (E := Gx.encI) _ _ _ _ a.Stack.length 0 (w64 ((a.Stack.length : Int) - 1)) rfl (by kernel_rfl) (Or.inl ⟨rfl, rfl⟩) (Or.inr ⟨_, rfl, by kernel_rfl⟩) (by kernel_rfl) (O.mem0 ah) rfl au) ah
 ·rintro D H v6_ ⟨rfl, _⟩ R ch ai
  refine WC ((c_s_l1Own ch S (subP d (0 : Int).toNat l 1) (l - (0 : Int).toNat) ((O.mem0 ai).sliceM au) bu).mono ?_)
  rintro e_ cw ⟨G, F, bv, rfl, ap, ay⟩
  refine ⟨_, rfl, ?_⟩
  exact WN (oE (SL G K F) bv ⟨G, F, rfl, ap⟩ (Mem.callMid ai ay))
 ·intro D H R ci aj
  exact OV ⟨rfl, rfl⟩ (eL true 2 0 (aj.blk 3 rfl)) aj
 ·intro D H v7_ hb7_
  obtain ⟨_, G, F, rfl, _⟩ := hb7_
  rintro v1_ ⟨rfl, _⟩
  rintro v8_ ⟨rfl, _⟩ R cj bj
  exact OM ⟨rfl, rfl⟩ bj
 ·intro D H R ck bk
  exact OM ⟨rfl, rfl⟩ bk
 ·rintro D H v10_ ⟨rfl, _⟩ R cl ak
  exact OV ⟨rfl, rfl⟩ (eL false 1 1 (ak.blk 0 rfl)) ak
 ·intro D H R cm bl
  exact OM ⟨rfl, rfl⟩ bl
 ·rintro D H v12_ ⟨rfl, _⟩ R cn bm
  exact OM ⟨rfl, rfl⟩ bm
 ·rintro D H v11_ ⟨rfl, _⟩
  rintro v13_ ⟨rfl, _⟩ R co al
  exact OV ⟨rfl, rfl⟩ (eI (O.mem0 al) rfl ar) al
 ·rintro D H v14_ ⟨rfl, _⟩ R cp am
  exact OV ⟨rfl, rfl⟩ (eE false 1 0 ((w64 ((a.Stack.length : Int) - 1)).toNat * 1) (O.mem0 am) ar) am
 ·intro D H v7_ hb7_
  obtain ⟨_, G, F, rfl, _⟩ := hb7_
  intro v9_ hb9_
  obtain ⟨hv9_, _⟩ := hb9_
  obtain rfl : v9_ = (.agg #[iv a.Mask, SL G K F, SL q c.1.Slots m, SL t c.1.Waiting n] : Value) := hv9_.trans (by kernel_rfl)
  intro R cx bn
  exact wS true 4 0 (.agg #[iv a.Mask, SL G K F, SL q c.1.Slots m, SL t c.1.Waiting n]) 4 [iv a.Mask, SL G K F, SL q c.1.Slots m, SL t c.1.Waiting n] bn rfl fun cy bo => WN (ob_none (BK B 87 [iv a.Mask, SL G K F, SL q c.1.Slots m, SL t c.1.Waiting n]) rfl ⟨rfl, by kernel_rfl⟩ bo)
 intro D H v7_ hb7_
 obtain ⟨G, F, rfl, ap⟩ := hb7_
 rintro v15_ ⟨rfl, _⟩ v16_ hb16_
 obtain ⟨rfl, hs16_⟩ := hb16_
 replace hs16_ := hs16_.trans (show _ = (BK B 87 [iv a.Mask, SL G K F, SL q c.1.Slots m, SL t c.1.Waiting n]) by kernel_rfl)
 intro aw bp
 have bq : Mem [] w aw [(BK u 87 [iv a.Mask, SL d a.Stack l, SL z a.Queue.Slots x, SL A a.Queue.Waiting y]), L, N, (BK C 85 [SL q c.1.Slots m, SL t c.1.Waiting n]), (D 7), (D 16)] := bp
 rw [hs16_] at bq
 refine MW 1 (NC ?_)
 cases hm
theorem c_s_l21Make (w : World) (q : Machine) (W U) (dc : rdS encRoute w q.Routes W U) (X V) (dd : rdS Gx.encB w q.Enabled X V) (K P) (b7 : rdS Gx.encB w q.Raised K P) (O Q) (b8 : rdD deepInterface w q.Cpus O Q) (c : MachStep) {r : Machine × Int × Bool} (hm : M.s_l21Make q c = some r) :
  Calls Tryz.prog 77 #[.agg #[SL W q.Routes U, SL X q.Enabled V, SL K q.Raised P, SL O q.Cpus Q], .agg #[iv c.Kind, iv c.Irq, iv c.Cpu, iv c.Value]] w fun e w' => ∃ dr c8 dv ds c9 dw dt da dx du db dy dz, e = .returned (.tuple #[.agg #[SL dr r.1.Routes c8, SL ds r.1.Enabled c9, SL dt r.1.Raised da, SL du r.1.Cpus db], iv r.2.1, .bool r.2.2]) ∧ (r.2.2 = true → ownS encRoute r.1.Routes dr c8 dv) ∧ (r.2.2 = true → ownS Gx.encB r.1.Enabled ds c9 dw) ∧ (r.2.2 = true → ownS Gx.encB r.1.Raised dt da dx) ∧ (r.2.2 = true → ownD deepInterface r.1.Cpus du db dy dz) ∧ Mem [] w w' [dv, dw, dx, dy, dz] := by
 unfold M.s_l21Make at hm
 refine cE Tryz.func77 ?_
 have M0 := Mem.refl [] w
 refine QA (wN (CE 32 [SL W q.Routes U, SL X q.Enabled V, SL K q.Raised P, SL O q.Cpus Q]) M0 fun N hh ea => wN (CE 51 [iv c.Kind, iv c.Irq, iv c.Cpu, iv c.Value]) ea fun F hi eb => wN (CE 32 [SN, SN, SN, SN]) eb fun B cn a8 => MW 2 (NA (wV (.agg #[SL W q.Routes U, SL X q.Enabled V, SL K q.Raised P, SL O q.Cpus Q]) cn (eL true 4 0 (a8.blk 0 rfl)) (GD hm fun a f0 hm => WC ((c_s_l21Own cn q W U (dc.mem0 a8) X V (dd.mem0 a8) K P (b7.mem0 a8) O Q (b8.mem0 a8) f0).mono ?_)))))
 rintro e_ hj ⟨D, C, Y, x, z, Z, y, A, ab, m, n, bl, aq, rfl, bu, bd, be, bf, d5⟩
 have ec := a8.call d5
 refine ⟨_, rfl, ?_⟩
 refine wN (CE 32 [SN, SN, SN, SN]) ec fun G hk ed => wS true 4 0 (.agg #[SL D a.Routes C, SL x a.Enabled z, SL y a.Raised A, SL m a.Cpus n]) 8 [SL D a.Routes C, SL x a.Enabled z, SL y a.Raised A, SL m a.Cpus n] ed rfl fun I J => NB (MW 1 (wV (iv c.Kind) I (eL false 1 0 (J.blk 1 rfl)) (NO (GB (QA (MW 2 (NO (GT hm (fun cg hm => ?_) fun cg hm => ?_))))))))
 ·refine QA (MW 1 (wV (SL y a.Raised A) I (eL false 1 2 (J.blk 8 rfl)) (MW 1 (wV (iv c.Irq) I (eL false 1 1 (J.blk 1 rfl)) (GD hm fun g4 dk hm => wV (elemP y (c.Irq.toNat * 1)) I (eI (be.r J 5) rfl dk) (wE false 1 c.Irq.toNat 0 (c.Irq.toNat * 1) g4 true (.bool true) 5 J be (gxIdx_spec dk).2 fun d1 ce ff ee => LX 20 y A a.Raised c.Irq.toNat true ?_))))))
  have ef : Mem [] w d1 [(BK N 32 [.slice W q.Routes.length U, .slice X q.Enabled.length V, .slice K q.Raised.length P, .slice O q.Cpus.length Q]), (BK F 51 [iv c.Kind, iv c.Irq, iv c.Cpu, iv c.Value]), (BK B 32 [.slice none 0 0, .slice none 0 0, .slice none 0 0, .slice none 0 0]), Y, Z, ce, bl, aq, (BK G 32 [.slice D a.Routes.length C, .slice x a.Enabled.length z, .slice y (a.Raised.set c.Irq.toNat true).length A, .slice m a.Cpus.length n])] := by rw [@List.length_set _ a.Raised c.Irq.toNat true]; exact ee
  refine NE (GD hm fun ar dl hm => ?_)
  have eg : Mem [] w d1 ([(BK N 32 [SL W q.Routes U, SL X q.Enabled V, SL K q.Raised P, SL O q.Cpus Q]), (BK F 51 [iv c.Kind, iv c.Irq, iv c.Cpu, iv c.Value]), Y, Z, ce, bl, aq, (BK G 32 [SL D a.Routes C, SL x a.Enabled z, SL y (a.Raised.set c.Irq.toNat true) A, SL m a.Cpus n])] ++ (List.range 10).map (fun i => ([[], [], [], [], [], [], [], [], (BK B 32 [SN, SN, SN, SN]), []] : List Seg).getD i [])) := ef.pk [0, 1, 3, 4, 5, 6, 7, 8, 300000, 300001, 300002, 300003, 300004, 300005, 300006, 300007, 2, 300009]
  refine GU [(2, pB N 0), (3, pB F 0), (4, pB B 0), (7, pB G 0), (20, SL y (a.Raised.set c.Irq.toNat true) A), (21, pB F 1), (22, iv c.Irq), (23, elemP y (c.Irq.toNat * 1))] (DL 10 [[],[],[1],[],[3],[2,4],[5],[6],[0],[]] (EM 10) (EM 10) (EM 10) (EM 10) (EM 10) (fun i => ([[], [], [], [], [], [], [], [], (BK B 32 [SN, SN, SN, SN]), []] : List Seg).getD i []) [QV (.agg #[SL D a.Routes C, SL x a.Enabled z, SL y (a.Raised.set c.Irq.toNat true) A, SL m a.Cpus n]), QV (pB N 2), QV (.slice K q.Raised.length P), QV (pB F 1), QV (iv c.Irq), QV (elemP K (c.Irq.toNat * 1)), QV (.bool ar), QV (.bool (!ar)), fun f v s => v = undef ∧ s = (BK B 32 [SL D a.Routes C, SL x a.Enabled z, SL y (a.Raised.set c.Irq.toNat true) A, SL m a.Cpus n]), QV (iv (-1))] [] [7, 8, 9] [8] eg (AC ?_ (AC ?_ (AC ?_ (AC ?_ (AC ?_ (AC ?_ (AC ?_ (AC ?_ (AC ?_ (AC ?_ AN)))))))))) ?_)
  ·intro ai ap R gm cq
   exact OV ⟨rfl, rfl⟩ (eL true 4 0 (cq.blk 7 rfl)) cq
  ·intro ai ap R gn eh
   exact OM ⟨rfl, rfl⟩ eh
  ·rintro ai ap v1_ ⟨rfl, _⟩ R go cr
   exact OV ⟨rfl, rfl⟩ (eL false 1 2 (cr.blk 0 rfl)) cr
  ·intro ai ap R gp ei
   exact OM ⟨rfl, rfl⟩ ei
  ·rintro ai ap v3_ ⟨rfl, _⟩ R gq ct
   exact OV ⟨rfl, rfl⟩ (eL false 1 1 (ct.blk 1 rfl)) ct
  ·rintro ai ap v2_ ⟨rfl, _⟩
   rintro v4_ ⟨rfl, _⟩ R gr cu
   exact OV ⟨rfl, rfl⟩ (eI (b7.mem0 cu) rfl dl) cu
  ·rintro ai ap v5_ ⟨rfl, _⟩ R gs cv
   exact OV ⟨rfl, rfl⟩ (eE false 1 0 (c.Irq.toNat * 1) (b7.mem0 cv) dl) cv
  ·rintro ai ap v6_ ⟨rfl, _⟩ R gt ej
   exact OM ⟨rfl, rfl⟩ ej
  ·rintro ai ap v0_ ⟨rfl, _⟩ R hl ek
   exact wS true 4 0 (.agg #[SL D a.Routes C, SL x a.Enabled z, SL y (a.Raised.set c.Irq.toNat true) A, SL m a.Cpus n]) 8 [SL D a.Routes C, SL x a.Enabled z, SL y (a.Raised.set c.Irq.toNat true) A, SL m a.Cpus n] ek rfl fun hn el => WN (ob_none (BK B 32 [SL D a.Routes C, SL x a.Enabled z, SL y (a.Raised.set c.Irq.toNat true) A, SL m a.Cpus n]) rfl ⟨rfl, by kernel_rfl⟩ el)
  ·intro ai ap R gu em
   exact OM ⟨rfl, rfl⟩ em
  rintro ai ap v7_ ⟨rfl, _⟩ v8_ hb8_
  obtain ⟨rfl, hs8_⟩ := hb8_
  replace hs8_ := hs8_.trans (show _ = (BK B 32 [SL D a.Routes C, SL x a.Enabled z, SL y (a.Raised.set c.Irq.toNat true) A, SL m a.Cpus n]) by kernel_rfl)
  rintro v9_ ⟨rfl, _⟩ d2 en
  have cf : Mem [] w d2 [(BK N 32 [SL W q.Routes U, SL X q.Enabled V, SL K q.Raised P, SL O q.Cpus Q]), (BK F 51 [iv c.Kind, iv c.Irq, iv c.Cpu, iv c.Value]), Y, Z, ce, bl, aq, (BK G 32 [SL D a.Routes C, SL x a.Enabled z, SL y (a.Raised.set c.Irq.toNat true) A, SL m a.Cpus n]), (ai 8)] := en
  rw [hs8_] at cf
  refine MW 1 (NC (BR (TR ?_)))
  obtain rfl := HS hm
  exact N_ret [.agg #[SL D a.Routes C, SL x a.Enabled z, SL y (a.Raised.set c.Irq.toNat true) A, SL m a.Cpus n], iv (-1), .bool (!ar)] (RX true 4 0 (cf.blk 8 rfl) (rC (rC RVs_nil))) (⟨D, C, Y, x, z, Z, y, A, ce, m, n, bl, aq, rfl, (fun _ => bu), (fun _ => bd), (fun _ => ff), (fun _ => bf), cf.pk [2, 3, 4, 5, 6]⟩)
 refine QA (MW 2 (NO (GT hm (fun ch hm => ?_) fun ch hm => ?_)))
 ·refine QA (wV (.agg #[SL W q.Routes U, SL X q.Enabled V, SL K q.Raised P, SL O q.Cpus Q]) I (eL true 4 0 (J.blk 0 rfl)) (GD hm fun T f1 hm => WC ((c_s_l21Sync I q W U (dc.mem0 J) X V (dd.mem0 J) K P (b7.mem0 J) O Q (b8.mem0 J) f1).mono ?_)))
  rintro e_ ho ⟨az, av, gg, a0, aw, gh, a3, ax, gi, a4, ay, gj, gk, rfl, fg, fh, fi, fj, d6⟩
  have eo := J.call d6
  refine ⟨_, rfl, ?_⟩
  refine wS true 4 0 (.agg #[SL az T.Routes av, SL a0 T.Enabled aw, SL a3 T.Raised ax, SL a4 T.Cpus ay]) 2 [SL az T.Routes av, SL a0 T.Enabled aw, SL a3 T.Raised ax, SL a4 T.Cpus ay] eo rfl fun gv cw => MW 2 (NC (BR (TR ?_)))
  obtain rfl := HS hm
  exact N_ret [.agg #[SL az T.Routes av, SL a0 T.Enabled aw, SL a3 T.Raised ax, SL a4 T.Cpus ay], iv (-1), .bool true] (RX true 4 0 (cw.blk 2 rfl) (rC (rC RVs_nil))) (⟨az, av, gg, a0, aw, gh, a3, ax, gi, a4, ay, gj, gk, rfl, (fun _ => fg), (fun _ => fh), (fun _ => fi), (fun _ => fj), cw.pk [9, 10, 11, 12, 13]⟩)
 refine QA (MW 2 (NO (GT hm (fun ci hm => ?_) fun ci hm => ?_)))
 ·refine QA (MW 1 (wV (SL O q.Cpus Q) I (eL false 1 3 (J.blk 0 rfl)) (wR 1 [(3, pB F 0), (4, pB B 0), (7, pB G 0), (40, SL O q.Cpus Q), (41, pB F 2)] I (wV (iv c.Cpu) I (eL false 1 2 (J.blk 1 rfl)) (GD hm fun aa f7 hm => ?_)))))
  obtain ⟨hu, dn, df, cl⟩ := id b8
  obtain ⟨S, bs⟩ := gxIdx_fst dn f7
  refine wV (elemP O (c.Cpu.toNat * 4)) I (eI (df.mem0 J) (len_fst dn) bs) (wV (.agg #[iv aa.Mask, SL ((S 0).1) aa.Stack ((S 0).2), SL ((S 1).1) aa.Queue.Slots ((S 1).2), SL ((S 2).1) aa.Queue.Waiting ((S 2).2)]) I (eE true 4 0 (c.Cpu.toNat * 4) (df.mem0 J) bs) (GD hm fun d f2 hm => WC ((c_s_l10Take I aa ((S 0).1) ((S 0).2) ((cl.mem0 J).a_ bs 0) ((S 1).1) ((S 1).2) ((cl.mem0 J).a_ bs 1) ((S 2).1) ((S 2).2) ((cl.mem0 J).a_ bs 2) f2).mono ?_)))
  rintro e_ gw ⟨aj, ac, bv, ak, ad, bw, al, ae, bx, rfl, fk, fl, fm, d7⟩
  have ep := J.call d7
  refine ⟨_, rfl, ?_⟩
  refine MW 3 (wN (CE 87 [iv 0, SN, SN, SN]) ep fun a9 hp er => wS true 4 0 (.agg #[iv d.1.Mask, SL aj d.1.Stack ac, SL ak d.1.Queue.Slots ad, SL al d.1.Queue.Waiting ae]) 12 [iv d.1.Mask, SL aj d.1.Stack ac, SL ak d.1.Queue.Slots ad, SL al d.1.Queue.Waiting ae] er rfl fun a5 bn => MW 1 (NA (MW 1 (wV (SL m a.Cpus n) a5 (eL false 1 3 (bn.blk 8 rfl)) (MW 1 (wV (iv c.Cpu) a5 (eL false 1 2 (bn.blk 1 rfl)) (wV (.agg #[iv d.1.Mask, SL aj d.1.Stack ac, SL ak d.1.Queue.Slots ad, SL al d.1.Queue.Waiting ae]) a5 (eL true 4 0 (bn.blk 12 rfl)) (GD hm fun g5 f8 hm => ?_))))))))
  obtain ⟨hv, cc, dg, fc⟩ := id bf
  obtain ⟨e8, b9⟩ := gxIdx_fst cc f8
  refine wV (elemP m (c.Cpu.toNat * 4)) a5 (eI (dg.r bn 6) (len_fst cc) b9) ?_
  obtain ⟨bh, ge, bj, f5, ha, fy⟩ := fc.lens (gxIdx_spec b9).2
  have es := bn.cut 7 (sa := bh) (sb := ge) (sc := bj) f5 (by kernel_rfl)
  refine wE true 4 c.Cpu.toNat 0 (c.Cpu.toNat * 4) (g5, e8) (d.1, (plOf [(aj, ac), (ak, ad), (al, ae)])) (.agg #[iv d.1.Mask, SL aj d.1.Stack ac, SL ak d.1.Queue.Slots ad, SL al d.1.Queue.Waiting ae]) 6 es dg (gxIdx_spec b9).2 ?_
  intro b4 bz fn et
  have eu : Mem [] w b4 [(BK N 32 [SL W q.Routes U, SL X q.Enabled V, SL K q.Raised P, SL O q.Cpus Q]), (BK F 51 [iv c.Kind, iv c.Irq, iv c.Cpu, iv c.Value]), (BK B 32 [SN, SN, SN, SN]), Y, Z, ab, bz, (BK G 32 [SL D a.Routes C, SL x a.Enabled z, SL y a.Raised A, SL m a.Cpus n]), (BK a9 87 [iv d.1.Mask, SL aj d.1.Stack ac, SL ak d.1.Queue.Slots ad, SL al d.1.Queue.Waiting ae]), bh, bv, bw, bx, bj] := et.pk [0, 1, 2, 3, 4, 5, 6, 8, 12, 7, 9, 10, 11, 14]
  have ev : Mem [] w b4 [(BK N 32 [SL W q.Routes U, SL X q.Enabled V, SL K q.Raised P, SL O q.Cpus Q]), (BK F 51 [iv c.Kind, iv c.Irq, iv c.Cpu, iv c.Value]), (BK B 32 [SN, SN, SN, SN]), Y, Z, ab, bz, (BK G 32 [SL D a.Routes C, SL x a.Enabled z, SL y a.Raised A, SL m a.Cpus n]), (BK a9 87 [iv d.1.Mask, SL aj d.1.Stack ac, SL ak d.1.Queue.Slots ad, SL al d.1.Queue.Waiting ae]), (bh ++ ((bv ++ (bw ++ (bx ++ []))) ++ bj))] := eu.regroup (by simp)
  have fo : ownD deepInterface (a.Cpus.set c.Cpu.toNat d.1) m n bz (bh ++ ((bv ++ (bw ++ (bx ++ []))) ++ bj)) := ⟨_, set_fst cc c.Cpu.toNat (d.1, (plOf [(aj, ac), (ak, ad), (al, ae)])), fn, (fy (d.1, (plOf [(aj, ac), (ak, ad), (al, ae)])) _ (ownI_cons (i := ⟨Int, Gx.encI, _, _, _⟩) fk (ownI_cons (i := ⟨Slot, encSlot, _, _, _⟩) fl (ownI_cons (i := ⟨Waiter, encWaiter, _, _, _⟩) fm ownI_nil))))⟩
  have he := gxIdx_put d.1 (gxIdx_down cc b9)
  refine LX 49 m n a.Cpus c.Cpu.toNat d.1 ?_
  have cx : Mem [] w b4 [(BK N 32 [.slice W q.Routes.length U, .slice X q.Enabled.length V, .slice K q.Raised.length P, .slice O q.Cpus.length Q]), (BK F 51 [iv c.Kind, iv c.Irq, iv c.Cpu, iv c.Value]), (BK B 32 [.slice none 0 0, .slice none 0 0, .slice none 0 0, .slice none 0 0]), Y, Z, ab, bz, (BK G 32 [.slice D a.Routes.length C, .slice x a.Enabled.length z, .slice y a.Raised.length A, .slice m (a.Cpus.set c.Cpu.toNat d.1).length n]), (BK a9 87 [iv d.1.Mask, .slice aj d.1.Stack.length ac, .slice ak d.1.Queue.Slots.length ad, .slice al d.1.Queue.Waiting.length ae]), (bh ++ ((bv ++ (bw ++ (bx ++ []))) ++ bj))] := by rw [@List.length_set _ a.Cpus c.Cpu.toNat d.1]; exact ev
  refine NA (wV (.agg #[SL D a.Routes C, SL x a.Enabled z, SL y a.Raised A, SL m (a.Cpus.set c.Cpu.toNat d.1) n]) b4 (eL true 4 0 (cx.blk 7 rfl)) (MW 3 (wS true 4 0 (.agg #[SL D a.Routes C, SL x a.Enabled z, SL y a.Raised A, SL m (a.Cpus.set c.Cpu.toNat d.1) n]) 2 [SL D a.Routes C, SL x a.Enabled z, SL y a.Raised A, SL m (a.Cpus.set c.Cpu.toNat d.1) n] cx rfl fun gx cy => MW 2 (NC (BR (TR ?_))))))
  obtain rfl := HS hm
  exact N_ret [.agg #[SL D a.Routes C, SL x a.Enabled z, SL y a.Raised A, SL m (a.Cpus.set c.Cpu.toNat d.1) n], iv d.2, .bool (decide (d.2 ≥ 0))] (RX true 4 0 (cy.blk 2 rfl) (rC (rC RVs_nil))) (⟨D, C, Y, x, z, Z, y, A, ab, m, n, bz, (bh ++ ((bv ++ (bw ++ (bx ++ []))) ++ bj)), rfl, (fun _ => bu), (fun _ => bd), (fun _ => be), (fun _ => fo), cy.pk [3, 4, 5, 6, 9]⟩)
 refine QA (MW 2 (NO (GT hm (fun cj hm => ?_) fun cj hm => ?_)))
 ·refine QA (MW 1 (wV (SL O q.Cpus Q) I (eL false 1 3 (J.blk 0 rfl)) (MW 1 (wV (iv c.Cpu) I (eL false 1 2 (J.blk 1 rfl)) (GD hm fun u f9 hm => ?_)))))
  obtain ⟨hw, dp, dh, bc⟩ := id b8
  obtain ⟨t, au⟩ := gxIdx_fst dp f9
  refine wV (elemP O (c.Cpu.toNat * 4)) I (eI (dh.mem0 J) (len_fst dp) au) (wV (.agg #[iv u.Mask, SL ((t 0).1) u.Stack ((t 0).2), SL ((t 1).1) u.Queue.Slots ((t 1).2), SL ((t 2).1) u.Queue.Waiting ((t 2).2)]) I (eE true 4 0 (c.Cpu.toNat * 4) (dh.mem0 J) au) ?_)
  rcases gx_alt hm with ⟨L, f3, hm⟩ | hm
  ·refine WD (c_s_l10Leave__k I u ((t 0).1) ((t 0).2) ((bc.mem0 J).a_ au 0) ((t 1).1) ((t 1).2) ((bc.mem0 J).a_ au 1) ((t 2).1) ((t 2).2) ((bc.mem0 J).a_ au 2) f3) J fun gy ew => MW 3 (wN (CE 87 [iv 0, SN, SN, SN]) ew fun b6 hq ex => wS true 4 0 (.agg #[iv L.1.Mask, SL ((t 0).1) u.Stack ((t 0).2), SL ((t 1).1) u.Queue.Slots ((t 1).2), SL ((t 2).1) u.Queue.Waiting ((t 2).2)]) 9 [iv L.1.Mask, SL ((t 0).1) u.Stack ((t 0).2), SL ((t 1).1) u.Queue.Slots ((t 1).2), SL ((t 2).1) u.Queue.Waiting ((t 2).2)] ex rfl fun a6 bo => MW 1 (NA (MW 1 (wV (SL m a.Cpus n) a6 (eL false 1 3 (bo.blk 8 rfl)) (wR 1 [(4, pB B 0), (7, pB G 0), (10, pB b6 0), (11, iv L.2), (71, SL m a.Cpus n), (72, pB F 2)] a6 (wV (iv c.Cpu) a6 (eL false 1 2 (bo.blk 1 rfl)) (wV (.agg #[iv L.1.Mask, SL ((t 0).1) u.Stack ((t 0).2), SL ((t 1).1) u.Queue.Slots ((t 1).2), SL ((t 2).1) u.Queue.Waiting ((t 2).2)]) a6 (eL true 4 0 (bo.blk 9 rfl)) (GD hm fun g6 ga hm => ?_))))))))
   obtain ⟨hx, dq, di, hc⟩ := id bf
   obtain ⟨e9, de⟩ := gxIdx_fst dq ga
   refine wV (elemP m (c.Cpu.toNat * 4)) a6 (eI (di.r bo 6) (len_fst dq) de) (wE true 4 c.Cpu.toNat 0 (c.Cpu.toNat * 4) (g6, e9) ((⟨L.1.Mask, u.Stack, u.Queue⟩ : Interface), (plOf [((t 0).1, (t 0).2), ((t 1).1, (t 1).2), ((t 2).1, (t 2).2)])) (.agg #[iv L.1.Mask, SL ((t 0).1) u.Stack ((t 0).2), SL ((t 1).1) u.Queue.Slots ((t 1).2), SL ((t 2).1) u.Queue.Waiting ((t 2).2)]) 6 bo di (gxIdx_spec de).2 fun co gl hd ey => LX 71 m n a.Cpus c.Cpu.toNat (⟨L.1.Mask, u.Stack, u.Queue⟩ : Interface) ?_)
   have cz : Mem [] w co [(BK N 32 [.slice W q.Routes.length U, .slice X q.Enabled.length V, .slice K q.Raised.length P, .slice O q.Cpus.length Q]), (BK F 51 [iv c.Kind, iv c.Irq, iv c.Cpu, iv c.Value]), (BK B 32 [.slice none 0 0, .slice none 0 0, .slice none 0 0, .slice none 0 0]), Y, Z, ab, gl, aq, (BK G 32 [.slice D a.Routes.length C, .slice x a.Enabled.length z, .slice y a.Raised.length A, .slice m (a.Cpus.set c.Cpu.toNat (⟨L.1.Mask, u.Stack, u.Queue⟩ : Interface)).length n]), (BK b6 87 [iv L.1.Mask, .slice ((t 0).1) u.Stack.length ((t 0).2), .slice ((t 1).1) u.Queue.Slots.length ((t 1).2), .slice ((t 2).1) u.Queue.Waiting.length ((t 2).2)])] := by rw [@List.length_set _ a.Cpus c.Cpu.toNat (⟨L.1.Mask, u.Stack, u.Queue⟩ : Interface)]; exact ey
   refine NA (wV (.agg #[SL D a.Routes C, SL x a.Enabled z, SL y a.Raised A, SL m (a.Cpus.set c.Cpu.toNat (⟨L.1.Mask, u.Stack, u.Queue⟩ : Interface)) n]) co (eL true 4 0 (cz.blk 8 rfl)) (MW 3 (wS true 4 0 (.agg #[SL D a.Routes C, SL x a.Enabled z, SL y a.Raised A, SL m (a.Cpus.set c.Cpu.toNat (⟨L.1.Mask, u.Stack, u.Queue⟩ : Interface)) n]) 2 [SL D a.Routes C, SL x a.Enabled z, SL y a.Raised A, SL m (a.Cpus.set c.Cpu.toNat (⟨L.1.Mask, u.Stack, u.Queue⟩ : Interface)) n] cz rfl fun gz c0 => MW 2 (NC (BR (TR ?_))))))
   rcases gx_bif hm with ⟨br, hm⟩ | ⟨br, hm⟩
   ·cases hm
   obtain rfl := HS hm
   exact N_ret [.agg #[SL D a.Routes C, SL x a.Enabled z, SL y a.Raised A, SL m (a.Cpus.set c.Cpu.toNat (⟨L.1.Mask, u.Stack, u.Queue⟩ : Interface)) n], iv L.2, .bool (decide (L.2 ≥ 0))] (RX true 4 0 (c0.blk 2 rfl) (rC (rC RVs_nil))) (⟨D, C, [], x, z, [], y, A, [], m, n, [], [], rfl, (fun h_ => Bool.noConfusion (br.symm.trans h_)), (fun h_ => Bool.noConfusion (br.symm.trans h_)), (fun h_ => Bool.noConfusion (br.symm.trans h_)), (fun h_ => Bool.noConfusion (br.symm.trans h_)), c0.pk [100000, 100001, 100002, 100003, 100004]⟩)
  refine GD hm fun l f4 hm => WC ((c_s_l10Leave I u ((t 0).1) ((t 0).2) ((bc.mem0 J).a_ au 0) ((t 1).1) ((t 1).2) ((bc.mem0 J).a_ au 1) ((t 2).1) ((t 2).2) ((bc.mem0 J).a_ au 2) f4).mono ?_)
  rintro e_ g0 ⟨am, af, b0, an, ag, b1, ao, ah, b2, rfl, fp, fq, fs, d9⟩
  have ez := J.call d9
  refine ⟨_, rfl, ?_⟩
  refine MW 3 (wN (CE 87 [iv 0, SN, SN, SN]) ez fun ba hr e0 => wS true 4 0 (.agg #[iv l.1.Mask, SL am l.1.Stack af, SL an l.1.Queue.Slots ag, SL ao l.1.Queue.Waiting ah]) 12 [iv l.1.Mask, SL am l.1.Stack af, SL an l.1.Queue.Slots ag, SL ao l.1.Queue.Waiting ah] e0 rfl fun a7 bp => MW 1 (NA (MW 1 (wV (SL m a.Cpus n) a7 (eL false 1 3 (bp.blk 8 rfl)) (MW 1 (wV (iv c.Cpu) a7 (eL false 1 2 (bp.blk 1 rfl)) (wV (.agg #[iv l.1.Mask, SL am l.1.Stack af, SL an l.1.Queue.Slots ag, SL ao l.1.Queue.Waiting ah]) a7 (eL true 4 0 (bp.blk 12 rfl)) (GD hm fun g7 gb hm => ?_))))))))
  obtain ⟨hy, cd, dj, fd⟩ := id bf
  obtain ⟨fa, ca⟩ := gxIdx_fst cd gb
  refine wV (elemP m (c.Cpu.toNat * 4)) a7 (eI (dj.r bp 6) (len_fst cd) ca) ?_
  obtain ⟨bi, gf, bk, f6, hb, fz⟩ := fd.lens (gxIdx_spec ca).2
  have e1 := bp.cut 7 (sa := bi) (sb := gf) (sc := bk) f6 (by kernel_rfl)
  refine wE true 4 c.Cpu.toNat 0 (c.Cpu.toNat * 4) (g7, fa) (l.1, (plOf [(am, af), (an, ag), (ao, ah)])) (.agg #[iv l.1.Mask, SL am l.1.Stack af, SL an l.1.Queue.Slots ag, SL ao l.1.Queue.Waiting ah]) 6 e1 dj (gxIdx_spec ca).2 ?_
  intro b5 b3 ft e2
  have e3 : Mem [] w b5 [(BK N 32 [SL W q.Routes U, SL X q.Enabled V, SL K q.Raised P, SL O q.Cpus Q]), (BK F 51 [iv c.Kind, iv c.Irq, iv c.Cpu, iv c.Value]), (BK B 32 [SN, SN, SN, SN]), Y, Z, ab, b3, (BK G 32 [SL D a.Routes C, SL x a.Enabled z, SL y a.Raised A, SL m a.Cpus n]), (BK ba 87 [iv l.1.Mask, SL am l.1.Stack af, SL an l.1.Queue.Slots ag, SL ao l.1.Queue.Waiting ah]), bi, b0, b1, b2, bk] := e2.pk [0, 1, 2, 3, 4, 5, 6, 8, 12, 7, 9, 10, 11, 14]
  have e4 : Mem [] w b5 [(BK N 32 [SL W q.Routes U, SL X q.Enabled V, SL K q.Raised P, SL O q.Cpus Q]), (BK F 51 [iv c.Kind, iv c.Irq, iv c.Cpu, iv c.Value]), (BK B 32 [SN, SN, SN, SN]), Y, Z, ab, b3, (BK G 32 [SL D a.Routes C, SL x a.Enabled z, SL y a.Raised A, SL m a.Cpus n]), (BK ba 87 [iv l.1.Mask, SL am l.1.Stack af, SL an l.1.Queue.Slots ag, SL ao l.1.Queue.Waiting ah]), (bi ++ ((b0 ++ (b1 ++ (b2 ++ []))) ++ bk))] := e3.regroup (by simp)
  have fu : ownD deepInterface (a.Cpus.set c.Cpu.toNat l.1) m n b3 (bi ++ ((b0 ++ (b1 ++ (b2 ++ []))) ++ bk)) := ⟨_, set_fst cd c.Cpu.toNat (l.1, (plOf [(am, af), (an, ag), (ao, ah)])), ft, (fz (l.1, (plOf [(am, af), (an, ag), (ao, ah)])) _ (ownI_cons (i := ⟨Int, Gx.encI, _, _, _⟩) fp (ownI_cons (i := ⟨Slot, encSlot, _, _, _⟩) fq (ownI_cons (i := ⟨Waiter, encWaiter, _, _, _⟩) fs ownI_nil))))⟩
  have hf := gxIdx_put l.1 (gxIdx_down cd ca)
  refine LX 71 m n a.Cpus c.Cpu.toNat l.1 ?_
  have c1 : Mem [] w b5 [(BK N 32 [.slice W q.Routes.length U, .slice X q.Enabled.length V, .slice K q.Raised.length P, .slice O q.Cpus.length Q]), (BK F 51 [iv c.Kind, iv c.Irq, iv c.Cpu, iv c.Value]), (BK B 32 [.slice none 0 0, .slice none 0 0, .slice none 0 0, .slice none 0 0]), Y, Z, ab, b3, (BK G 32 [.slice D a.Routes.length C, .slice x a.Enabled.length z, .slice y a.Raised.length A, .slice m (a.Cpus.set c.Cpu.toNat l.1).length n]), (BK ba 87 [iv l.1.Mask, .slice am l.1.Stack.length af, .slice an l.1.Queue.Slots.length ag, .slice ao l.1.Queue.Waiting.length ah]), (bi ++ ((b0 ++ (b1 ++ (b2 ++ []))) ++ bk))] := by rw [@List.length_set _ a.Cpus c.Cpu.toNat l.1]; exact e4
  refine NA (wV (.agg #[SL D a.Routes C, SL x a.Enabled z, SL y a.Raised A, SL m (a.Cpus.set c.Cpu.toNat l.1) n]) b5 (eL true 4 0 (c1.blk 7 rfl)) (MW 3 (wS true 4 0 (.agg #[SL D a.Routes C, SL x a.Enabled z, SL y a.Raised A, SL m (a.Cpus.set c.Cpu.toNat l.1) n]) 2 [SL D a.Routes C, SL x a.Enabled z, SL y a.Raised A, SL m (a.Cpus.set c.Cpu.toNat l.1) n] c1 rfl fun g1 c2 => wR 2 [(4, pB B 0), (5, iv l.2), (6, .bool (decide (l.2 ≥ 0)))] g1 (NC (BR (TR ?_))))))
  obtain rfl := HS hm
  exact N_ret [.agg #[SL D a.Routes C, SL x a.Enabled z, SL y a.Raised A, SL m (a.Cpus.set c.Cpu.toNat l.1) n], iv l.2, .bool (decide (l.2 ≥ 0))] (RX true 4 0 (c2.blk 2 rfl) (rC (rC RVs_nil))) (⟨D, C, Y, x, z, Z, y, A, ab, m, n, b3, (bi ++ ((b0 ++ (b1 ++ (b2 ++ []))) ++ bk)), rfl, (fun _ => bu), (fun _ => bd), (fun _ => be), (fun _ => fu), c2.pk [3, 4, 5, 6, 9]⟩)
 refine QA (MW 2 (NO (GT hm (fun ck hm => ?_) fun ck hm => ?_)))
 ·refine QA (MW 1 (wV (SL m a.Cpus n) I (eL false 1 3 (J.blk 8 rfl)) (MW 1 (wV (iv c.Cpu) I (eL false 1 2 (J.blk 1 rfl)) (GD hm fun E gc hm => ?_)))))
  obtain ⟨hz, bg, cb, fe⟩ := id bf
  obtain ⟨H, bt⟩ := gxIdx_fst bg gc
  refine wV (elemP m (c.Cpu.toNat * 4)) I (eI (cb.r J 6) (len_fst bg) bt) (wV (.agg #[iv E.Mask, SL ((H 0).1) E.Stack ((H 0).2), SL ((H 1).1) E.Queue.Slots ((H 1).2), SL ((H 2).1) E.Queue.Waiting ((H 2).2)]) I (eE true 4 0 (c.Cpu.toNat * 4) (cb.r J 6) bt) (wN (CE 87 [iv 0, SN, SN, SN]) J fun bb hs e5 => wS true 4 0 (.agg #[iv E.Mask, SL ((H 0).1) E.Stack ((H 0).2), SL ((H 1).1) E.Queue.Slots ((H 1).2), SL ((H 2).1) E.Queue.Waiting ((H 2).2)]) 9 [iv E.Mask, SL ((H 0).1) E.Stack ((H 0).2), SL ((H 1).1) E.Queue.Slots ((H 1).2), SL ((H 2).1) E.Queue.Waiting ((H 2).2)] e5 rfl fun cp c3 => NA (MW 1 (wV (iv c.Value) cp (eL false 1 3 (c3.blk 1 rfl)) (MW 1 (wS false 1 0 (iv c.Value) 9 [iv c.Value, SL ((H 0).1) E.Stack ((H 0).2), SL ((H 1).1) E.Queue.Slots ((H 1).2), SL ((H 2).1) E.Queue.Waiting ((H 2).2)] c3 rfl fun bm bq => NA (MW 1 (wV (SL m a.Cpus n) bm (eL false 1 3 (bq.blk 8 rfl)) (MW 1 (wV (iv c.Cpu) bm (eL false 1 2 (bq.blk 1 rfl)) (wV (.agg #[iv c.Value, SL ((H 0).1) E.Stack ((H 0).2), SL ((H 1).1) E.Queue.Slots ((H 1).2), SL ((H 2).1) E.Queue.Waiting ((H 2).2)]) bm (eL true 4 0 (bq.blk 9 rfl)) (GD hm fun ht gd hm => ?_))))))))))))
  obtain ⟨g9, fb⟩ := gxIdx_fst bg gd
  refine wV (elemP m (c.Cpu.toNat * 4)) bm (eI (cb.r bq 6) (len_fst bg) fb) (wE true 4 c.Cpu.toNat 0 (c.Cpu.toNat * 4) (E, H) ((⟨c.Value, E.Stack, E.Queue⟩ : Interface), H) (.agg #[iv c.Value, SL ((H 0).1) E.Stack ((H 0).2), SL ((H 1).1) E.Queue.Slots ((H 1).2), SL ((H 2).1) E.Queue.Waiting ((H 2).2)]) 6 bq cb (gxIdx_spec bt).2 ?_)
  intro d3 cm fv e6
  have fw : ownD deepInterface (a.Cpus.set c.Cpu.toNat (⟨c.Value, E.Stack, E.Queue⟩ : Interface)) m n cm aq := ⟨_, set_fst bg c.Cpu.toNat ((⟨c.Value, E.Stack, E.Queue⟩ : Interface), H), fv, (by rw [flatMap_setSame (gxIdx_spec bt).2 (by kernel_rfl)]; exact fe)⟩
  have hg := gxIdx_put (⟨c.Value, E.Stack, E.Queue⟩ : Interface) (gxIdx_down bg bt)
  refine LX 92 m n a.Cpus c.Cpu.toNat (⟨c.Value, E.Stack, E.Queue⟩ : Interface) ?_
  have c4 : Mem [] w d3 [(BK N 32 [.slice W q.Routes.length U, .slice X q.Enabled.length V, .slice K q.Raised.length P, .slice O q.Cpus.length Q]), (BK F 51 [iv c.Kind, iv c.Irq, iv c.Cpu, iv c.Value]), (BK B 32 [.slice none 0 0, .slice none 0 0, .slice none 0 0, .slice none 0 0]), Y, Z, ab, cm, aq, (BK G 32 [.slice D a.Routes.length C, .slice x a.Enabled.length z, .slice y a.Raised.length A, .slice m (a.Cpus.set c.Cpu.toNat (⟨c.Value, E.Stack, E.Queue⟩ : Interface)).length n]), (BK bb 87 [iv c.Value, .slice ((H 0).1) E.Stack.length ((H 0).2), .slice ((H 1).1) E.Queue.Slots.length ((H 1).2), .slice ((H 2).1) E.Queue.Waiting.length ((H 2).2)])] := by rw [@List.length_set _ a.Cpus c.Cpu.toNat (⟨c.Value, E.Stack, E.Queue⟩ : Interface)]; exact e6
  refine NA (wV (.agg #[SL D a.Routes C, SL x a.Enabled z, SL y a.Raised A, SL m (a.Cpus.set c.Cpu.toNat (⟨c.Value, E.Stack, E.Queue⟩ : Interface)) n]) d3 (eL true 4 0 (c4.blk 8 rfl)) (wS true 4 0 (.agg #[SL D a.Routes C, SL x a.Enabled z, SL y a.Raised A, SL m (a.Cpus.set c.Cpu.toNat (⟨c.Value, E.Stack, E.Queue⟩ : Interface)) n]) 2 [SL D a.Routes C, SL x a.Enabled z, SL y a.Raised A, SL m (a.Cpus.set c.Cpu.toNat (⟨c.Value, E.Stack, E.Queue⟩ : Interface)) n] c4 rfl fun g2 c5 => MW 2 (NC (BR (TR ?_)))))
  obtain rfl := HS hm
  exact N_ret [.agg #[SL D a.Routes C, SL x a.Enabled z, SL y a.Raised A, SL m (a.Cpus.set c.Cpu.toNat (⟨c.Value, E.Stack, E.Queue⟩ : Interface)) n], iv (-1), .bool true] (RX true 4 0 (c5.blk 2 rfl) (rC (rC RVs_nil))) (⟨D, C, Y, x, z, Z, y, A, ab, m, n, cm, aq, rfl, (fun _ => bu), (fun _ => bd), (fun _ => be), (fun _ => fw), c5.pk [3, 4, 5, 6, 7]⟩)
 refine GK (BN (NF (MW 1 (wV (SL x a.Enabled z) I (eL false 1 1 (J.blk 8 rfl)) (MW 1 (wV (iv c.Irq) I (eL false 1 1 (J.blk 1 rfl)) (MW 1 (wV (iv c.Value) I (eL false 1 3 (J.blk 1 rfl)) (MW 1 (GD hm fun g8 dm hm => wV (elemP x (c.Irq.toNat * 1)) I (eI (bd.r J 4) rfl dm) (wE false 1 c.Irq.toNat 0 (c.Irq.toNat * 1) g8 (c.Value == 1) (.bool (c.Value == 1)) 4 J bd (gxIdx_spec dm).2 fun d4 d0 fx e7 => LX 99 x z a.Enabled c.Irq.toNat (c.Value == 1) ?_)))))))))))
 have c6 : Mem [] w d4 [(BK N 32 [.slice W q.Routes.length U, .slice X q.Enabled.length V, .slice K q.Raised.length P, .slice O q.Cpus.length Q]), (BK F 51 [iv c.Kind, iv c.Irq, iv c.Cpu, iv c.Value]), (BK B 32 [.slice none 0 0, .slice none 0 0, .slice none 0 0, .slice none 0 0]), Y, d0, ab, bl, aq, (BK G 32 [.slice D a.Routes.length C, .slice x (a.Enabled.set c.Irq.toNat (c.Value == 1)).length z, .slice y a.Raised.length A, .slice m a.Cpus.length n])] := by rw [@List.length_set _ a.Enabled c.Irq.toNat (c.Value == 1)]; exact e7
 refine NA (wV (.agg #[SL D a.Routes C, SL x (a.Enabled.set c.Irq.toNat (c.Value == 1)) z, SL y a.Raised A, SL m a.Cpus n]) d4 (eL true 4 0 (c6.blk 8 rfl)) (wS true 4 0 (.agg #[SL D a.Routes C, SL x (a.Enabled.set c.Irq.toNat (c.Value == 1)) z, SL y a.Raised A, SL m a.Cpus n]) 2 [SL D a.Routes C, SL x (a.Enabled.set c.Irq.toNat (c.Value == 1)) z, SL y a.Raised A, SL m a.Cpus n] c6 rfl fun g3 c7 => wR 2 [(4, pB B 0), (5, iv (-1)), (6, .bool true)] g3 (NC ?_)))
 obtain rfl := HS hm
 exact N_ret [.agg #[SL D a.Routes C, SL x (a.Enabled.set c.Irq.toNat (c.Value == 1)) z, SL y a.Raised A, SL m a.Cpus n], iv (-1), .bool true] (RX true 4 0 (c7.blk 2 rfl) (rC (rC RVs_nil))) (⟨D, C, Y, x, z, d0, y, A, ab, m, n, bl, aq, rfl, (fun _ => bu), (fun _ => fx), (fun _ => be), (fun _ => bf), c7.pk [3, 4, 5, 6, 7]⟩)
theorem c_i_newQueue (w : World) (a : Queue) (y q) (aj : rdS encSlot w a.Slots y q) (z t) (ak : rdS encWaiter w a.Waiting z t) {r : Queue} (hm : M.i_newQueue a = some r) :
  Calls Tryz.prog 177 #[.agg #[SL y a.Slots q, SL z a.Waiting t]] w fun e w' => ∃ U S W V T X, e = .returned (.agg #[SL U r.Slots S, SL V r.Waiting T]) ∧ ownS encSlot r.Slots U S W ∧ ownS encWaiter r.Waiting V T X ∧ Mem [] w w' [W, X] := by
 unfold M.i_newQueue at hm
 refine cE Tryz.func177 ?_
 have M0 := Mem.refl [] w
 refine QA (wN (CE 85 [SL y a.Slots q, SL z a.Waiting t]) M0 fun m a0 Y => wN (CE 85 [SN, SN]) Y fun H a3 Z => NE (GD hm fun l al hm => GU [(0, .agg #[SL y a.Slots q, SL z a.Waiting t]), (1, pB m 0), (2, pB H 0)] (DL 7 [[],[],[1],[0,2],[],[],[5]] [[],[],[],[0],[],[],[]] (EM 7) (EM 7) (EM 7) (EM 7) (fun _ => []) [fun f v s => ∃ A u, v = (.slice A ([] : List Slot).length u : Value) ∧ ownS encSlot ([] : List Slot) A u s, QV (pB m 0), QV (.slice y a.Slots.length q), fun f v s => ∃ d c, v = (.slice d l.length c : Value) ∧ ownS encSlot l d c s, fun f v s => ∃ B x, v = (.slice B ([] : List Waiter).length x : Value) ∧ ownS encWaiter ([] : List Waiter) B x s, QV (pB m 1), QV (.slice z a.Waiting.length t)] [] [3, 4, 6] [3, 4] (Z.preNil 7) (AC ?_ (AC ?_ (AC ?_ (AC ?_ (AC ?_ (AC ?_ (AC ?_ AN))))))) ?_)))
 ·intro n G R a4 aa
  exact wL (E := encSlot) ([] : List Slot) 0 [] 117 aa fun A u ao a5 I ab => WN (oE (SL A ([] : List Slot) u) ao ⟨A, u, rfl, I⟩ (Mem.mid ab))
 ·intro n G R au ac
  exact OM ⟨rfl, rfl⟩ ac
 ·rintro n G v1_ ⟨rfl, _⟩ R av L
  exact OV ⟨rfl, rfl⟩ (eL false 1 0 (L.blk 0 rfl)) L
 ·intro n G v0_ hb0_
  obtain ⟨A, u, rfl, I⟩ := hb0_
  rintro v2_ ⟨rfl, _⟩ R a6 N
  exact wA 24 [iv 0, iv 0, iv 0] 3 N I (aj.mem0 N) al fun d c ap a7 J ad => WN (oE (SL d l c) ap ⟨d, c, rfl, J⟩ (Mem.takeOver ad))
 ·intro n G R a8 ae
  exact wL (E := encWaiter) ([] : List Waiter) 0 [] 142 ae fun B x aq a9 K af => WN (oE (SL B ([] : List Waiter) x) aq ⟨B, x, rfl, K⟩ (Mem.mid af))
 ·intro n G R aw ag
  exact OM ⟨rfl, rfl⟩ ag
 ·rintro n G v5_ ⟨rfl, _⟩ R ax O
  exact OV ⟨rfl, rfl⟩ (eL false 1 1 (O.blk 0 rfl)) O
 intro n G v3_ hb3_
 obtain ⟨d, c, rfl, J⟩ := hb3_
 intro v4_ hb4_
 obtain ⟨B, x, rfl, K⟩ := hb4_
 rintro v6_ ⟨rfl, _⟩ ay ah
 have P : Mem [] w ay [(BK m 85 [SL y a.Slots q, SL z a.Waiting t]), (BK H 85 [SN, SN]), (n 3), (n 4)] := ah
 refine GD hm fun F am hm => wA 16 [iv 0, iv 0] 3 P K (ak.mem0 P) am fun D C ar az an ai => MW 1 (wS true 2 0 (.agg #[SL d l c, SL D F C]) 1 [SL d l c, SL D F C] ai rfl fun ba Q => NC ?_)
 obtain rfl := HS hm
 exact N_ret [.agg #[SL d l c, SL D F C]] (RX true 2 0 (Q.blk 1 rfl) RVs_nil) (⟨d, c, (n 3), D, C, ar, rfl, J, an, Q.pk [2, 3]⟩)
theorem c_i_newInterface (w : World) (a : Interface) (B x) (an : rdS Gx.encI w a.Stack B x) (C y) (ao : rdS encSlot w a.Queue.Slots C y) (D z) (ap : rdS encWaiter w a.Queue.Waiting D z) {r : Interface} (hm : M.i_newInterface a = some r) :
  Calls Tryz.prog 135 #[.agg #[iv a.Mask, SL B a.Stack x, SL C a.Queue.Slots y, SL D a.Queue.Waiting z]] w fun e w' => ∃ Z W ac aa X ad ab Y ae, e = .returned (.agg #[iv r.Mask, SL Z r.Stack W, SL aa r.Queue.Slots X, SL ab r.Queue.Waiting Y]) ∧ ownS Gx.encI r.Stack Z W ac ∧ ownS encSlot r.Queue.Slots aa X ad ∧ ownS encWaiter r.Queue.Waiting ab Y ae ∧ Mem [] w w' [ac, ad, ae] := by
 unfold M.i_newInterface at hm
 refine cE Tryz.func135 ?_
 have M0 := Mem.refl [] w
 refine QA (wN (CE 87 [iv a.Mask, SL B a.Stack x, SL C a.Queue.Slots y, SL D a.Queue.Waiting z]) M0 fun u a5 ah => wN (CE 87 [iv 0, SN, SN, SN]) ah fun I a6 ai => NE (GD hm fun E aq hm => GD hm fun c ar hm => GU [(0, .agg #[iv a.Mask, SL B a.Stack x, SL C a.Queue.Slots y, SL D a.Queue.Waiting z]), (1, pB u 0), (2, pB I 0)] (DL 8 [[],[0],[],[2],[3],[],[5],[6]] (EM 8) (EM 8) (EM 8) (EM 8) (EM 8) (fun _ => []) [QV (pB u 0), QV (iv a.Mask), QV (pB u 1), QV (.slice B a.Stack.length x), fun f v s => ∃ n d, v = (.slice n E.length d : Value) ∧ ownS Gx.encI E n d s, QV (pB u 2), QV (.agg #[SL C a.Queue.Slots y, SL D a.Queue.Waiting z]), fun f v s => ∃ q l F t m G, v = (.agg #[SL q c.Slots l, SL t c.Waiting m] : Value) ∧ s = (F ++ G) ∧ ownS encSlot c.Slots q l F ∧ ownS encWaiter c.Waiting t m G] [] [1, 4, 7] [4, 7] (ai.preNil 8) (AC ?_ (AC ?_ (AC ?_ (AC ?_ (AC ?_ (AC ?_ (AC ?_ (AC ?_ AN)))))))) ?_)))
 ·intro A H R av aj
  exact OM ⟨rfl, rfl⟩ aj
 ·rintro A H v0_ ⟨rfl, _⟩ R aw Q
  exact OV ⟨rfl, rfl⟩ (eL false 1 0 (Q.blk 0 rfl)) Q
 ·intro A H R ax ak
  exact OM ⟨rfl, rfl⟩ ak
 ·rintro A H v2_ ⟨rfl, _⟩ R ay S
  exact OV ⟨rfl, rfl⟩ (eL false 1 1 (S.blk 0 rfl)) S
 ·rintro A H v3_ ⟨rfl, _⟩ R az T
  refine WC ((c_i_copyInts az a.Stack B x (an.mem0 T) aq).mono ?_)
  rintro e_ a7 ⟨n, d, au, rfl, L, af⟩
  refine ⟨_, rfl, ?_⟩
  exact WN (oE (SL n E d) au ⟨n, d, rfl, L⟩ (Mem.callMid T af))
 ·intro A H R a0 al
  exact OM ⟨rfl, rfl⟩ al
 ·rintro A H v5_ ⟨rfl, _⟩ R a3 U
  exact OV ⟨rfl, rfl⟩ (eL true 2 2 (U.blk 0 rfl)) U
 ·rintro A H v6_ ⟨rfl, _⟩ R a4 K
  refine WC ((c_i_newQueue a4 a.Queue C y (ao.mem0 K) D z (ap.mem0 K) ar).mono ?_)
  rintro e_ a8 ⟨q, l, F, t, m, G, rfl, N, O, ag⟩
  refine ⟨_, rfl, ?_⟩
  exact WN (oE (.agg #[SL q c.Slots l, SL t c.Waiting m]) (F ++ G) ⟨q, l, F, t, m, G, rfl, rfl, N, O⟩ (Mem.callMid K (ag.permF (by simp))))
 rintro A H v1_ ⟨rfl, _⟩ v4_ hb4_
 obtain ⟨n, d, rfl, L⟩ := hb4_
 intro v7_ hb7_
 obtain ⟨q, l, F, t, m, G, rfl, hs7_, N, O⟩ := hb7_
 intro P am
 have J : Mem [] w P [(BK u 87 [iv a.Mask, SL B a.Stack x, SL C a.Queue.Slots y, SL D a.Queue.Waiting z]), (BK I 87 [iv 0, SN, SN, SN]), (A 4), F, G] := am.permF (by simp [hs7_, SL])
 refine MW 1 (wS true 4 0 (.agg #[iv a.Mask, SL n E d, SL q c.Slots l, SL t c.Waiting m]) 1 [iv a.Mask, SL n E d, SL q c.Slots l, SL t c.Waiting m] J rfl fun a9 V => NC ?_)
 obtain rfl := HS hm
 exact N_ret [.agg #[iv a.Mask, SL n E d, SL q c.Slots l, SL t c.Waiting m]] (RX true 4 0 (V.blk 1 rfl) RVs_nil) (⟨n, d, (A 4), q, l, F, t, m, G, rfl, L, N, O, V.pk [2, 3, 4]⟩)
end Go.Proofs.YtllhajkgkghhdaaGreat
set_option linter.unusedVariables false
set_option linter.unusedSimpArgs false
set_option maxRecDepth 100000
set_option maxHeartbeats 4000000
namespace Go.Proofs.YtllhajkgkghhdaaGreat
open Go.Gx
theorem c_i_newMachine (w : World) (l : Machine) (am ai) (dq : rdS encRoute w l.Routes am ai) (an aj) (dr : rdS Gx.encB w l.Enabled an aj) (ao ak) (ds : rdS Gx.encB w l.Raised ao ak) (O S) (dt : rdD deepInterface w l.Cpus O S) {r : Machine} (hm : M.i_newMachine l = some r) :
  Calls Tryz.prog 78 #[.agg #[SL am l.Routes ai, SL an l.Enabled aj, SL ao l.Raised ak, SL O l.Cpus S]] w fun e w' => ∃ ch ca cl ci cb cm cj cc cn ck cd co cp, e = .returned (.agg #[SL ch r.Routes ca, SL ci r.Enabled cb, SL cj r.Raised cc, SL ck r.Cpus cd]) ∧ ownS encRoute r.Routes ch ca cl ∧ ownS Gx.encB r.Enabled ci cb cm ∧ ownS Gx.encB r.Raised cj cc cn ∧ ownD deepInterface r.Cpus ck cd co cp ∧ Mem [] w w' [cl, cm, cn, co, cp] := by
 unfold M.i_newMachine at hm
 refine cE Tryz.func78 ?_
 have M0 := Mem.refl [] w
 refine QA (wN (CE 32 [SL am l.Routes ai, SL an l.Enabled aj, SL ao l.Raised ak, SL O l.Cpus S]) M0 fun J ex cv => wN (CE 32 [SN, SN, SN, SN]) cv fun I ey cw => NE (GD hm fun C dw hm => GD hm fun F dx hm => GD hm fun G dy hm => GU [(0, .agg #[SL am l.Routes ai, SL an l.Enabled aj, SL ao l.Raised ak, SL O l.Cpus S]), (1, pB J 0), (2, pB I 0)] (DL 15 [[],[],[1],[0,2],[],[],[5],[4,6],[],[],[9],[8,10],[],[],[]] [[],[],[],[0],[],[],[],[4],[],[],[],[8],[],[],[]] (EM 15) [[],[],[],[],[],[],[],[],[],[],[],[],[],[3,7,11,12],[]] [[],[],[],[],[],[],[],[],[],[],[],[],[],[3,7,11,12],[]] (EM 15) (fun _ => []) [fun f v s => ∃ av ap, v = (.slice av ([] : List Route).length ap : Value) ∧ ownS encRoute ([] : List Route) av ap s, QV (pB J 0), QV (.slice am l.Routes.length ai), fun f v s => ∃ y t, v = (.slice y C.length t : Value) ∧ ownS encRoute C y t s, fun f v s => ∃ aw aq, v = (.slice aw ([] : List Bool).length aq : Value) ∧ ownS Gx.encB ([] : List Bool) aw aq s, QV (pB J 1), QV (.slice an l.Enabled.length aj), fun f v s => ∃ z u, v = (.slice z F.length u : Value) ∧ ownS Gx.encB F z u s, fun f v s => ∃ ax ar, v = (.slice ax ([] : List Bool).length ar : Value) ∧ ownS Gx.encB ([] : List Bool) ax ar s, QV (pB J 2), QV (.slice ao l.Raised.length ak), fun f v s => ∃ B x, v = (.slice B G.length x : Value) ∧ ownS Gx.encB G B x s, fun f v s => ∃ L K af az, v = (.slice L ([] : List Interface).length K : Value) ∧ s = (af ++ az) ∧ ownD deepInterface ([] : List Interface) L K af az, fun f v s => v = (.agg #[(atPath (f 3) []), (atPath (f 7) []), (atPath (f 11) []), (atPath (f 12) [])] : Value) ∧ s = [], fun f v s => ∃ q, v = (pB q 0 : Value) ∧ s = (BK q 32 [SN, SN, SN, SN])] [] [3, 7, 11, 12, 13, 14] [3, 7, 11, 12, 14] (cw.preNil 15) (AC ?_ (AC ?_ (AC ?_ (AC ?_ (AC ?_ (AC ?_ (AC ?_ (AC ?_ (AC ?_ (AC ?_ (AC ?_ (AC ?_ (AC ?_ (AC ?_ (AC ?_ AN))))))))))))))) ?_)))
 ·intro m N R ez cx
  exact wL (E := encRoute) ([] : List Route) 0 [] 129 cx fun av ap ea e0 bj cy => WN (oE (SL av ([] : List Route) ap) ea ⟨av, ap, rfl, bj⟩ (Mem.mid cy))
 ·intro m N R eg cz
  exact OM ⟨rfl, rfl⟩ cz
 ·rintro m N v1_ ⟨rfl, _⟩ R eh bz
  exact OV ⟨rfl, rfl⟩ (eL false 1 0 (bz.blk 0 rfl)) bz
 ·intro m N v0_ hb0_
  obtain ⟨av, ap, rfl, bj⟩ := hb0_
  rintro v2_ ⟨rfl, _⟩ R e1 b0
  exact wA 16 [iv 0, iv 0] 3 b0 bj (dq.mem0 b0) dw fun y t eb e2 bk c0 => WN (oE (SL y C t) eb ⟨y, t, rfl, bk⟩ (Mem.takeOver c0))
 ·intro m N R e3 c1
  exact wL (E := Gx.encB) ([] : List Bool) 0 [] 4 c1 fun aw aq ec e4 bl c2 => WN (oE (SL aw ([] : List Bool) aq) ec ⟨aw, aq, rfl, bl⟩ (Mem.mid c2))
 ·intro m N R ei c3
  exact OM ⟨rfl, rfl⟩ c3
 ·rintro m N v5_ ⟨rfl, _⟩ R ej b1
  exact OV ⟨rfl, rfl⟩ (eL false 1 1 (b1.blk 0 rfl)) b1
 ·intro m N v4_ hb4_
  obtain ⟨aw, aq, rfl, bl⟩ := hb4_
  rintro v6_ ⟨rfl, _⟩ R e5 b2
  exact wA 1 [.bool false] 3 b2 bl (dr.mem0 b2) dx fun z u ed e6 bm c4 => WN (oE (SL z F u) ed ⟨z, u, rfl, bm⟩ (Mem.takeOver c4))
 ·intro m N R e7 c5
  exact wL (E := Gx.encB) ([] : List Bool) 0 [] 4 c5 fun ax ar ee e8 bn c6 => WN (oE (SL ax ([] : List Bool) ar) ee ⟨ax, ar, rfl, bn⟩ (Mem.mid c6))
 ·intro m N R ek c7
  exact OM ⟨rfl, rfl⟩ c7
 ·rintro m N v9_ ⟨rfl, _⟩ R el b3
  exact OV ⟨rfl, rfl⟩ (eL false 1 2 (b3.blk 0 rfl)) b3
 ·intro m N v8_ hb8_
  obtain ⟨ax, ar, rfl, bn⟩ := hb8_
  rintro v10_ ⟨rfl, _⟩ R e9 b4
  exact wA 1 [.bool false] 3 b4 bn (ds.mem0 b4) dy fun B x ef fa bo c8 => WN (oE (SL B G x) ef ⟨B, x, rfl, bo⟩ (Mem.takeOver c8))
 ·intro m N R fb c9
  exact W_litD (D := deepInterface) (s1 := []) [] ([] : List Interface) rfl 0 [] 87 c9 (by kernel_rfl) (by kernel_rfl) (by kernel_rfl) (by kernel_rfl) (by kernel_rfl) ownI_nil fun L K af fc bp da => WN (oE (.slice L ([] : List Interface).length K) (af ++ []) ⟨L, K, af, [], rfl, rfl, bp⟩ (Mem.mid (by rw [List.append_nil]; exact da)))
 ·intro m N v3_ hb3_
  obtain ⟨_, y, t, rfl, _⟩ := hb3_
  intro v7_ hb7_
  obtain ⟨_, z, u, rfl, _⟩ := hb7_
  intro v11_ hb11_
  obtain ⟨_, B, x, rfl, _⟩ := hb11_
  intro v12_ hb12_
  obtain ⟨_, L, K, _, _, rfl, _⟩ := hb12_
  intro R em db
  exact OM ⟨rfl, rfl⟩ db
 ·intro m N R fd dc
  exact wN (CE 32 [SN, SN, SN, SN]) dc fun q fe dd => WN (oE (pB q 0) (BK q 32 [SN, SN, SN, SN]) ⟨q, rfl, rfl⟩ (Mem.mid dd))
 intro m N v3_ hb3_
 obtain ⟨y, t, rfl, bk⟩ := hb3_
 intro v7_ hb7_
 obtain ⟨z, u, rfl, bm⟩ := hb7_
 intro v11_ hb11_
 obtain ⟨B, x, rfl, bo⟩ := hb11_
 intro v12_ hb12_
 obtain ⟨L, K, af, az, rfl, hs12_, bp⟩ := hb12_
 intro v13_ hb13_
 obtain ⟨hv13_, _⟩ := hb13_
 obtain rfl : v13_ = (.agg #[SL y C t, SL z F u, SL B G x, SL L ([] : List Interface) K] : Value) := hv13_.trans (by kernel_rfl)
 intro v14_ hb14_
 obtain ⟨q, rfl, hs14_⟩ := hb14_
 intro cq de
 have a5 : Mem [] w cq [(BK J 32 [SL am l.Routes ai, SL an l.Enabled aj, SL ao l.Raised ak, SL O l.Cpus S]), (BK I 32 [SN, SN, SN, SN]), (m 3), (m 7), (m 11), af, az, (BK q 32 [SN, SN, SN, SN])] := de.permF (by simp [hs12_, hs14_, SL])
 refine wS true 4 0 (.agg #[SL y C t, SL z F u, SL B G x, SL L ([] : List Interface) K]) 7 [SL y C t, SL z F u, SL B G x, SL L ([] : List Interface) K] a5 rfl fun bv b5 => NB (MW 1 (wV (SL O l.Cpus S) bv (eL false 1 3 (b5.blk 0 rfl)) (MW 2 (NO (GD hm fun au d7 d1 => G_meet (fun a w' => ∃ ab X be bf, ownD deepInterface au ab X be bf ∧ Mem [] w w' [(BK I 32 [SN, SN, SN, SN]), (m 3), (m 7), (m 11), (BK q 32 [SL y C t, SL z F u, SL B G x, SL ab au X]), be, bf] ∧ Sat Tryz.f78.ntmps [(2, pB I 0), (3, pB q 0)] a) ?_ ?_)))))
 ·refine GB (G_while (σ := Int × List Interface) (ρ := List Interface) (fun H a w' => ∃ Q P a0 ag, ownD deepInterface H.2 Q P a0 ag ∧ Mem [] w w' [(BK I 32 [SN, SN, SN, SN]), (m 3), (m 7), (m 11), (BK q 32 [SL y C t, SL z F u, SL B G x, SL Q H.2 P]), a0, ag] ∧ Sat Tryz.f78.ntmps [(2, pB I 0), (3, pB q 0), (21, SL O l.Cpus S), (22, iv (l.Cpus.length : Int)), (23, iv H.1)] a) d7 (fun a ha => ⟨L, K, af, az, bp, b5.pk [1, 2, 3, 4, 7, 5, 6], ha.s⟩) ?_)
  clear hm
  intro H fk hm d4 ev bw ⟨Q, P, a0, ag, ce, a9, du⟩
  refine G_use du (QA (MW 1 (NE (GT hm (fun bh hm => ?_) fun bh hm => ?_))))
  ·refine KD (GD hm fun d d8 hm => ?_)
   obtain ⟨fl, cg, cf, bi⟩ := id dt
   obtain ⟨c, a8⟩ := gxIdx_fst cg d8
   refine wV (elemP O (H.1.toNat * 4)) bw (eI (cf.mem0 a9) (len_fst cg) a8) (wV (.agg #[iv d.Mask, SL ((c 0).1) d.Stack ((c 0).2), SL ((c 1).1) d.Queue.Slots ((c 1).2), SL ((c 2).1) d.Queue.Waiting ((c 2).2)]) bw (eE true 4 0 (H.1.toNat * 4) (cf.mem0 a9) a8) (wN (CE 87 [iv 0, SN, SN, SN]) a9 fun a3 ff df => wS true 4 0 (.agg #[iv d.Mask, SL ((c 0).1) d.Stack ((c 0).2), SL ((c 1).1) d.Queue.Slots ((c 1).2), SL ((c 2).1) d.Queue.Waiting ((c 2).2)]) 7 [iv d.Mask, SL ((c 0).1) d.Stack ((c 0).2), SL ((c 1).1) d.Queue.Slots ((c 1).2), SL ((c 2).1) d.Queue.Waiting ((c 2).2)] df rfl fun fg dg => NO (GD hm fun n d5 hm => GU [(2, pB I 0), (3, pB q 0), (5, pB a3 0), (21, SL O l.Cpus S), (22, iv (l.Cpus.length : Int)), (23, iv H.1), (24, .bool (decide (H.1 < (l.Cpus.length : Int)))), (25, elemP O (H.1.toNat * 4)), (26, .agg #[iv d.Mask, SL ((c 0).1) d.Stack ((c 0).2), SL ((c 1).1) d.Queue.Slots ((c 1).2), SL ((c 2).1) d.Queue.Waiting ((c 2).2)])] (DL 5 [[],[0],[],[2],[3]] [[],[],[],[],[3]] (EM 5) (EM 5) (EM 5) (EM 5) (fun _ => []) [QV (pB q 3), QV (.slice Q H.2.length P), QV (.agg #[iv d.Mask, SL ((c 0).1) d.Stack ((c 0).2), SL ((c 1).1) d.Queue.Slots ((c 1).2), SL ((c 2).1) d.Queue.Waiting ((c 2).2)]), fun f v s => ∃ ac Y T ad Z U ae aa V, v = (.agg #[iv n.Mask, SL ac n.Stack Y, SL ad n.Queue.Slots Z, SL ae n.Queue.Waiting aa] : Value) ∧ s = (T ++ (U ++ V)) ∧ ownS Gx.encI n.Stack ac Y T ∧ ownS encSlot n.Queue.Slots ad Z U ∧ ownS encWaiter n.Queue.Waiting ae aa V, fun f v s => ∃ ay al W ah, v = (.slice ay [n].length al : Value) ∧ s = (W ++ ah) ∧ ownD deepInterface [n] ay al W ah] [] [1, 4] [4] (dg.preNil 5) (AC ?_ (AC ?_ (AC ?_ (AC ?_ (AC ?_ AN))))) ?_))))
   ·intro a4 a7 R en dh
    exact OM ⟨rfl, rfl⟩ dh
   ·rintro a4 a7 v0_ ⟨rfl, _⟩ R eo b6
    exact OV ⟨rfl, rfl⟩ (eL false 1 3 (b6.blk 4 rfl)) b6
   ·intro a4 a7 R ep b7
    exact OV ⟨rfl, rfl⟩ (eL true 4 0 (b7.blk 7 rfl)) b7
   ·rintro a4 a7 v2_ ⟨rfl, _⟩ R er ba
    refine WC ((c_i_newInterface er d ((c 0).1) ((c 0).2) ((bi.mem0 ba).a_ a8 0) ((c 1).1) ((c 1).2) ((bi.mem0 ba).a_ a8 1) ((c 2).1) ((c 2).2) ((bi.mem0 ba).a_ a8 2) d5).mono ?_)
    rintro e_ fh ⟨ac, Y, T, ad, Z, U, ae, aa, V, rfl, bq, br, bs, cu⟩
    refine ⟨_, rfl, ?_⟩
    exact WN (oE (.agg #[iv n.Mask, SL ac n.Stack Y, SL ad n.Queue.Slots Z, SL ae n.Queue.Waiting aa]) (T ++ (U ++ V)) ⟨ac, Y, T, ad, Z, U, ae, aa, V, rfl, rfl, bq, br, bs⟩ (Mem.callMid ba (cu.permF (by simp))))
   ·intro a4 a7 v3_ hb3_
    obtain ⟨ac, Y, T, ad, Z, U, ae, aa, V, rfl, hs3_, bq, br, bs⟩ := hb3_
    intro R cr di
    have bb : Mem [] w cr ([(BK I 32 [SN, SN, SN, SN]), (m 3), (m 7), (m 11), (BK q 32 [SL y C t, SL z F u, SL B G x, SL Q H.2 P]), a0, ag, (BK a3 87 [iv d.Mask, SL ((c 0).1) d.Stack ((c 0).2), SL ((c 1).1) d.Queue.Slots ((c 1).2), SL ((c 2).1) d.Queue.Waiting ((c 2).2)])] ++ ([[]] ++ ([(a4 3)] ++ ([] ++ R)))) := di
    rw [hs3_] at bb
    replace bb : Mem [] w cr ([(BK I 32 [SN, SN, SN, SN]), (m 3), (m 7), (m 11), (BK q 32 [SL y C t, SL z F u, SL B G x, SL Q H.2 P]), a0, ag, (BK a3 87 [iv d.Mask, SL ((c 0).1) d.Stack ((c 0).2), SL ((c 1).1) d.Queue.Slots ((c 1).2), SL ((c 2).1) d.Queue.Waiting ((c 2).2)])] ++ ([[]] ++ ([T, U, V] ++ ([] ++ R)))) := bb.permF (by simp)
    exact W_litD (D := deepInterface) [(n, plOf [(ac, Y), (ad, Z), (ae, aa)])] [n] rfl 1 [iv n.Mask, SL ac n.Stack Y, SL ad n.Queue.Slots Z, SL ae n.Queue.Waiting aa] 87 bb (by kernel_rfl) (by kernel_rfl) (by kernel_rfl) (by kernel_rfl) (by kernel_rfl) (ownI_cons (i := ⟨Int, Gx.encI, _, _, _⟩) bq (ownI_cons (i := ⟨Slot, encSlot, _, _, _⟩) br (ownI_cons (i := ⟨Waiter, encWaiter, _, _, _⟩) bs ownI_nil))) fun ay al W fi bt dj => WN (oE (SL ay [n] al) (W ++ (T ++ (U ++ (V ++ [])))) ⟨ay, al, W, (T ++ (U ++ (V ++ []))), rfl, rfl, bt⟩ (Mem.midJ (A := [T, U, V]) dj))
   rintro a4 a7 v1_ ⟨rfl, _⟩ v4_ hb4_
   obtain ⟨ay, al, W, ah, rfl, hs4_, bt⟩ := hb4_
   intro ct dk
   have a6 : Mem [] w ct [(BK I 32 [SN, SN, SN, SN]), (m 3), (m 7), (m 11), (BK q 32 [SL y C t, SL z F u, SL B G x, SL Q H.2 P]), a0, ag, (BK a3 87 [iv d.Mask, SL ((c 0).1) d.Stack ((c 0).2), SL ((c 1).1) d.Queue.Slots ((c 1).2), SL ((c 2).1) d.Queue.Waiting ((c 2).2)]), W, ah] := dk.permF (by simp [hs4_, SL])
   refine GD hm fun bg dz hm => ?_
   obtain ⟨eu, d9, d6, d0⟩ := id bt
   refine W_appendD (D := deepInterface) (us := eu) (s2 := ah) _ _ _ 80 [iv 0, SN, SN, SN] 5 al a6 ce (by kernel_rfl) (by kernel_rfl) (by kernel_rfl) rfl (by kernel_rfl) (by kernel_rfl) (by kernel_rfl) (by kernel_rfl) (by kernel_rfl) (by kernel_rfl) (d6.r a6 8) d9 d0 dz ?_
   intro bd bc bu bx d3 dl
   have dm : Mem [] w bx [(BK I 32 [SN, SN, SN, SN]), (m 3), (m 7), (m 11), (BK q 32 [SL y C t, SL z F u, SL B G x, SL Q H.2 P]), bu, (BK a3 87 [iv d.Mask, SL ((c 0).1) d.Stack ((c 0).2), SL ((c 1).1) d.Queue.Slots ((c 1).2), SL ((c 2).1) d.Queue.Waiting ((c 2).2)]), W, ag, ah] := dl.pk [0, 1, 2, 3, 4, 5, 7, 8, 6, 9]
   have dn : Mem [] w bx [(BK I 32 [SN, SN, SN, SN]), (m 3), (m 7), (m 11), (BK q 32 [SL y C t, SL z F u, SL B G x, SL Q H.2 P]), bu, (BK a3 87 [iv d.Mask, SL ((c 0).1) d.Stack ((c 0).2), SL ((c 1).1) d.Queue.Slots ((c 1).2), SL ((c 2).1) d.Queue.Waiting ((c 2).2)]), W, (ag ++ ah)] := dm.regroup (by simp)
   refine MW 1 (wS false 1 3 (SL bd bg bc) 4 [SL y C t, SL z F u, SL B G x, SL bd bg bc] dn rfl fun es dp => NG (MW 2 (WN ?_)))
   cases hm
   exact N_loop fun a ha => ⟨_, rfl, bd, bc, bu, (ag ++ ah), d3, dp.pk [0, 1, 2, 3, 4, 5, 8], ha.s⟩
  refine XA ?_
  obtain rfl := HS hm
  obtain rfl := d4 _ rfl
  exact NM fun a ha => ⟨Q, P, a0, ag, ce, a9.pk [0, 1, 2, 3, 4, 5, 6], ha.s⟩
 intro ew et ⟨ab, X, be, bf, d2, b8, dv⟩
 refine N_use dv ?_
 have hm := d1
 refine NF (wV (.agg #[SL y C t, SL z F u, SL B G x, SL ab au X]) et (eL true 4 0 (b8.blk 4 rfl)) (wS true 4 0 (.agg #[SL y C t, SL z F u, SL B G x, SL ab au X]) 0 [SL y C t, SL z F u, SL B G x, SL ab au X] b8 rfl fun fj b9 => NC ?_))
 obtain rfl := HS hm
 exact N_ret [.agg #[SL y C t, SL z F u, SL B G x, SL ab au X]] (RX true 4 0 (b9.blk 0 rfl) RVs_nil) (⟨y, t, (m 3), z, u, (m 7), B, x, (m 11), ab, X, be, bf, rfl, bk, bm, bo, d2, b9.pk [1, 2, 3, 5, 6]⟩)
theorem c_slices_Index_178 (w : World) (b : List Int) (d g) (l : rdS Gx.encI w b d g) (f : Int) {r : Int} (hm : M.slices_Index_178 b f = some r) :
  Calls Tryz.prog 178 #[SL d b g, iv f] w fun e w' => e = .returned (iv r) ∧ Mem [] w w' [] := by
 unfold M.slices_Index_178 at hm
 refine cE Tryz.func178 ?_
 have M0 := Mem.refl [] w
 refine QA (MW 1 (NB (MW 3 (NO (GD hm fun z y m => G_meet (fun a w' => ∃ (q : Unit), z = .inl q ∧ Mem [] w w' [] ∧ Sat Tryz.f178.ntmps [] a) ?_ ?_)))))
 ·refine GB (G_while (σ := Int) (ρ := (Unit) ⊕ (Int)) (fun c a w' => Mem [] w w' [] ∧ Sat Tryz.f178.ntmps [(0, SL d b g), (1, iv f), (7, iv (b.length : Int)), (8, iv c)] a) y (fun a ha => ⟨M0.pk [], ha.s⟩) ?_)
  clear hm
  intro c D hm n B h ⟨i, v⟩
  refine G_use v (QA (MW 1 (NE (GT hm (fun j hm => ?_) fun j hm => ?_))))
  ·refine KD (MW 2 (NA (MW 3 (GD hm fun t o hm => wV (elemP d (c.toNat * 1)) h (eI (l.mem0 i) rfl o) (wV (iv t) h (eE false 1 0 (c.toNat * 1) (l.mem0 i) o) (MW 1 (NO (GT hm (fun k hm => ?_) fun k hm => ?_))))))))
   ·refine QA (MW 2 (NX ?_))
    obtain rfl := HS hm
    obtain rfl := n _ rfl
    have hm := m; simp only [Sum.elim_inr] at hm
    refine BR (N_meet_ret (TR ?_))
    obtain rfl := HS hm
    exact RA [iv c] (⟨rfl, i.pk []⟩)
   refine KC (MW 2 (WN ?_))
   cases hm
   exact N_loop fun a ha => ⟨_, rfl, i.pk [], ha.s⟩
  refine XA ?_
  obtain rfl := HS hm
  obtain rfl := n _ rfl
  exact NM fun a ha => ⟨_, rfl, i.pk [], ha.s⟩
 intro C A ⟨q, hout_, u, x⟩
 refine N_use x ?_
 subst hout_
 have hm := m; simp only [Sum.elim_inl] at hm
 refine NF (wR 1 [(4, iv (-1))] A (NC ?_))
 cases hm
 exact RA [iv (-1)] (⟨rfl, u.pk []⟩)
theorem c_slices_Contains_136 (w : World) (a : List Int) (c b) (i : rdS Gx.encI w a c b) (d : Int) {r : Bool} (hm : M.slices_Contains_136 a d = some r) :
  Calls Tryz.prog 136 #[SL c a b, iv d] w fun e w' => e = .returned (.bool r) ∧ Mem [] w w' [] := by
 unfold M.slices_Contains_136 at hm
 refine cE Tryz.func136 ?_
 have M0 := Mem.refl [] w
 refine QA (MW 1 (NA (MW 2 (GD hm fun f j hm => WD (c_slices_Index_178 w a c b (i.mem0 M0) d j) M0 fun k h => MW 2 (NC ?_)))))
 cases hm
 exact RA [.bool (decide (f ≥ 0))] (⟨rfl, h.pk []⟩)
theorem c_i_withSlot (w : World) (g : List Slot) (j i) (z : rdS encSlot w g j i) (b : Int) (a : Slot) {r : (List Slot)} (hm : M.i_withSlot g b a = some r) :
  Calls Tryz.prog 230 #[SL j g i, iv b, .agg #[iv a.State, iv a.Irq, iv a.Priority]] w fun e w' => ∃ t n u, e = .returned (SL t r n) ∧ ownS encSlot r t n u ∧ Mem [] w w' [u] := by
 unfold M.i_withSlot at hm
 refine cE Tryz.func230 ?_
 have M0 := Mem.refl [] w
 refine QA (wN (CE 117 [iv a.State, iv a.Irq, iv a.Priority]) M0 fun h G v => MW 1 (NA (wL (E := encSlot) ([] : List Slot) 0 [] 117 v fun D y K H B m => MW 1 (GD hm fun c A hm => wA 24 [iv 0, iv 0, iv 0] 1 m B (z.mem0 m) A fun d f L k o l => MW 1 (NA (MW 2 (wV (.agg #[iv a.State, iv a.Irq, iv a.Priority]) k (eL true 3 0 (l.blk 0 rfl)) (GD hm fun J q hm => wV (elemP d (b.toNat * 3)) k (eI (o.r l 1) rfl q) (wE true 3 b.toNat 0 (b.toNat * 3) J a (.agg #[iv a.State, iv a.Irq, iv a.Priority]) 1 l o (gxIdx_spec q).2 fun I F C x => LX 7 d f c b.toNat a (LX 11 d f c b.toNat a (NA (MW 2 (NC ?_)))))))))))))
 cases hm
 exact RA [SL d (c.set b.toNat a) f] (⟨d, f, F, rfl, C, x.pk [1]⟩)
theorem c_i_putIrq (w : World) (c : List Slot) (b d) (l : rdS encSlot w c b d) (g : Int) (i : Int) {r : (List Slot) × Bool} (hm : M.i_putIrq c g i = some r) :
  Calls Tryz.prog 228 #[SL b c d, iv g, iv i] w fun e w' => ∃ I G L, e = .returned (.tuple #[SL I r.1 G, .bool r.2]) ∧ ownS encSlot r.1 I G L ∧ Mem [] w w' [L] := by
 unfold M.i_putIrq at hm
 refine cE Tryz.func228 ?_
 have M0 := Mem.refl [] w
 refine QA (MW 2 (NB (MW 2 (GD hm fun h aa hm => WD (c_i_findSlot w c b d (l.mem0 M0) g aa) M0 fun k n => MW 1 (NA (MW 2 (NO (GT hm (fun A hm => ?_) fun A hm => ?_))))))))
 ·refine QA (MW 2 (GD hm fun f H hm => wV (elemP b (h.toNat * 3)) k (eI (l.mem0 n) rfl H) (wV (.agg #[iv f.State, iv f.Irq, iv f.Priority]) k (eE true 3 0 (h.toNat * 3) (l.mem0 n) H) (wN (CE 117 [iv 0, iv 0, iv 0]) n fun j aj R => wS true 3 0 (.agg #[iv f.State, iv f.Irq, iv f.Priority]) 0 [iv f.State, iv f.Irq, iv f.Priority] R rfl fun t u => NB (MW 1 (wV (iv f.State) t (eL false 1 0 (u.blk 0 rfl)) (MW 1 (NO (GD hm fun q X W => G_meet (fun a w' => Mem [] w w' [(BK j 117 [iv q, iv f.Irq, iv f.Priority])] ∧ Sat Tryz.f228.ntmps [(0, SL b c d), (8, iv h), (9, pB j 0)] a) ?_ ?_)))))))))
  ·have hm := X
   refine GT hm (fun B hm => ?_) fun B hm => ?_
   ·refine GR (MW 1 (wS false 1 0 (iv 3) 0 [iv 3, iv f.Irq, iv f.Priority] u rfl fun ak S => WN ?_))
    obtain rfl := HS hm
    exact NM fun a ha => ⟨S.pk [0], ha.s⟩
   refine GK ?_
   obtain rfl := HS hm
   exact NM fun a ha => ⟨u.pk [0], ha.s⟩
  intro ai F ⟨v, V⟩
  refine N_use V ?_
  have hm := W
  refine NF (MW 2 (wV (.agg #[iv q, iv f.Irq, iv f.Priority]) F (eL true 3 0 (v.blk 0 rfl)) (GD hm fun J ab hm => WC ((c_i_withSlot F c b d (l.mem0 v) h (⟨q, f.Irq, f.Priority⟩ : Slot) ab).mono ?_))))
  rintro e_ ag ⟨D, y, ae, rfl, Y, O⟩
  have T := v.call O
  refine ⟨_, rfl, ?_⟩
  refine wR 2 [(6, SL D J y), (7, .bool true)] ag (ND ?_)
  cases hm
  exact RA [SL D J y, .bool true] (⟨D, y, ae, rfl, Y, T.pk [1]⟩)
 refine KA (MW 1 (GD hm fun m ac hm => WD (c_i_firstEmpty k c b d (l.mem0 n) ac) n fun o x => MW 1 (NB (MW 2 (NO (GT hm (fun C hm => ?_) fun C hm => ?_))))))
 ·refine QA (MW 2 (ND ?_))
  cases hm
  exact RA [SN, .bool false] (⟨none, 0, [], rfl, ownS_nil, x.pk [100000]⟩)
 refine KA (MW 5 (GD hm fun K ad hm => WC ((c_i_withSlot o c b d (l.mem0 x) m (⟨1, g, i⟩ : Slot) ad).mono ?_)))
 rintro e_ ah ⟨E, z, af, rfl, Z, Q⟩
 have U := x.call Q
 refine ⟨_, rfl, ?_⟩
 refine MW 2 (NC ?_)
 cases hm
 exact RA [SL E K z, .bool true] (⟨E, z, af, rfl, Z, U.pk [0]⟩)
theorem c_slices_Insert_252 (w : World) (x18172 : List Waiter) (p18174 : Option Addr) (c18175 : Nat) (sg18176 : Seg) (ho18177 : ownS encWaiter x18172 p18174 c18175 sg18176) (x18178 : Int) (x18179 : List Waiter) (p18181 : Option Addr) (c18182 : Nat) (sg18183 : Seg) (ho18184 : ownS encWaiter x18179 p18181 c18182 sg18183) (hA : ∀ q ∈ List.flatten [sg18176, sg18183], w.heap[q.1]? = some q.2) (hN : (idsOf [sg18176, sg18183]).Nodup) {r : (List Waiter)} (hm : M.slices_Insert_252 x18172 x18178 x18179 = some r) :
    Calls Tryz.prog 252 #[.slice p18174 x18172.length c18175, .int .i64 x18178, .slice p18181 x18179.length c18182] w fun e w' => ∃ (p18186 : Option Addr) (c18187 : Nat) (sg18188 : Seg), e = .returned (.slice p18186 r.length c18187) ∧ ownS encWaiter r p18186 c18187 sg18188 ∧ Mem (idsOf [sg18176, sg18183]) w w' [sg18188] := by
  unfold M.slices_Insert_252 at hm
  rcases gx_bif hm with ⟨h, hm⟩ | ⟨h, hm⟩
  · obtain rfl := Option.some.inj hm
    simp only [Bool.and_eq_true, decide_eq_true_eq] at h
    obtain ⟨⟨h0, h1⟩, h2, h3⟩ := h
    obtain ⟨i, rfl⟩ : ∃ i : Nat, x18178 = i := ⟨x18178.toNat, by omega⟩
    have hc0 : x18172.length ≤ c18175 := ho18177.len_le
    have h1' : i ≤ x18172.length := by omega
    rw [Int.toNat_natCast]
    refine C_enter Tryz.func252 rfl (by kernel_rfl) ?_
    have M0 := Mem.start' w [sg18176, sg18183] hA hN
    refine G_seq ?_
    refine G_region ?_
    refine W_run 1 [(0, .slice p18174 x18172.length c18175), (1, .int .i64 (i : Int)), (2, .slice p18181 x18179.length c18182)] w (by kernel_rfl) ?_
    refine W_nil ?_
    refine N_then ?_
    refine G_seq ?_
    refine G_region ?_
    refine W_run 2 [(0, .slice p18174 x18172.length c18175), (1, .int .i64 (i : Int)), (2, .slice p18181 x18179.length c18182), (10, .slice p18174 x18172.length c18175), (11, .int .i64 (i : Int))] w (by kernel_rfl) ?_
    refine W_sliceC (p := p18174) (c := c18175) _ _ _ _ x18172.length (i : Int) x18172.length 2 (by kernel_rfl) rfl (by kernel_rfl) (Or.inr ⟨_, rfl, (by kernel_rfl)⟩) (Or.inl ⟨rfl, rfl⟩) (by kernel_rfl) hc0 (by omega) (by omega) (by omega) rfl ?_
    refine W_nil ?_
    refine N_then ?_
    refine G_sub [(0, .slice p18174 x18172.length c18175), (1, .int .i64 (i : Int)), (2, .slice p18181 x18179.length c18182)] (by kernel_rfl) ?_
    refine G_seq ?_
    refine G_region ?_
    refine W_run 3 [(0, .slice p18174 x18172.length c18175), (1, .int .i64 (i : Int)), (2, .slice p18181 x18179.length c18182), (7, .int .i64 (x18179.length : Int))] w (by kernel_rfl) ?_
    refine W_nil ?_
    refine N_then ?_
    refine G_seq ?_
    refine G_seq ?_
    refine G_region ?_
    refine W_run 2 [(0, .slice p18174 x18172.length c18175), (1, .int .i64 (i : Int)), (2, .slice p18181 x18179.length c18182), (7, .int .i64 (x18179.length : Int)), (16, .bool ((x18179.length : Int) == 0))] w (by kernel_rfl) ?_
    refine W_nil ?_
    refine N_then ?_
    refine G_cond_f (b := ((x18179.length : Int) == 0)) (by simp [h2]) (by kernel_rfl) ?_
    refine G_skip ?_
    refine N_then ?_
    refine G_seq ?_
    refine G_region ?_
    refine W_run 3 [(0, .slice p18174 x18172.length c18175), (1, .int .i64 (i : Int)), (2, .slice p18181 x18179.length c18182), (7, .int .i64 (x18179.length : Int)), (8, .int .i64 (x18172.length : Int))] w (by kernel_rfl) ?_
    refine W_nil ?_
    refine N_then ?_
    refine G_seq ?_
    refine G_seq ?_
    refine G_region ?_
    refine W_run 3 [(0, .slice p18174 x18172.length c18175), (1, .int .i64 (i : Int)), (2, .slice p18181 x18179.length c18182), (7, .int .i64 (x18179.length : Int)), (8, .int .i64 (x18172.length : Int)), (22, .bool ((i : Int) == (x18172.length : Int)))] w (by kernel_rfl) ?_
    refine W_nil ?_
    refine N_then ?_
    have rd2 : rdS encWaiter w x18179 p18181 c18182 := ho18184.rd M0 1 (by kernel_rfl)
    by_cases hi : i = x18172.length
    · refine G_cond_t (b := ((i : Int) == (x18172.length : Int))) (by simp [hi]) (by kernel_rfl) ?_
      refine G_seq ?_
      refine G_region ?_
      refine W_run 2 [(0, .slice p18174 x18172.length c18175), (1, .int .i64 (i : Int)), (2, .slice p18181 x18179.length c18182), (7, .int .i64 (x18179.length : Int)), (8, .int .i64 (x18172.length : Int)), (23, .slice p18174 x18172.length c18175), (24, .slice p18181 x18179.length c18182)] w (by kernel_rfl) ?_
      have happ : gxApp 16 x18172 x18179 = some (x18172 ++ x18179) := by unfold gxApp; rw [if_pos (by rw [h2]; omega)]
      refine W_append (E := encWaiter) _ _ _ 16 [.int .i64 0, .int .i64 0] 0 c18182 M0 ho18177 (by kernel_rfl) (by kernel_rfl) (by kernel_rfl) rfl (by kernel_rfl) (by kernel_rfl) (by kernel_rfl) (by kernel_rfl) (by kernel_rfl) (by kernel_rfl) rd2 happ ?_
      intro p1 c1 sg1 w1 ho1 M1
      refine W_run 1 [(6, .slice p1 (x18172 ++ x18179).length c1)] w1 (by kernel_rfl) ?_
      refine W_nil ?_
      refine N_then ?_
      refine G_ret ?_
      refine N_then_ret ?_
      refine N_ret [.slice p1 (x18172 ++ x18179).length c1] (RVs_cons (RV_tmp (by kernel_rfl)) RVs_nil) ?_
      have er : x18172.take i ++ x18179 ++ x18172.drop i = x18172 ++ x18179 := by rw [hi, List.take_length, List.drop_length, List.append_nil]
      rw [er]
      exact ⟨p1, c1, sg1, rfl, ho1, M1.pick [0] (by kernel_rfl)⟩
    refine G_cond_f (b := ((i : Int) == (x18172.length : Int))) (by simpa using fun h => hi (by omega)) (by kernel_rfl) ?_
    refine G_skip ?_
    refine N_then ?_
    have hin : i < x18172.length := by omega
    rcases ho18177 with ⟨_, hx, _⟩ | ⟨b, off, cs, e0, hp0, hs0, _, hcm0, hz0, hh0⟩
    · rw [hx] at hin
      simp at hin
    rcases ho18184 with ⟨_, hx, _⟩ | ⟨b2, off2, cs2, e2, hp2, hs2, hl2, hcm2, hz2, hh2⟩
    · rw [hx] at h2
      simp at h2
    subst hp0 hs0 hp2 hs2
    have hv2 : 1 ≤ c18182 := by omega
    have H0 : w.heap[b]? = some (.cells cs e0 (0, 0)) := hA (b, _) (by simp)
    have H2 : w.heap[b2]? = some (.cells cs2 e2 (0, 0)) := hA (b2, _) (by simp)
    have hne : b2 ≠ b := by intro h; subst h; simp [idsOf] at hN
    have kE : (encWaiter).k = 2 := rfl
    rw [kE] at hz0 hz2
    have fa := flat_length (encWaiter) x18172
    have fv := flat_length (encWaiter) x18179
    have ft := flat_length (encWaiter) (x18172.take i)
    have fd := flat_length (encWaiter) (x18172.drop i)
    rw [kE] at fa fv ft fd
    rw [List.length_take, Nat.min_eq_left h1'] at ft
    rw [List.length_drop] at fd
    rw [h2] at fv
    have hf0 : holdsF cs off (flat (encWaiter) x18172) := holds_flat.1 hh0
    have hf2 : holdsF cs2 off2 (flat (encWaiter) x18179) := holds_flat.1 hh2
    have hft : holdsF cs off (flat (encWaiter) (x18172.take i)) := by rw [flat_take, kE]; exact holdsF_take hf0 _
    have hfd : holdsF cs (off + i * 2) (flat (encWaiter) (x18172.drop i)) := by rw [flat_drop, kE]; exact holdsF_drop hf0 _
    have o1 : ∀ v ∈ flat (encWaiter) x18179, v.oneCell' = true := flat_one (encWaiter) x18179
    have o2 : ∀ v ∈ flat (encWaiter) (x18172.drop i), v.oneCell' = true := flat_one (encWaiter) _
    have eL : x18172.length + 1 = (x18172.take i ++ x18179 ++ x18172.drop i).length := by rw [List.length_append, List.length_append, List.length_take, List.length_drop, h2, Nat.min_eq_left h1']; omega
    have eF : flat (encWaiter) (x18172.take i ++ x18179 ++ x18172.drop i) = flat (encWaiter) (x18172.take i) ++ flat (encWaiter) x18179 ++ flat (encWaiter) (x18172.drop i) := by rw [flat_append, flat_append]
    have ew : w64 (x18172.length + 1 : Int) = ((x18172.length + 1 : Nat) : Int) := by rw [w64_idV (by omega) (by omega)]; omega
    refine G_seq ?_
    refine G_seq ?_
    refine G_region ?_
    refine W_run 6 [(0, .slice (some ⟨b, off, none⟩) x18172.length c18175), (1, .int .i64 (i : Int)), (2, .slice (some ⟨b2, off2, none⟩) x18179.length c18182), (7, .int .i64 (x18179.length : Int)), (8, .int .i64 (x18172.length : Int)), (31, .bool (decide (w64 ((x18172.length : Int) + (x18179.length : Int)) > (c18175 : Int))))] w (by kernel_rfl) ?_
    refine W_nil ?_
    refine N_then ?_
    have eN : w64 ((x18172.length : Int) + (x18179.length : Int)) = ((x18172.length + 1 : Nat) : Int) := by rw [h2, w64_idV (by omega) (by omega)]; omega
    have eI : w64 ((i : Int) + (x18179.length : Int)) = ((i + 1 : Nat) : Int) := by rw [h2, w64_idV (by omega) (by omega)]; omega
    by_cases hg : c18175 < x18172.length + 1
    · refine G_cond_t (b := (decide (w64 ((x18172.length : Int) + (x18179.length : Int)) > (c18175 : Int)))) (by rw [eN]; exact decide_eq_true (by omega)) (by kernel_rfl) ?_
      refine G_seq ?_
      refine G_region ?_
      refine W_run 2 [(0, .slice (some ⟨b, off, none⟩) x18172.length c18175), (1, .int .i64 (i : Int)), (2, .slice (some ⟨b2, off2, none⟩) x18179.length c18182), (7, .int .i64 (x18179.length : Int)), (8, .int .i64 (x18172.length : Int)), (32, .slice (some ⟨b, off, none⟩) x18172.length c18175), (33, .int .i64 (i : Int))] w (by kernel_rfl) ?_
      refine W_sliceC (p := (some ⟨b, off, none⟩)) (c := c18175) _ _ _ _ (x18172.length) 0 (i : Int) 2 (by kernel_rfl) rfl (by kernel_rfl) (Or.inl ⟨rfl, rfl⟩) (Or.inr ⟨_, rfl, (by kernel_rfl)⟩) (by kernel_rfl) (by omega) (by omega) (by omega) (by omega) (v := .slice (some ⟨b, off, none⟩) i c18175) (by simp [subP, addr_add]) ?_
      refine W_run 5 [(0, .slice (some ⟨b, off, none⟩) x18172.length c18175), (1, .int .i64 (i : Int)), (2, .slice (some ⟨b2, off2, none⟩) x18179.length c18182), (7, .int .i64 (x18179.length : Int)), (8, .int .i64 (x18172.length : Int)), (34, .slice (some ⟨b, off, none⟩) i c18175), (39, .int .i64 (w64 (w64 ((x18172.length : Int) + (x18179.length : Int)) - (i : Int))))] w (by kernel_rfl) ?_
      refine W_conv 39 (.int .i64 (w64 (w64 ((x18172.length : Int) + (x18179.length : Int)) - (i : Int)))) (.int .i64 (((x18172.length + 1 - i : Nat)) : Int)) (by kernel_rfl) (by rw [eN, w64_idV (by omega) (by omega), show ((x18172.length + 1 : Nat) : Int) - (i : Int) = (((x18172.length + 1 - i : Nat)) : Int) by omega]) ?_
      refine W_madeOn (c := c18175) (encWaiter) 83 3 _ _ 16 [.int .i64 0, .int .i64 0] .i64 b off cs e0 (flat (encWaiter) (x18172.take i)) i ((x18172.length + 1 - i : Nat)) M0 (by kernel_rfl) rfl (by kernel_rfl) (by kernel_rfl) (by kernel_rfl) (by kernel_rfl) (by kernel_rfl) (by kernel_rfl) (by kernel_rfl) H0 (by rw [ft, kE]) hft (by omega) (by omega) (by rw [show i + ((x18172.length + 1 - i : Nat)) = x18172.length + 1 by omega]; omega) ?_
      rw [show i + ((x18172.length + 1 - i : Nat)) = x18172.length + 1 by omega]
      intro c9 cs9 e9 w9 hc9 hcm9 hz9 hf9 M9
      rw [kE] at hz9
      refine W_run 1 [(0, .slice (some ⟨b, off, none⟩) x18172.length c18175), (1, .int .i64 (i : Int)), (2, .slice (some ⟨b2, off2, none⟩) x18179.length c18182), (7, .int .i64 (x18179.length : Int)), (8, .int .i64 (x18172.length : Int)), (9, .slice (some ⟨w.heap.size, 0, none⟩) (x18172.length + 1) c9)] w9 (by kernel_rfl) ?_
      refine W_nil ?_
      refine N_then ?_
      refine G_seq ?_
      refine G_region ?_
      refine W_run 2 [(0, .slice (some ⟨b, off, none⟩) x18172.length c18175), (1, .int .i64 (i : Int)), (2, .slice (some ⟨b2, off2, none⟩) x18179.length c18182), (7, .int .i64 (x18179.length : Int)), (8, .int .i64 (x18172.length : Int)), (9, .slice (some ⟨w.heap.size, 0, none⟩) (x18172.length + 1) c9), (41, .slice (some ⟨w.heap.size, 0, none⟩) (x18172.length + 1) c9), (42, .int .i64 (i : Int))] w9 (by kernel_rfl) ?_
      refine W_sliceC (p := some ⟨w.heap.size, 0, none⟩) (c := c9) _ _ _ _ (x18172.length + 1) (i : Int) ((x18172.length + 1 : Nat) : Int) 2 (by kernel_rfl) rfl (by kernel_rfl) (Or.inr ⟨_, rfl, (by kernel_rfl)⟩) (Or.inl ⟨rfl, rfl⟩) (by kernel_rfl) (by omega) (by omega) (by omega) (by omega) (v := .slice (some ⟨w.heap.size, i * 2, none⟩) (x18172.length + 1 - i) (c9 - i)) (by rw [Int.toNat_natCast, Int.toNat_natCast]; simp [subP, addr_add, show ¬ (c9 = i) by omega]) ?_
      refine W_run 1 [(0, .slice (some ⟨b, off, none⟩) x18172.length c18175), (1, .int .i64 (i : Int)), (2, .slice (some ⟨b2, off2, none⟩) x18179.length c18182), (7, .int .i64 (x18179.length : Int)), (8, .int .i64 (x18172.length : Int)), (9, .slice (some ⟨w.heap.size, 0, none⟩) (x18172.length + 1) c9), (43, .slice (some ⟨w.heap.size, i * 2, none⟩) (x18172.length + 1 - i) (c9 - i)), (44, .slice (some ⟨b2, off2, none⟩) x18179.length c18182)] w9 (by kernel_rfl) ?_
      refine W_copy _ _ _ 2 16 [.int .i64 0, .int .i64 0] 2 w.heap.size (i * 2) (x18172.length + 1 - i) (c9 - i) cs9 e9 ⟨b2, off2, none⟩ x18179.length c18182 (flat (encWaiter) x18179) M9 rfl (by kernel_rfl) rfl (by kernel_rfl) (by kernel_rfl) (by kernel_rfl) (by rw [fv, h2, show Nat.min 1 (x18172.length + 1 - i) = 1 from Nat.min_eq_left (by omega)]) (fun j v hj => by rw [addr_add, cell_of_heap (M9.blk 1 (b := b2) rfl)]; exact hf2 j v hj) (by rw [fv]; omega) o1 ?_
      intro w10 M10
      refine W_nil ?_
      refine N_then ?_
      refine G_seq ?_
      refine G_sub [(0, .slice (some ⟨b, off, none⟩) x18172.length c18175), (1, .int .i64 (i : Int)), (2, .slice (some ⟨b2, off2, none⟩) x18179.length c18182), (7, .int .i64 (x18179.length : Int)), (8, .int .i64 (x18172.length : Int)), (9, .slice (some ⟨w.heap.size, 0, none⟩) (x18172.length + 1) c9)] (by kernel_rfl) ?_
      refine G_dagL 8 [[], [], [], [1, 2], [0, 3], [], [], [5, 6]] [[], [], [], [], [], [], [], []] [[], [], [], [], [], [], [], []] [[], [], [], [], [], [], [], []] [[], [], [], [], [], [], [], []] [[], [], [], [], [], [], [], []] (fun _ => []) (fun q_ => ([fun f v s => v = (.slice (some ⟨w.heap.size, 0, none⟩) (x18172.length + 1) c9 : Value) ∧ s = [], fun f v s => v = (.int .i64 (i : Int) : Value) ∧ s = [], fun f v s => v = (.int .i64 (x18179.length : Int) : Value) ∧ s = [], fun f v s => v = (.int .i64 ((i + 1 : Nat) : Int) : Value) ∧ s = [], fun f v s => v = (.slice (some ⟨w.heap.size, (i + 1) * 2, none⟩) (x18172.length + 1 - (i + 1)) (c9 - (i + 1)) : Value) ∧ s = [], fun f v s => v = (.slice (some ⟨b, off, none⟩) x18172.length c18175 : Value) ∧ s = [], fun f v s => v = (.int .i64 (i : Int) : Value) ∧ s = [], fun f v s => v = (.slice (some ⟨b, off + i * 2, none⟩) (x18172.length - i) (c18175 - i) : Value) ∧ s = []] : List ((Nat → Value) → Value → Seg → Prop)).getD q_ (fun _ _ _ => False)) (fun j f v => ∃ s, (fun q_ => ([fun f v s => v = (.slice (some ⟨w.heap.size, 0, none⟩) (x18172.length + 1) c9 : Value) ∧ s = [], fun f v s => v = (.int .i64 (i : Int) : Value) ∧ s = [], fun f v s => v = (.int .i64 (x18179.length : Int) : Value) ∧ s = [], fun f v s => v = (.int .i64 ((i + 1 : Nat) : Int) : Value) ∧ s = [], fun f v s => v = (.slice (some ⟨w.heap.size, (i + 1) * 2, none⟩) (x18172.length + 1 - (i + 1)) (c9 - (i + 1)) : Value) ∧ s = [], fun f v s => v = (.slice (some ⟨b, off, none⟩) x18172.length c18175 : Value) ∧ s = [], fun f v s => v = (.int .i64 (i : Int) : Value) ∧ s = [], fun f v s => v = (.slice (some ⟨b, off + i * 2, none⟩) (x18172.length - i) (c18175 - i) : Value) ∧ s = []] : List ((Nat → Value) → Value → Seg → Prop)).getD q_ (fun _ _ _ => False)) j f v s) [] [4, 7] [] (fun _ _ _ s h => ⟨s, h⟩) (by kernel_rfl) (by kernel_rfl) (M10.preNil 8) (by kernel_rfl) (by kernel_rfl) (by kernel_rfl) (by kernel_rfl) (allOb_cons ?_ (allOb_cons ?_ (allOb_cons ?_ (allOb_cons ?_ (allOb_cons ?_ (allOb_cons ?_ (allOb_cons ?_ (allOb_cons ?_ allOb_nil)))))))) ?_
      · intro g f
        intro R wq Mq
        refine W_run 1 [(46, .slice (some ⟨w.heap.size, 0, none⟩) (x18172.length + 1) c9)] wq (by kernel_rfl) ?_
        exact W_nil (ob_end (.slice (some ⟨w.heap.size, 0, none⟩) (x18172.length + 1) c9) [] rfl (by kernel_rfl) ⟨(by kernel_rfl), rfl⟩ Mq)
      · intro g f
        intro R wq Mq
        refine W_run 1 [(47, .int .i64 (i : Int))] wq (by kernel_rfl) ?_
        exact W_nil (ob_end (.int .i64 (i : Int)) [] rfl (by kernel_rfl) ⟨(by kernel_rfl), rfl⟩ Mq)
      · intro g f
        intro R wq Mq
        refine W_run 1 [(48, .int .i64 (x18179.length : Int))] wq (by kernel_rfl) ?_
        exact W_nil (ob_end (.int .i64 (x18179.length : Int)) [] rfl (by kernel_rfl) ⟨(by kernel_rfl), rfl⟩ Mq)
      · intro g f
        intro v1 hb1
        obtain ⟨rfl, _⟩ := hb1
        intro v2 hb2
        obtain ⟨rfl, _⟩ := hb2
        intro R wq Mq
        refine W_run 1 [(49, .int .i64 (w64 ((i : Int) + (x18179.length : Int))))] wq (by kernel_rfl) ?_
        refine W_conv 49 (.int .i64 (w64 ((i : Int) + (x18179.length : Int)))) (.int .i64 ((i + 1 : Nat) : Int)) (by kernel_rfl) (by rw [eI]) ?_
        exact W_nil (ob_end (.int .i64 ((i + 1 : Nat) : Int)) [] rfl (by kernel_rfl) ⟨(by kernel_rfl), rfl⟩ Mq)
      · intro g f
        intro v0 hb0
        obtain ⟨rfl, _⟩ := hb0
        intro v3 hb3
        obtain ⟨rfl, _⟩ := hb3
        intro R wq Mq
        refine W_sliceC (p := some ⟨w.heap.size, 0, none⟩) (c := c9) _ _ _ _ (x18172.length + 1) ((i + 1 : Nat) : Int) ((x18172.length + 1 : Nat) : Int) 2 (by kernel_rfl) rfl (by kernel_rfl) (Or.inr ⟨_, rfl, (by kernel_rfl)⟩) (Or.inl ⟨rfl, rfl⟩) (by kernel_rfl) (by omega) (by omega) (by omega) (by omega) (v := .slice (some ⟨w.heap.size, (i + 1) * 2, none⟩) (x18172.length + 1 - (i + 1)) (c9 - (i + 1))) (by rw [Int.toNat_natCast, Int.toNat_natCast, subP, if_neg (by omega), Option.map_some, addr_add, Nat.zero_add]) ?_
        exact W_nil (ob_end (.slice (some ⟨w.heap.size, (i + 1) * 2, none⟩) (x18172.length + 1 - (i + 1)) (c9 - (i + 1))) [] rfl (by kernel_rfl) ⟨(by kernel_rfl), rfl⟩ Mq)
      · intro g f
        intro R wq Mq
        refine W_run 1 [(51, .slice (some ⟨b, off, none⟩) x18172.length c18175)] wq (by kernel_rfl) ?_
        exact W_nil (ob_end (.slice (some ⟨b, off, none⟩) x18172.length c18175) [] rfl (by kernel_rfl) ⟨(by kernel_rfl), rfl⟩ Mq)
      · intro g f
        intro R wq Mq
        refine W_run 1 [(52, .int .i64 (i : Int))] wq (by kernel_rfl) ?_
        exact W_nil (ob_end (.int .i64 (i : Int)) [] rfl (by kernel_rfl) ⟨(by kernel_rfl), rfl⟩ Mq)
      · intro g f
        intro v5 hb5
        obtain ⟨rfl, _⟩ := hb5
        intro v6 hb6
        obtain ⟨rfl, _⟩ := hb6
        intro R wq Mq
        refine W_sliceC (p := some ⟨b, off, none⟩) (c := c18175) _ _ _ _ (x18172.length) (i : Int) ((x18172.length : Nat) : Int) 2 (by kernel_rfl) rfl (by kernel_rfl) (Or.inr ⟨_, rfl, (by kernel_rfl)⟩) (Or.inl ⟨rfl, rfl⟩) (by kernel_rfl) (by omega) (by omega) (by omega) (by omega) (v := .slice (some ⟨b, off + i * 2, none⟩) (x18172.length - i) (c18175 - i)) (by rw [Int.toNat_natCast, Int.toNat_natCast, subP, if_neg (by omega), Option.map_some, addr_add]) ?_
        exact W_nil (ob_end (.slice (some ⟨b, off + i * 2, none⟩) (x18172.length - i) (c18175 - i)) [] rfl (by kernel_rfl) ⟨(by kernel_rfl), rfl⟩ Mq)
      intro g f
      intro v4 hb4
      obtain ⟨rfl, _⟩ := hb4
      intro v7 hb7
      obtain ⟨rfl, _⟩ := hb7
      intro w11 M11
      have z9 := wr_size cs9 (i * 2) (flat (encWaiter) x18179) (by rw [fv]; omega)
      refine W_copy _ _ _ 2 16 [.int .i64 0, .int .i64 0] 2 w.heap.size ((i + 1) * 2) (x18172.length + 1 - (i + 1)) (c9 - (i + 1)) (wr cs9 (i * 2) (flat (encWaiter) x18179)) e9 ⟨b, off + i * 2, none⟩ (x18172.length - i) (c18175 - i) (flat (encWaiter) (x18172.drop i)) M11 rfl (by kernel_rfl) rfl (by kernel_rfl) (by kernel_rfl) (by kernel_rfl) (by rw [fd, show Nat.min (x18172.length - i) (x18172.length + 1 - (i + 1)) = x18172.length - i from Nat.min_eq_left (by omega)]) (fun j v hj => by rw [addr_add, cell_of_heap (M11.blk 0 (b := b) rfl)]; exact hfd j v hj) (by rw [z9, fd]; omega) o2 ?_
      intro w12 M12
      refine W_nil ?_
      refine N_then ?_
      refine G_seq ?_
      refine G_region ?_
      refine W_run 2 [(6, .slice (some ⟨w.heap.size, 0, none⟩) (x18172.length + 1) c9)] w12 (by kernel_rfl) ?_
      refine W_nil ?_
      refine N_then ?_
      refine G_ret ?_
      refine N_then_ret ?_
      refine N_ret [.slice (some ⟨w.heap.size, 0, none⟩) (x18172.length + 1) c9] (RVs_cons (RV_tmp (by kernel_rfl)) RVs_nil) ?_
      have z10 := wr_size (wr cs9 (i * 2) (flat (encWaiter) x18179)) ((i + 1) * 2) (flat (encWaiter) (x18172.drop i)) (by rw [z9, fd]; omega)
      have hfin := (ins_holds (cs := cs9) (off := 0) (A := flat (encWaiter) (x18172.take i)) (V := flat (encWaiter) x18179) (B := flat (encWaiter) (x18172.drop i)) hf9 (by rw [ft, fv, fd]; omega)).1
      rw [ft, fv, show 0 + i * 2 = i * 2 by omega, show i * 2 + 1 * 2 = (i + 1) * 2 by omega] at hfin
      refine ⟨some ⟨w.heap.size, 0, none⟩, c9, _, by rw [← eL]; rfl, Or.inr ⟨w.heap.size, 0, _, e9, rfl, rfl, by omega, hcm9, by rw [kE, z10, z9]; omega, ?_⟩, M12.pick [2] (by kernel_rfl)⟩
      rw [holds_flat, eF]
      exact hfin
    refine G_cond_f (b := (decide (w64 ((x18172.length : Int) + (x18179.length : Int)) > (c18175 : Int)))) (by rw [eN]; exact decide_eq_false (by omega)) (by kernel_rfl) ?_
    refine G_skip ?_
    refine N_then ?_
    refine G_seq ?_
    refine G_region ?_
    refine W_run 4 [(0, .slice (some ⟨b, off, none⟩) x18172.length c18175), (1, .int .i64 (i : Int)), (2, .slice (some ⟨b2, off2, none⟩) x18179.length c18182), (7, .int .i64 (x18179.length : Int)), (8, .int .i64 (x18172.length : Int)), (56, .slice (some ⟨b, off, none⟩) x18172.length c18175), (59, .int .i64 (w64 ((x18172.length : Int) + (x18179.length : Int))))] w (by kernel_rfl) ?_
    refine W_conv 59 (.int .i64 (w64 ((x18172.length : Int) + (x18179.length : Int)))) (.int .i64 ((x18172.length + 1 : Nat) : Int)) (by kernel_rfl) (by rw [eN]) ?_
    refine W_sliceC (p := (some ⟨b, off, none⟩)) (c := c18175) _ _ _ _ (x18172.length) 0 ((x18172.length + 1 : Nat) : Int) 2 (by kernel_rfl) rfl (by kernel_rfl) (Or.inl ⟨rfl, rfl⟩) (Or.inr ⟨_, rfl, (by kernel_rfl)⟩) (by kernel_rfl) (by omega) (by omega) (by omega) (by omega) (v := .slice (some ⟨b, off, none⟩) (x18172.length + 1) c18175) (by rw [Int.toNat_natCast]; simp [subP, addr_add]) ?_
    refine W_run 1 [(0, .slice (some ⟨b, off, none⟩) (x18172.length + 1) c18175), (1, .int .i64 (i : Int)), (2, .slice (some ⟨b2, off2, none⟩) x18179.length c18182), (7, .int .i64 (x18179.length : Int)), (8, .int .i64 (x18172.length : Int))] w (by kernel_rfl) ?_
    refine W_nil ?_
    refine N_then ?_
    refine G_seq ?_
    refine G_seq ?_
    refine G_region ?_
    refine W_run 5 [(0, .slice (some ⟨b, off, none⟩) (x18172.length + 1) c18175), (1, .int .i64 (i : Int)), (2, .slice (some ⟨b2, off2, none⟩) x18179.length c18182), (7, .int .i64 (x18179.length : Int)), (8, .int .i64 (x18172.length : Int)), (61, .slice (some ⟨b2, off2, none⟩) x18179.length c18182), (62, .slice (some ⟨b, off, none⟩) (x18172.length + 1) c18175), (65, .int .i64 (w64 ((i : Int) + (x18179.length : Int))))] w (by kernel_rfl) ?_
    refine W_conv 65 (.int .i64 (w64 ((i : Int) + (x18179.length : Int)))) (.int .i64 ((i + 1 : Nat) : Int)) (by kernel_rfl) (by rw [eI]) ?_
    obtain ⟨oo, hoo⟩ : ∃ oo, subP (some ⟨b, off, none⟩) (i + 1) c18175 2 = some ⟨b, oo, none⟩ := ⟨off + (i + 1) * 2, by rw [subP, if_neg (by omega), Option.map_some, addr_add]⟩
    refine W_sliceC (p := (some ⟨b, off, none⟩)) (c := c18175) _ _ _ _ (x18172.length + 1) ((i + 1 : Nat) : Int) ((x18172.length + 1 : Nat) : Int) 2 (by kernel_rfl) rfl (by kernel_rfl) (Or.inr ⟨_, rfl, (by kernel_rfl)⟩) (Or.inl ⟨rfl, rfl⟩) (by kernel_rfl) (by omega) (by omega) (by omega) (by omega) (v := .slice (some ⟨b, oo, none⟩) (x18172.length + 1 - (i + 1)) (c18175 - (i + 1))) (by rw [Int.toNat_natCast, Int.toNat_natCast, hoo]) ?_
    refine W_overlaps 255 83 4 _ _ 2 16 [.int .i64 0, .int .i64 0] _ b2 off2 x18179.length c18182 b oo (x18172.length + 1 - (i + 1)) (c18175 - (i + 1)) cs2 cs e2 e0 (by kernel_rfl) rfl (by kernel_rfl) (by kernel_rfl) (by kernel_rfl) Tryz.func255 (by kernel_rfl) (by kernel_rfl) (by kernel_rfl) (by kernel_rfl) H2 H0 hne (by omega) ?_
    refine W_run 1 [(0, .slice (some ⟨b, off, none⟩) (x18172.length + 1) c18175), (1, .int .i64 (i : Int)), (2, .slice (some ⟨b2, off2, none⟩) x18179.length c18182), (7, .int .i64 (x18179.length : Int)), (8, .int .i64 (x18172.length : Int)), (68, .bool true)] w (by kernel_rfl) ?_
    refine W_nil ?_
    refine N_then ?_
    refine G_cond_t (b := true) rfl (by kernel_rfl) ?_
    refine G_seq ?_
    refine G_sub [(0, .slice (some ⟨b, off, none⟩) (x18172.length + 1) c18175), (1, .int .i64 (i : Int)), (2, .slice (some ⟨b2, off2, none⟩) x18179.length c18182), (7, .int .i64 (x18179.length : Int)), (8, .int .i64 (x18172.length : Int))] (by kernel_rfl) ?_
    refine G_dagL 8 [[], [], [], [1, 2], [0, 3], [], [], [5, 6]] [[], [], [], [], [], [], [], []] [[], [], [], [], [], [], [], []] [[], [], [], [], [], [], [], []] [[], [], [], [], [], [], [], []] [[], [], [], [], [], [], [], []] (fun _ => []) (fun q_ => ([fun f v s => v = (.slice (some ⟨b, off, none⟩) (x18172.length + 1) c18175 : Value) ∧ s = [], fun f v s => v = (.int .i64 (i : Int) : Value) ∧ s = [], fun f v s => v = (.int .i64 (x18179.length : Int) : Value) ∧ s = [], fun f v s => v = (.int .i64 ((i + 1 : Nat) : Int) : Value) ∧ s = [], fun f v s => v = (.slice (some ⟨b, off + (i + 1) * 2, none⟩) (x18172.length + 1 - (i + 1)) (c18175 - (i + 1)) : Value) ∧ s = [], fun f v s => v = (.slice (some ⟨b, off, none⟩) (x18172.length + 1) c18175 : Value) ∧ s = [], fun f v s => v = (.int .i64 (i : Int) : Value) ∧ s = [], fun f v s => v = (.slice (some ⟨b, off + i * 2, none⟩) (x18172.length + 1 - i) (c18175 - i) : Value) ∧ s = []] : List ((Nat → Value) → Value → Seg → Prop)).getD q_ (fun _ _ _ => False)) (fun j f v => ∃ s, (fun q_ => ([fun f v s => v = (.slice (some ⟨b, off, none⟩) (x18172.length + 1) c18175 : Value) ∧ s = [], fun f v s => v = (.int .i64 (i : Int) : Value) ∧ s = [], fun f v s => v = (.int .i64 (x18179.length : Int) : Value) ∧ s = [], fun f v s => v = (.int .i64 ((i + 1 : Nat) : Int) : Value) ∧ s = [], fun f v s => v = (.slice (some ⟨b, off + (i + 1) * 2, none⟩) (x18172.length + 1 - (i + 1)) (c18175 - (i + 1)) : Value) ∧ s = [], fun f v s => v = (.slice (some ⟨b, off, none⟩) (x18172.length + 1) c18175 : Value) ∧ s = [], fun f v s => v = (.int .i64 (i : Int) : Value) ∧ s = [], fun f v s => v = (.slice (some ⟨b, off + i * 2, none⟩) (x18172.length + 1 - i) (c18175 - i) : Value) ∧ s = []] : List ((Nat → Value) → Value → Seg → Prop)).getD q_ (fun _ _ _ => False)) j f v s) [] [4, 7] [] (fun _ _ _ s h => ⟨s, h⟩) (by kernel_rfl) (by kernel_rfl) (M0.preNil 8) (by kernel_rfl) (by kernel_rfl) (by kernel_rfl) (by kernel_rfl) (allOb_cons ?_ (allOb_cons ?_ (allOb_cons ?_ (allOb_cons ?_ (allOb_cons ?_ (allOb_cons ?_ (allOb_cons ?_ (allOb_cons ?_ allOb_nil)))))))) ?_
    · intro g f
      intro R wq Mq
      refine W_run 1 [(69, .slice (some ⟨b, off, none⟩) (x18172.length + 1) c18175)] wq (by kernel_rfl) ?_
      exact W_nil (ob_end (.slice (some ⟨b, off, none⟩) (x18172.length + 1) c18175) [] rfl (by kernel_rfl) ⟨(by kernel_rfl), rfl⟩ Mq)
    · intro g f
      intro R wq Mq
      refine W_run 1 [(70, .int .i64 (i : Int))] wq (by kernel_rfl) ?_
      exact W_nil (ob_end (.int .i64 (i : Int)) [] rfl (by kernel_rfl) ⟨(by kernel_rfl), rfl⟩ Mq)
    · intro g f
      intro R wq Mq
      refine W_run 1 [(71, .int .i64 (x18179.length : Int))] wq (by kernel_rfl) ?_
      exact W_nil (ob_end (.int .i64 (x18179.length : Int)) [] rfl (by kernel_rfl) ⟨(by kernel_rfl), rfl⟩ Mq)
    · intro g f
      intro v1 hb1
      obtain ⟨rfl, _⟩ := hb1
      intro v2 hb2
      obtain ⟨rfl, _⟩ := hb2
      intro R wq Mq
      refine W_run 1 [(72, .int .i64 (w64 ((i : Int) + (x18179.length : Int))))] wq (by kernel_rfl) ?_
      refine W_conv 72 (.int .i64 (w64 ((i : Int) + (x18179.length : Int)))) (.int .i64 ((i + 1 : Nat) : Int)) (by kernel_rfl) (by rw [eI]) ?_
      exact W_nil (ob_end (.int .i64 ((i + 1 : Nat) : Int)) [] rfl (by kernel_rfl) ⟨(by kernel_rfl), rfl⟩ Mq)
    · intro g f
      intro v0 hb0
      obtain ⟨rfl, _⟩ := hb0
      intro v3 hb3
      obtain ⟨rfl, _⟩ := hb3
      intro R wq Mq
      refine W_sliceC (p := some ⟨b, off, none⟩) (c := c18175) _ _ _ _ (x18172.length + 1) ((i + 1 : Nat) : Int) ((x18172.length + 1 : Nat) : Int) 2 (by kernel_rfl) rfl (by kernel_rfl) (Or.inr ⟨_, rfl, (by kernel_rfl)⟩) (Or.inl ⟨rfl, rfl⟩) (by kernel_rfl) (by omega) (by omega) (by omega) (by omega) (v := .slice (some ⟨b, off + (i + 1) * 2, none⟩) (x18172.length + 1 - (i + 1)) (c18175 - (i + 1))) (by rw [Int.toNat_natCast, Int.toNat_natCast, subP, if_neg (by omega), Option.map_some, addr_add]) ?_
      exact W_nil (ob_end (.slice (some ⟨b, off + (i + 1) * 2, none⟩) (x18172.length + 1 - (i + 1)) (c18175 - (i + 1))) [] rfl (by kernel_rfl) ⟨(by kernel_rfl), rfl⟩ Mq)
    · intro g f
      intro R wq Mq
      refine W_run 1 [(74, .slice (some ⟨b, off, none⟩) (x18172.length + 1) c18175)] wq (by kernel_rfl) ?_
      exact W_nil (ob_end (.slice (some ⟨b, off, none⟩) (x18172.length + 1) c18175) [] rfl (by kernel_rfl) ⟨(by kernel_rfl), rfl⟩ Mq)
    · intro g f
      intro R wq Mq
      refine W_run 1 [(75, .int .i64 (i : Int))] wq (by kernel_rfl) ?_
      exact W_nil (ob_end (.int .i64 (i : Int)) [] rfl (by kernel_rfl) ⟨(by kernel_rfl), rfl⟩ Mq)
    · intro g f
      intro v5 hb5
      obtain ⟨rfl, _⟩ := hb5
      intro v6 hb6
      obtain ⟨rfl, _⟩ := hb6
      intro R wq Mq
      refine W_sliceC (p := some ⟨b, off, none⟩) (c := c18175) _ _ _ _ (x18172.length + 1) (i : Int) ((x18172.length + 1 : Nat) : Int) 2 (by kernel_rfl) rfl (by kernel_rfl) (Or.inr ⟨_, rfl, (by kernel_rfl)⟩) (Or.inl ⟨rfl, rfl⟩) (by kernel_rfl) (by omega) (by omega) (by omega) (by omega) (v := .slice (some ⟨b, off + i * 2, none⟩) (x18172.length + 1 - i) (c18175 - i)) (by rw [Int.toNat_natCast, Int.toNat_natCast, subP, if_neg (by omega), Option.map_some, addr_add]) ?_
      exact W_nil (ob_end (.slice (some ⟨b, off + i * 2, none⟩) (x18172.length + 1 - i) (c18175 - i)) [] rfl (by kernel_rfl) ⟨(by kernel_rfl), rfl⟩ Mq)
    intro g f
    intro v4 hb4
    obtain ⟨rfl, _⟩ := hb4
    intro v7 hb7
    obtain ⟨rfl, _⟩ := hb7
    intro w13 M13
    refine W_copy _ _ _ 2 16 [.int .i64 0, .int .i64 0] 0 b (off + (i + 1) * 2) (x18172.length + 1 - (i + 1)) (c18175 - (i + 1)) cs e0 ⟨b, off + i * 2, none⟩ (x18172.length + 1 - i) (c18175 - i) (flat (encWaiter) (x18172.drop i)) M13 rfl (by kernel_rfl) rfl (by kernel_rfl) (by kernel_rfl) (by kernel_rfl) (by rw [fd, show Nat.min (x18172.length + 1 - i) (x18172.length + 1 - (i + 1)) = x18172.length - i from (Nat.min_eq_right (by omega)).trans (by omega)]) (fun j v hj => by rw [addr_add, cell_of_heap (M13.blk 0 (b := b) rfl)]; exact hfd j v hj) (by rw [fd]; omega) o2 ?_
    intro w14 M14
    refine W_nil ?_
    refine N_then ?_
    refine G_seq ?_
    refine G_region ?_
    refine W_run 2 [(0, .slice (some ⟨b, off, none⟩) (x18172.length + 1) c18175), (1, .int .i64 (i : Int)), (2, .slice (some ⟨b2, off2, none⟩) x18179.length c18182), (7, .int .i64 (x18179.length : Int)), (8, .int .i64 (x18172.length : Int)), (78, .slice (some ⟨b, off, none⟩) (x18172.length + 1) c18175), (79, .int .i64 (i : Int))] w14 (by kernel_rfl) ?_
    refine W_sliceC (p := (some ⟨b, off, none⟩)) (c := c18175) _ _ _ _ (x18172.length + 1) (i : Int) ((x18172.length + 1 : Nat) : Int) 2 (by kernel_rfl) rfl (by kernel_rfl) (Or.inr ⟨_, rfl, (by kernel_rfl)⟩) (Or.inl ⟨rfl, rfl⟩) (by kernel_rfl) (by omega) (by omega) (by omega) (by omega) (v := .slice (some ⟨b, off + i * 2, none⟩) (x18172.length + 1 - i) (c18175 - i)) (by rw [Int.toNat_natCast, Int.toNat_natCast, subP, if_neg (by omega), Option.map_some, addr_add]) ?_
    refine W_run 1 [(0, .slice (some ⟨b, off, none⟩) (x18172.length + 1) c18175), (1, .int .i64 (i : Int)), (2, .slice (some ⟨b2, off2, none⟩) x18179.length c18182), (7, .int .i64 (x18179.length : Int)), (8, .int .i64 (x18172.length : Int)), (80, .slice (some ⟨b, off + i * 2, none⟩) (x18172.length + 1 - i) (c18175 - i)), (81, .slice (some ⟨b2, off2, none⟩) x18179.length c18182)] w14 (by kernel_rfl) ?_
    have z0 := wr_size cs (off + (i + 1) * 2) (flat (encWaiter) (x18172.drop i)) (by rw [fd]; omega)
    refine W_copy _ _ _ 2 16 [.int .i64 0, .int .i64 0] 0 b (off + i * 2) (x18172.length + 1 - i) (c18175 - i) (wr cs (off + (i + 1) * 2) (flat (encWaiter) (x18172.drop i))) e0 ⟨b2, off2, none⟩ x18179.length c18182 (flat (encWaiter) x18179) M14 rfl (by kernel_rfl) rfl (by kernel_rfl) (by kernel_rfl) (by kernel_rfl) (by rw [fv, h2, show Nat.min 1 (x18172.length + 1 - i) = 1 from Nat.min_eq_left (by omega)]) (fun j v hj => by rw [addr_add, cell_of_heap (M14.blk 1 (b := b2) rfl)]; exact hf2 j v hj) (by rw [z0, fv]; omega) o1 ?_
    intro w15 M15
    refine W_nil ?_
    refine N_then ?_
    refine G_seq ?_
    refine G_region ?_
    refine W_run 2 [(6, .slice (some ⟨b, off, none⟩) (x18172.length + 1) c18175)] w15 (by kernel_rfl) ?_
    refine W_nil ?_
    refine N_then ?_
    refine G_ret ?_
    refine N_then_ret ?_
    refine N_ret [.slice (some ⟨b, off, none⟩) (x18172.length + 1) c18175] (RVs_cons (RV_tmp (by kernel_rfl)) RVs_nil) ?_
    have z1 := wr_size (wr cs (off + (i + 1) * 2) (flat (encWaiter) (x18172.drop i))) (off + i * 2) (flat (encWaiter) x18179) (by rw [z0, fv]; omega)
    have hfin := (ins_holds (cs := cs) (off := off) (A := flat (encWaiter) (x18172.take i)) (V := flat (encWaiter) x18179) (B := flat (encWaiter) (x18172.drop i)) hft (by rw [ft, fv, fd]; omega)).2
    rw [ft, fv, show off + i * 2 + 1 * 2 = off + (i + 1) * 2 by omega] at hfin
    refine ⟨some ⟨b, off, none⟩, c18175, _, by rw [← eL]; rfl, Or.inr ⟨b, off, _, e0, rfl, rfl, by omega, hcm0, by rw [kE, z1, z0]; exact hz0, ?_⟩, M15.pick [0] (by kernel_rfl)⟩
    rw [holds_flat, eF]
    exact hfin
  cases hm
theorem c_i_withWaiter (w : World) (c : List Waiter) (d g) (G : rdS encWaiter w c d g) (b : Waiter) {r : (List Waiter)} (hm : M.i_withWaiter c b = some r) :
  Calls Tryz.prog 229 #[SL d c g, .agg #[iv b.Irq, iv b.Priority]] w fun e w' => ∃ U S W, e = .returned (SL U r S) ∧ ownS encWaiter r U S W ∧ Mem [] w w' [W] := by
 unfold M.i_withWaiter at hm
 refine cE Tryz.func229 ?_
 have M0 := Mem.refl [] w
 refine QA (wN (CE 142 [iv b.Irq, iv b.Priority]) M0 fun l X aa => MW 1 (NA (MW 1 (NE (GD hm fun y a3 av => G_meet (fun a w' => Mem [] w w' [(BK l 142 [iv b.Irq, iv b.Priority])] ∧ Sat Tryz.f229.ntmps [(0, SL d c g), (3, pB l 0), (5, iv y)] a) ?_ ?_)))))
 ·refine GB (G_while (σ := Int) (ρ := Int) (fun k a w' => Mem [] w w' [(BK l 142 [iv b.Irq, iv b.Priority])] ∧ Sat Tryz.f229.ntmps [(0, SL d c g), (3, pB l 0), (5, iv k)] a) a3 (fun a ha => ⟨aa.pk [0], ha.s⟩) ?_)
  clear hm
  intro k br hm ay be bh ⟨ab, ao⟩
  refine G_use ao (GS (GS (GD hm fun a4 aw au => G_meet (fun a w' => Mem [] w w' [(BK l 142 [iv b.Irq, iv b.Priority])] ∧ Sat Tryz.f229.ntmps [(0, SL d c g), (3, pB l 0), (5, iv k), (18, .bool a4)] a) ?_ ?_)))
  ·have hm := aw
   refine G_quiet (by kernel_rfl) (by kernel_rfl) ab (MS 5 [(0, SL d c g), (3, pB l 0), (5, iv k), (10, .bool (decide (k < (c.length : Int))))] ?_)
   rcases gx_bif hm with ⟨H, hm⟩ | ⟨H, hm⟩
   ·refine zK 10 true H (MZ 2 (GD hm fun B T hm => zV (elemP d (k.toNat * 2)) (fun w_ M_ => (eI (G.mem0 M_) rfl T)) (zV (.agg #[iv B.Irq, iv B.Priority]) (fun w_ M_ => (eE true 2 0 (k.toNat * 2) (G.mem0 M_) T)) (zV (.agg #[iv b.Irq, iv b.Priority]) (fun w_ M_ => (eL true 2 0 (M_.blk 0 rfl))) (GD hm fun C az hm => ZC (iv C) (fun w_ M_ => c_i_compareUrgency w_ B b az) (MZ 2 (Z_end fun bi ac => ?_)))))))
    obtain rfl := HS hm
    exact NM fun a ha => ⟨ac.pk [0], ha.s⟩
   refine zK 10 false H (MZ 8 (Z_end fun bj ad => ?_))
   obtain rfl := HS hm
   exact NM fun a ha => ⟨ad.pk [0], ha.s⟩
  intro bf a9 ⟨O, ap⟩
  refine N_use ap ?_
  have hm := au
  refine TN (GT hm (fun I hm => ?_) fun I hm => ?_)
  ·refine GK (TN (GB (GR (MW 3 (WN (BN ?_))))))
   cases hm
   exact N_loop fun a ha => ⟨_, rfl, O.pk [0], ha.s⟩
  refine XA ?_
  obtain rfl := HS hm
  obtain rfl := ay _ rfl
  exact NM fun a ha => ⟨O.pk [0], ha.s⟩
 intro bg bk ⟨ae, aq⟩
 refine N_use aq ?_
 have hm := av
 refine TN (GS (GD hm fun z ar hm => GU [(0, SL d c g), (3, pB l 0), (5, iv y)] (DL 6 [[],[],[0,1],[],[],[4]] [[],[],[0],[],[],[]] (EM 6) (EM 6) (EM 6) (EM 6) (fun _ => []) [fun f v s => ∃ x u, v = (.slice x ([] : List Waiter).length u : Value) ∧ ownS encWaiter ([] : List Waiter) x u s, QV (.slice d c.length g), fun f v s => ∃ o m, v = (.slice o z.length m : Value) ∧ ownS encWaiter z o m s, QV (iv y), QV (.agg #[iv b.Irq, iv b.Priority]), fun f v s => ∃ q n, v = (.slice q [b].length n : Value) ∧ ownS encWaiter [b] q n s] [] [2, 3, 5] [2, 5] (ae.preNil 6) (AC ?_ (AC ?_ (AC ?_ (AC ?_ (AC ?_ (AC ?_ AN)))))) ?_)))
 ·intro t A R bl af
  exact wL (E := encWaiter) ([] : List Waiter) 0 [] 142 af fun x u a5 bm J ag => WN (oE (SL x ([] : List Waiter) u) a5 ⟨x, u, rfl, J⟩ (Mem.mid ag))
 ·intro t A R ba ah
  exact OM ⟨rfl, rfl⟩ ah
 ·intro t A v0_ hb0_
  obtain ⟨x, u, rfl, J⟩ := hb0_
  rintro v1_ ⟨rfl, _⟩ R bn P
  exact wA 16 [iv 0, iv 0] 2 P J (G.mem0 P) ar fun o m a6 bo K ai => WN (oE (SL o z m) a6 ⟨o, m, rfl, K⟩ (Mem.takeOver ai))
 ·intro t A R bb aj
  exact OM ⟨rfl, rfl⟩ aj
 ·intro t A R bc Q
  exact OV ⟨rfl, rfl⟩ (eL true 2 0 (Q.blk 0 rfl)) Q
 ·rintro t A v4_ ⟨rfl, _⟩ R bp ak
  exact wL (E := encWaiter) [b] 1 [iv b.Irq, iv b.Priority] 142 ak fun q n a7 bq L al => WN (oE (SL q [b] n) a7 ⟨q, n, rfl, L⟩ (Mem.mid al))
 intro t A v2_ hb2_
 obtain ⟨o, m, rfl, K⟩ := hb2_
 rintro v3_ ⟨rfl, _⟩ v5_ hb5_
 obtain ⟨q, n, rfl, L⟩ := hb5_
 intro Y am
 have D : Mem [] w Y [(BK l 142 [iv b.Irq, iv b.Priority]), (t 2), (t 5)] := am
 refine GD hm fun V a0 hm => WC ((c_slices_Insert_252 Y z o m (t 2) K y [b] q n (t 5) L (D.hasPick [1, 2]) (D.nodupPick [1, 2] (by kernel_rfl)) a0).mono ?_)
 rintro e_ bd ⟨N, F, a8, rfl, ax, Z⟩
 have an := D.callF' [1, 2] [0] (by kernel_rfl) Z
 refine ⟨_, rfl, ?_⟩
 refine wR 1 [(4, SL N V F)] bd (NC ?_)
 obtain rfl := HS hm
 exact RA [SL N V F] (⟨N, F, a8, rfl, ax, an.pk [1]⟩)
theorem c_i_settled (w : World) (C : Queue) (W U) (cf : rdS encSlot w C.Slots W U) (X V) (cg : rdS encWaiter w C.Waiting X V) {r : Queue} (hm : M.i_settled C = some r) :
  Calls Tryz.prog 182 #[.agg #[SL W C.Slots U, SL X C.Waiting V]] w fun e w' => ∃ bg bb bj bh bc bk, e = .returned (.agg #[SL bg r.Slots bb, SL bh r.Waiting bc]) ∧ ownS encSlot r.Slots bg bb bj ∧ ownS encWaiter r.Waiting bh bc bk ∧ Mem [] w w' [bj, bk] := by
 unfold M.i_settled at hm
 refine cE Tryz.func182 ?_
 have M0 := Mem.refl [] w
 refine QA (wN (CE 85 [SL W C.Slots U, SL X C.Waiting V]) M0 fun dw dx bv => wN (CE 85 [SN, SN]) bv fun x bm ad => NA (wV (.agg #[SL W C.Slots U, SL X C.Waiting V]) bm (eL true 2 0 (ad.blk 0 rfl)) (GD hm fun ai cw hm => WC ((c_i_newQueue bm C W U (cf.mem0 ad) X V (cg.mem0 ad) cw).mono ?_))))
 rintro e_ dy ⟨c, m, c3, ar, an, c4, rfl, cm, cn, bp⟩
 have bw := ad.call bp
 refine ⟨_, rfl, ?_⟩
 refine wN (CE 85 [SN, SN]) bw fun l dz bx => wS true 2 0 (.agg #[SL c ai.Slots m, SL ar ai.Waiting an]) 4 [SL c ai.Slots m, SL ar ai.Waiting an] bx rfl fun d0 bz => NE (GD hm fun y c2 cl => G_meet (fun a w' => ∃ F D aj ak, ownS encWaiter y.1 F D aj ∧ ownS encSlot y.2 c m ak ∧ Mem [] w w' [(BK x 85 [SN, SN]), (BK l 85 [SL c y.2 m, SL F y.1 D]), aj, ak] ∧ Sat Tryz.f182.ntmps [(2, pB x 0), (3, pB l 0)] a) ?_ ?_)
 ·refine GB (G_while (σ := List Waiter × List Slot) (ρ := List Waiter × List Slot) (fun d a w' => ∃ t n S T, ownS encWaiter d.1 t n S ∧ ownS encSlot d.2 c m T ∧ Mem [] w w' [(BK x 85 [SN, SN]), (BK l 85 [SL c d.2 m, SL t d.1 n]), S, T] ∧ Sat Tryz.f182.ntmps [(2, pB x 0), (3, pB l 0)] a) c2 (fun a ha => ⟨ar, an, c4, c3, cn, cm, bz.pk [1, 4, 3, 2], ha.s⟩) ?_)
  clear hm
  intro d d7 hm cv dt bn ⟨t, n, S, T, Q, O, ae, ch⟩
  refine G_use ch (QB (wV (.agg #[SL c d.2 m, SL t d.1 n]) bn (eL true 2 0 (ae.blk 1 rfl)) (GD hm fun bi cx hm => WD (c_i_isSettled bn (⟨d.2, d.1⟩ : Queue) c m (O.r ae 3) t n (Q.r ae 2) cx) ae fun c6 av => MW 1 (NO (GT hm (fun ao hm => ?_) fun ao hm => ?_)))))
  ·refine GK (TN (GB (GS (GD hm fun q bd hm => GD hm fun I cy hm => GU [(2, pB x 0), (3, pB l 0), (10, .bool (!bi))] (DL 8 [[],[0],[1],[2],[],[4],[5],[]] (EM 8) (EM 8) (EM 8) (EM 8) (EM 8) (fun _ => []) [QV (pB l 1), QV (.slice t d.1.length n), QV (elemP t ((0 : Int).toNat * 2)), QV (.agg #[iv q.Irq, iv q.Priority]), QV (pB l 0), QV (.slice c d.2.length m), QV (iv I), fun f v s => ∃ u, v = (pB u 0 : Value) ∧ s = (BK u 142 [iv 0, iv 0])] [] [3, 6, 7] [7] (av.preNil 8) (AC ?_ (AC ?_ (AC ?_ (AC ?_ (AC ?_ (AC ?_ (AC ?_ (AC ?_ AN)))))))) ?_)))))
   ·intro H K R c7 b0
    exact OM ⟨rfl, rfl⟩ b0
   ·rintro H K v0_ ⟨rfl, _⟩ R c8 aw
    exact OV ⟨rfl, rfl⟩ (eL false 1 1 (aw.blk 1 rfl)) aw
   ·rintro H K v1_ ⟨rfl, _⟩ R c9 ax
    exact OV ⟨rfl, rfl⟩ (eI (Q.r ax 2) rfl bd) ax
   ·rintro H K v2_ ⟨rfl, _⟩ R da ay
    exact OV ⟨rfl, rfl⟩ (eE true 2 0 ((0 : Int).toNat * 2) (Q.r ay 2) bd) ay
   ·intro H K R db b1
    exact OM ⟨rfl, rfl⟩ b1
   ·rintro H K v4_ ⟨rfl, _⟩ R dc az
    exact OV ⟨rfl, rfl⟩ (eL false 1 0 (az.blk 1 rfl)) az
   ·rintro H K v5_ ⟨rfl, _⟩ R dd a0
    refine WC ((c_i_firstEmpty dd d.2 c m (O.r a0 3) cy).mono ?_)
    rintro e_ d1 ⟨rfl, br⟩
    refine ⟨_, rfl, ?_⟩
    exact WN (oE (iv I) [] ⟨rfl, rfl⟩ (a0.call0 br))
   ·intro H K R d2 b2
    exact wN (CE 142 [iv 0, iv 0]) b2 fun u d3 b3 => WN (oE (pB u 0) (BK u 142 [iv 0, iv 0]) ⟨u, rfl, rfl⟩ (Mem.mid b3))
   rintro H K v3_ ⟨rfl, _⟩
   rintro v6_ ⟨rfl, _⟩ v7_ hb7_
   obtain ⟨u, rfl, hs7_⟩ := hb7_
   intro de b4
   have a3 : Mem [] w de [(BK x 85 [SN, SN]), (BK l 85 [SL c d.2 m, SL t d.1 n]), S, T, (H 7)] := b4
   rw [hs7_] at a3
   refine wS true 2 0 (.agg #[iv q.Irq, iv q.Priority]) 4 [iv q.Irq, iv q.Priority] a3 rfl fun ac am => MW 1 (NA (MW 1 (wV (SL t d.1 n) ac (eL false 1 1 (am.blk 1 rfl)) (GD hm fun G aq hm => wV (SL (subP t (1 : Int).toNat n 2) G (n - (1 : Int).toNat)) ac (E_slice (E := encWaiter) _ _ _ _ d.1.length 1 (d.1.length : Int) rfl (by kernel_rfl) (Or.inr ⟨_, rfl, by kernel_rfl⟩) (Or.inl ⟨rfl, rfl⟩) (by kernel_rfl) (Q.r am 2) rfl aq) (MW 1 (wS false 1 1 (SL (subP t (1 : Int).toNat n 2) G (n - (1 : Int).toNat)) 1 [SL c d.2 m, SL (subP t (1 : Int).toNat n 2) G (n - (1 : Int).toNat)] am rfl fun al af => NB (MW 2 (NO (GD hm fun A cq ck => G_meet (fun a w' => ∃ aa Z ab, ownS encWaiter A.2 aa Z ab ∧ Mem [] w w' [(BK x 85 [SN, SN]), (BK l 85 [SL c d.2 m, SL aa A.2 Z]), T, (BK u 142 [iv q.Irq, iv q.Priority]), ab] ∧ Sat Tryz.f182.ntmps [(2, pB x 0), (3, pB l 0), (4, pB u 0), (5, iv A.1)] a) ?_ ?_)))))))))
   ·have hm := cq
    refine GT hm (fun ap hm => ?_) fun ap hm => ?_
    ·refine QA (MW 1 (wV (SL c d.2 m) al (eL false 1 0 (af.blk 1 rfl)) (GD hm fun B cz hm => WD (c_i_pendingSlot al d.2 c m (O.r af 3) false cz) af fun df b5 => MW 1 (NO (GD hm fun z be hm => GD hm fun J c0 hm => GU [(2, pB x 0), (3, pB l 0), (4, pB u 0), (5, iv B)] (DL 8 [[],[0],[],[2],[],[3,4],[5],[6]] (EM 8) (EM 8) (EM 8) (EM 8) (EM 8) (fun _ => []) [QV (pB l 1), QV (.slice (subP t (1 : Int).toNat n 2) G.length (n - (1 : Int).toNat)), QV (pB l 0), QV (.slice c d.2.length m), QV (iv B), QV (elemP c (B.toNat * 3)), QV (.agg #[iv z.State, iv z.Irq, iv z.Priority]), QV (.agg #[iv J.Irq, iv J.Priority])] [] [1, 7] [] (b5.preNil 8) (AC ?_ (AC ?_ (AC ?_ (AC ?_ (AC ?_ (AC ?_ (AC ?_ (AC ?_ AN)))))))) ?_))))))
     ·intro N L R dg b6
      exact OM ⟨rfl, rfl⟩ b6
     ·rintro N L v0_ ⟨rfl, _⟩ R dh a4
      exact OV ⟨rfl, rfl⟩ (eL false 1 1 (a4.blk 1 rfl)) a4
     ·intro N L R di b7
      exact OM ⟨rfl, rfl⟩ b7
     ·rintro N L v2_ ⟨rfl, _⟩ R dj a5
      exact OV ⟨rfl, rfl⟩ (eL false 1 0 (a5.blk 1 rfl)) a5
     ·intro N L R dk b8
      exact OM ⟨rfl, rfl⟩ b8
     ·rintro N L v3_ ⟨rfl, _⟩
      rintro v4_ ⟨rfl, _⟩ R dl a6
      exact OV ⟨rfl, rfl⟩ (eI (O.r a6 3) rfl be) a6
     ·rintro N L v5_ ⟨rfl, _⟩ R dm a7
      exact OV ⟨rfl, rfl⟩ (eE true 3 0 (B.toNat * 3) (O.r a7 3) be) a7
     ·rintro N L v6_ ⟨rfl, _⟩ R dn b9
      refine WC ((c_i_waiterOf dn z c0).mono ?_)
      rintro e_ d4 ⟨rfl, bt⟩
      refine ⟨_, rfl, ?_⟩
      exact WN (oE (.agg #[iv J.Irq, iv J.Priority]) [] ⟨rfl, rfl⟩ (b9.call0 bt))
     rintro N L v1_ ⟨rfl, _⟩
     rintro v7_ ⟨rfl, _⟩ bo ca
     have a8 : Mem [] w bo [(BK x 85 [SN, SN]), (BK l 85 [SL c d.2 m, SL (subP t (1 : Int).toNat n 2) G (n - (1 : Int).toNat)]), S, T, (BK u 142 [iv q.Irq, iv q.Priority])] := ca
     refine GD hm fun au c1 hm => WC ((c_i_withWaiter bo G (subP t (1 : Int).toNat n 2) (n - (1 : Int).toNat) ((Q.r a8 2).sliceM aq) J c1).mono ?_)
     rintro e_ dp ⟨ah, ag, c5, rfl, ct, bu⟩
     have cb := a8.call bu
     refine ⟨_, rfl, ?_⟩
     refine MW 1 (wS false 1 1 (SL ah au ag) 1 [SL c d.2 m, SL ah au ag] cb rfl fun d5 cc => WN ?_)
     obtain rfl := HS hm
     exact NM fun a ha => ⟨ah, ag, c5, ct, cc.pk [0, 1, 3, 4, 5], ha.s⟩
    refine GK ?_
    obtain rfl := HS hm
    exact NM fun a ha => ⟨(subP t (1 : Int).toNat n 2), (n - (1 : Int).toNat), S, (Q.partM aq), af.pk [0, 1, 3, 4, 2], ha.s⟩
   intro du P ⟨aa, Z, ab, cr, Y, ci⟩
   refine N_use ci ?_
   have hm := ck
   refine TN (GR (MW 1 (wV (SL c d.2 m) P (eL false 1 0 (Y.blk 1 rfl)) (MW 2 (wV (iv q.Irq) P (eL false 1 0 (Y.blk 3 rfl)) (MW 1 (wV (iv q.Priority) P (eL false 1 1 (Y.blk 3 rfl)) (MW 1 (GD hm fun ds bf hm => wV (elemP c (A.1.toNat * 3)) P (eI (O.r Y 2) rfl bf) (wE true 3 A.1.toNat 0 (A.1.toNat * 3) ds (⟨1, q.Irq, q.Priority⟩ : Slot) (.agg #[iv 1, iv q.Irq, iv q.Priority]) 2 Y O (gxIdx_spec bf).2 fun dq bl cu cd => LX 38 c m d.2 A.1.toNat (⟨1, q.Irq, q.Priority⟩ : Slot) ?_))))))))))
   have ce : Mem [] w dq [(BK x 85 [.slice none 0 0, .slice none 0 0]), (BK l 85 [.slice c (d.2.set A.1.toNat (⟨1, q.Irq, q.Priority⟩ : Slot)).length m, .slice aa A.2.length Z]), bl, (BK u 142 [iv q.Irq, iv q.Priority]), ab] := by rw [@List.length_set _ d.2 A.1.toNat (⟨1, q.Irq, q.Priority⟩ : Slot)]; exact cd
   refine WN (BN ?_)
   cases hm
   exact N_loop fun a ha => ⟨_, rfl, aa, Z, ab, bl, cr, cu, ce.pk [0, 1, 4, 2], ha.s⟩
  refine XA ?_
  obtain rfl := HS hm
  obtain rfl := cv _ rfl
  exact NM fun a ha => ⟨t, n, S, T, Q, O, av.pk [0, 1, 2, 3], ha.s⟩
 intro dv dr ⟨F, D, aj, ak, co, cp, a9, cj⟩
 refine N_use cj ?_
 have hm := cl
 refine NF (wV (.agg #[SL c y.2 m, SL F y.1 D]) dr (eL true 2 0 (a9.blk 1 rfl)) (wS true 2 0 (.agg #[SL c y.2 m, SL F y.1 D]) 0 [SL c y.2 m, SL F y.1 D] a9 rfl fun d6 ba => NC ?_))
 obtain rfl := HS hm
 exact N_ret [.agg #[SL c y.2 m, SL F y.1 D]] (RX true 2 0 (ba.blk 0 rfl) RVs_nil) (⟨c, m, ak, F, D, aj, rfl, cp, co, ba.pk [3, 2]⟩)
theorem c_i_offerIrq (w : World) (c : Queue) (m j) (aa : rdS encSlot w c.Slots m j) (n l) (ab : rdS encWaiter w c.Waiting n l) (d : Int) (i : Int) {r : Queue} (hm : M.i_offerIrq c d i = some r) :
  Calls Tryz.prog 179 #[.agg #[SL m c.Slots j, SL n c.Waiting l], iv d, iv i] w fun e w' => ∃ an aj ap ao ak aq, e = .returned (.agg #[SL an r.Slots aj, SL ao r.Waiting ak]) ∧ ownS encSlot r.Slots an aj ap ∧ ownS encWaiter r.Waiting ao ak aq ∧ Mem [] w w' [ap, aq] := by
 unfold M.i_offerIrq at hm
 refine cE Tryz.func179 ?_
 have M0 := Mem.refl [] w
 refine QA (wN (CE 85 [SL m c.Slots j, SL n c.Waiting l]) M0 fun t b9 a5 => wN (CE 85 [SN, SN]) a5 fun f av O => NA (wV (.agg #[SL m c.Slots j, SL n c.Waiting l]) av (eL true 2 0 (O.blk 0 rfl)) (GD hm fun C bs hm => WC ((c_i_newQueue av c m j (aa.mem0 O) n l (ab.mem0 O) bs).mono ?_))))
 rintro e_ ca ⟨K, I, ar, L, J, au, rfl, bi, al, ax⟩
 have a6 := O.call ax
 refine ⟨_, rfl, ?_⟩
 refine wN (CE 85 [SN, SN]) a6 fun h cb a7 => wS true 2 0 (.agg #[SL K C.Slots I, SL L C.Waiting J]) 4 [SL K C.Slots I, SL L C.Waiting J] a7 rfl fun Y Z => NE (GB (QA (MW 1 (wV (SL m c.Slots j) Y (eL false 1 0 (Z.blk 0 rfl)) (MW 1 (GD hm fun bz bt hm => WD (c_i_findSlot Y c.Slots m j (aa.mem0 Z) d bt) Z fun x D => MW 2 (NO (GD hm fun u bj bg => G_meet (fun a w' => ∃ G E ag H F ah, ownS encSlot u.1 G E ag ∧ ownS encWaiter u.2 H F ah ∧ Mem [] w w' [(BK f 85 [SN, SN]), (BK h 85 [SL G u.1 E, SL H u.2 F]), ag, ah] ∧ Sat Tryz.f179.ntmps [(6, pB f 0), (7, pB h 0)] a) ?_ ?_))))))))
 ·have hm := bj
  refine GT hm (fun ac hm => ?_) fun ac hm => ?_
  ·refine GR (MW 1 (wV (SL m c.Slots j) x (eL false 1 0 (D.blk 0 rfl)) (MW 2 (GD hm fun ae bu hm => WC ((c_i_putIrq x c.Slots m j (aa.mem0 D) d i bu).mono ?_)))))
   rintro e_ b5 ⟨U, R, b1, rfl, bm, az⟩
   have a8 := D.call az
   refine ⟨_, rfl, ?_⟩
   refine MW 4 (wS false 1 0 (SL U ae.1 R) 4 [SL U ae.1 R, SL L C.Waiting J] a8 rfl fun cc a9 => WN ?_)
   obtain rfl := HS hm
   exact NM fun a ha => ⟨U, R, b1, L, J, au, bm, al, a9.pk [1, 4, 5, 3], ha.s⟩
  refine QA (MW 1 (wV (SL n c.Waiting l) x (eL false 1 1 (D.blk 0 rfl)) (MW 1 (GD hm fun b0 bv hm => WD (c_i_waiterIndex x c.Waiting n l (ab.mem0 D) d bv) D fun N P => MW 2 (NO (GD hm fun am bn bh => G_meet (fun a w' => ∃ V S X, ownS encWaiter am V S X ∧ Mem [] w w' [(BK f 85 [SN, SN]), ar, (BK h 85 [SL K C.Slots I, SL V am S]), X] ∧ Sat Tryz.f179.ntmps [(6, pB f 0), (7, pB h 0)] a) ?_ ?_))))))
  ·have hm := bn
   refine GT hm (fun ad hm => ?_) fun ad hm => ?_
   ·refine GR (MW 1 (wV (SL n c.Waiting l) N (eL false 1 1 (P.blk 0 rfl)) (wR 3 [(6, pB f 0), (7, pB h 0), (32, SL n c.Waiting l), (35, .agg #[iv d, iv i])] N (GD hm fun af bw hm => WC ((c_i_withWaiter N c.Waiting n l (ab.mem0 P) (⟨d, i⟩ : Waiter) bw).mono ?_)))))
    rintro e_ b6 ⟨W, T, b2, rfl, bp, a3⟩
    have ba := P.call a3
    refine ⟨_, rfl, ?_⟩
    refine MW 1 (wS false 1 1 (SL W af T) 4 [SL K C.Slots I, SL W af T] ba rfl fun cd bb => WN ?_)
    obtain rfl := HS hm
    exact NM fun a ha => ⟨W, T, b2, bp, bb.pk [1, 2, 4, 5], ha.s⟩
   refine GK ?_
   obtain rfl := HS hm
   exact NM fun a ha => ⟨L, J, au, al, P.pk [1, 2, 4, 3], ha.s⟩
  intro b7 ce ⟨V, S, X, bo, bc, be⟩
  refine N_use be ?_
  have hm := bh
  obtain rfl := HS hm
  exact NM fun a ha => ⟨K, I, ar, V, S, X, bi, bo, bc.pk [0, 2, 1, 3], ha.s⟩
 intro b8 aw ⟨G, E, ag, H, F, ah, bk, bl, Q, bf⟩
 refine N_use bf ?_
 have hm := bg
 refine BN (NF (wV (.agg #[SL G u.1 E, SL H u.2 F]) aw (eL true 2 0 (Q.blk 1 rfl)) (GD hm fun q bx hm => WC ((c_i_settled aw (⟨u.1, u.2⟩ : Queue) G E (bk.r Q 2) H F (bl.r Q 3) bx).mono ?_))))
 rintro e_ cf ⟨A, y, b3, B, z, b4, rfl, bq, br, a4⟩
 have bd := Q.call a4
 refine ⟨_, rfl, ?_⟩
 refine wS true 2 0 (.agg #[SL A q.Slots y, SL B q.Waiting z]) 0 [SL A q.Slots y, SL B q.Waiting z] bd rfl fun cg ai => NC ?_
 obtain rfl := HS hm
 exact N_ret [.agg #[SL A q.Slots y, SL B q.Waiting z]] (RX true 2 0 (ai.blk 0 rfl) RVs_nil) (⟨A, y, b3, B, z, b4, rfl, bq, br, ai.pk [4, 5]⟩)
theorem c_i_raiseIrq (w : World) (a : Interface) (y x) (ag : rdS Gx.encI w a.Stack y x) (t n) (O : rdS encSlot w a.Queue.Slots t n) (u q) (P : rdS encWaiter w a.Queue.Waiting u q) (z : Int) (A : Int) {r : Interface} (hm : M.i_raiseIrq a z A = some r) :
  Calls Tryz.prog 137 #[.agg #[iv a.Mask, SL y a.Stack x, SL t a.Queue.Slots n, SL u a.Queue.Waiting q], iv z, iv A] w fun e w' => ∃ Q I V R J W S K X, e = .returned (.agg #[iv r.Mask, SL Q r.Stack I, SL R r.Queue.Slots J, SL S r.Queue.Waiting K]) ∧ ownS Gx.encI r.Stack Q I V ∧ ownS encSlot r.Queue.Slots R J W ∧ ownS encWaiter r.Queue.Waiting S K X ∧ Mem [] w w' [V, W, X] := by
 unfold M.i_raiseIrq at hm
 refine cE Tryz.func137 ?_
 have M0 := Mem.refl [] w
 refine QA (wN (CE 87 [iv a.Mask, SL y a.Stack x, SL t a.Queue.Slots n, SL u a.Queue.Waiting q]) M0 fun af ax ab => wN (CE 87 [iv 0, SN, SN, SN]) ab fun C Y B => NA (wV (.agg #[iv a.Mask, SL y a.Stack x, SL t a.Queue.Slots n, SL u a.Queue.Waiting q]) Y (eL true 4 0 (B.blk 0 rfl)) (GD hm fun c ak hm => WC ((c_i_newInterface Y a y x (ag.mem0 B) t n (O.mem0 B) u q (P.mem0 B) ak).mono ?_))))
 rintro e_ ay ⟨j, f, am, T, L, av, U, N, aw, rfl, ah, ar, au, Z⟩
 have ac := B.call Z
 refine ⟨_, rfl, ?_⟩
 refine wN (CE 87 [iv 0, SN, SN, SN]) ac fun E az ad => wS true 4 0 (.agg #[iv c.Mask, SL j c.Stack f, SL T c.Queue.Slots L, SL U c.Queue.Waiting N]) 5 [iv c.Mask, SL j c.Stack f, SL T c.Queue.Slots L, SL U c.Queue.Waiting N] ad rfl fun F D => NA (MW 1 (wV (.agg #[SL t a.Queue.Slots n, SL u a.Queue.Waiting q]) F (eL true 2 2 (D.blk 0 rfl)) (MW 2 (GD hm fun d al hm => WC ((c_i_offerIrq F a.Queue t n (O.mem0 D) u q (P.mem0 D) z A al).mono ?_)))))
 rintro e_ ap ⟨l, h, an, m, i, ao, rfl, ai, aj, aa⟩
 have ae := D.call aa
 refine ⟨_, rfl, ?_⟩
 refine MW 1 (wS true 2 2 (.agg #[SL l d.Slots h, SL m d.Waiting i]) 5 [iv c.Mask, SL j c.Stack f, SL l d.Slots h, SL m d.Waiting i] ae rfl fun aq G => NA (wV (.agg #[iv c.Mask, SL j c.Stack f, SL l d.Slots h, SL m d.Waiting i]) aq (eL true 4 0 (G.blk 5 rfl)) (wS true 4 0 (.agg #[iv c.Mask, SL j c.Stack f, SL l d.Slots h, SL m d.Waiting i]) 1 [iv c.Mask, SL j c.Stack f, SL l d.Slots h, SL m d.Waiting i] G rfl fun a0 H => NC ?_)))
 obtain rfl := HS hm
 exact N_ret [.agg #[iv c.Mask, SL j c.Stack f, SL l d.Slots h, SL m d.Waiting i]] (RX true 4 0 (H.blk 1 rfl) RVs_nil) (⟨j, f, am, l, h, an, m, i, ao, rfl, ah, ai, aj, H.pk [2, 6, 7]⟩)
theorem c_i_Machine_sync (w : World) (b : Machine) (m n C) (a5 : ownS encRoute b.Routes m n C) (A B D) (a6 : ownS Gx.encB b.Enabled A B D) (t u G) (cq : ownS Gx.encB b.Raised t u G) (g z H) (I) (cr : ownD deepInterface b.Cpus g z H I) (k : Nat) (hA : ∀ q ∈ List.flatten [(BK k 32 [SL m b.Routes n, SL A b.Enabled B, SL t b.Raised u, SL g b.Cpus z]), C, D, G, H, I], w.heap[q.1]? = some q.2) (hN : (idsOf [(BK k 32 [SL m b.Routes n, SL A b.Enabled B, SL t b.Raised u, SL g b.Cpus z]), C, D, G, H, I]).Nodup) {r : (List Route) × (List Bool) × (List Bool) × (List Interface)} (hm : M.i_Machine_sync b = some r) :
  Calls Tryz.prog 79 #[pB k 0] w fun e w' => ∃ bo bg bs bp bh bt bq bi bu br bj bv bw, e = .returned (.tuple #[]) ∧ ownS encRoute r.1 bo bg bs ∧ ownS Gx.encB r.2.1 bp bh bt ∧ ownS Gx.encB r.2.2.1 bq bi bu ∧ ownD deepInterface r.2.2.2 br bj bv bw ∧ Mem (idsOf [(BK k 32 [SL m b.Routes n, SL A b.Enabled B, SL t b.Raised u, SL g b.Cpus z]), C, D, G, H, I]) w w' [(BK k 32 [SL bo r.1 bg, SL bp r.2.1 bh, SL bq r.2.2.1 bi, SL br r.2.2.2 bj]), bs, bt, bu, bv, bw] := by
 unfold M.i_Machine_sync at hm
 refine cE Tryz.func79 ?_
 have M0 := Mem.start' w [(BK k 32 [SL m b.Routes n, SL A b.Enabled B, SL t b.Raised u, SL g b.Cpus z]), C, D, G, H, I] hA hN
 refine QA (MW 3 (wV (SL m b.Routes n) w (eL false 1 0 (M0.blk 0 rfl)) (MW 2 (NO (GD hm fun ao c6 cp => G_meet (fun a w' => ∃ ap aq ar, ownS Gx.encB ao.1 t u ap ∧ ownD deepInterface ao.2 g z aq ar ∧ Mem (idsOf [(BK k 32 [SL m b.Routes n, SL A b.Enabled B, SL t b.Raised u, SL g b.Cpus z]), C, D, G, H, I]) w w' [(BK k 32 [SL m b.Routes n, SL A b.Enabled B, SL t ao.1 u, SL g ao.2 z]), C, D, ap, aq, ar] ∧ Sat Tryz.f79.ntmps [] a) ?_ ?_)))))
 ·refine GB (G_while (σ := Int × List Bool × List Interface) (ρ := List Bool × List Interface) (fun c a w' => ∃ af X Y, ownS Gx.encB c.2.1 t u af ∧ ownD deepInterface c.2.2 g z X Y ∧ Mem (idsOf [(BK k 32 [SL m b.Routes n, SL A b.Enabled B, SL t b.Raised u, SL g b.Cpus z]), C, D, G, H, I]) w w' [(BK k 32 [SL m b.Routes n, SL A b.Enabled B, SL t c.2.1 u, SL g c.2.2 z]), C, D, af, X, Y] ∧ Sat Tryz.f79.ntmps [(0, pB k 0), (8, SL m b.Routes n), (9, iv (b.Routes.length : Int)), (10, iv c.1)] a) c6 (fun a ha => ⟨G, H, I, cq, cr, M0.pk [0, 1, 2, 3, 4, 5], ha.s⟩) ?_)
  clear hm
  intro c dy hm c1 dp ax ⟨af, X, Y, ac, a7, aj, cj⟩
  refine G_use cj (QA (MW 1 (NE (GT hm (fun az hm => ?_) fun az hm => ?_))))
  ·refine KD (MW 1 (GD hm fun d bk hm => wV (elemP m (c.1.toNat * 2)) ax (eI (a5.r aj 1) rfl bk) (wV (.agg #[iv d.Priority, iv d.Target]) ax (eE true 2 0 (c.1.toNat * 2) (a5.r aj 1) bk) (wN (CE 129 [iv 0, iv 0]) aj fun y db b2 => MW 1 (wS true 2 0 (.agg #[iv d.Priority, iv d.Target]) 6 [iv d.Priority, iv d.Target] b2 rfl fun dv b3 => NE (G_quiet (by kernel_rfl) (by kernel_rfl) b3 (MZ 3 (zV (SL g c.2.2 z) (fun w_ M_ => (eL false 1 3 (M_.blk 0 rfl))) (MZ 1 (zV (iv d.Target) (fun w_ M_ => (eL false 1 1 (M_.blk 6 rfl))) (GD hm fun x c7 hm => ?_)))))))))))
   obtain ⟨dz, am, aa, ah⟩ := id a7
   obtain ⟨l, N⟩ := gxIdx_fst am c7
   refine zV (elemP g (d.Target.toNat * 4)) (fun w_ M_ => (eI (aa.r M_ 4) (len_fst am) N)) (MZ 1 (Z_end fun F O => (TN (GS (GD hm fun c8 cu cn => G_meet (fun a w' => Mem (idsOf [(BK k 32 [SL m b.Routes n, SL A b.Enabled B, SL t b.Raised u, SL g b.Cpus z]), C, D, G, H, I]) w w' [(BK k 32 [SL m b.Routes n, SL A b.Enabled B, SL t c.2.1 u, SL g c.2.2 z]), C, D, af, X, Y, (BK y 129 [iv d.Priority, iv d.Target])] ∧ Sat Tryz.f79.ntmps [(0, pB k 0), (2, iv c.1), (3, pB y 0), (4, elemP g (d.Target.toNat * 4)), (8, SL m b.Routes n), (9, iv (b.Routes.length : Int)), (10, iv c.1), (46, .bool c8)] a) ?_ ?_)))))
   ·have hm := cu
    refine GR (MW 3 (wV (SL A b.Enabled B) F (eL false 1 1 (O.blk 0 rfl)) (MW 1 (GD hm fun bx bl hm => wV (elemP A (c.1.toNat * 1)) F (eI (a6.r O 2) rfl bl) (wV (.bool bx) F (eE false 1 0 (c.1.toNat * 1) (a6.r O 2) bl) (wR 1 [(0, pB k 0), (2, iv c.1), (3, pB y 0), (4, elemP g (d.Target.toNat * 4)), (8, SL m b.Routes n), (9, iv (b.Routes.length : Int)), (10, iv c.1), (29, .bool bx)] F ?_))))))
    rcases gx_bif hm with ⟨a0, hm⟩ | ⟨a0, hm⟩
    ·refine wK 29 true a0 (MW 3 (wV (SL t c.2.1 u) F (eL false 1 2 (O.blk 0 rfl)) (MW 1 (GD hm fun bz bm hm => wV (elemP t (c.1.toNat * 1)) F (eI (ac.r O 3) rfl bm) (wV (.bool bz) F (eE false 1 0 (c.1.toNat * 1) (ac.r O 3) bm) (wR 2 [(0, pB k 0), (2, iv c.1), (3, pB y 0), (4, elemP g (d.Target.toNat * 4)), (8, SL m b.Routes n), (9, iv (b.Routes.length : Int)), (10, iv c.1), (38, .bool bz)] F ?_))))))
     rcases gx_bif hm with ⟨a3, hm⟩ | ⟨a3, hm⟩
     ·refine wK 38 true a3 (MW 1 (wV (elemP g (d.Target.toNat * 4)) F (E_nilE (E := deepInterface.E) _ (d.Target.toNat * 4) rfl (by kernel_rfl) (aa.r O 4) N) (wV (elemP g (d.Target.toNat * 4 + 1)) F (eF 1 (d.Target.toNat * 4) 1 (aa.r O 4) N) (wV (SL ((l 0).1) x.Stack ((l 0).2)) F (eE false 1 1 (d.Target.toNat * 4 + 1) (aa.r O 4) N) (MW 1 (GD hm fun c9 c3 hm => WD (c_slices_Contains_136 F x.Stack ((l 0).1) ((l 0).2) ((ah.r O 5).a_ N 0) c.1 c3) O fun dc b4 => MW 2 (WN ?_)))))))
      obtain rfl := HS hm
      exact NM fun a ha => ⟨b4.pk [0, 1, 2, 3, 4, 5, 6], ha.s⟩
     refine wK 38 false a3 (MW 8 (WN ?_))
     obtain rfl := HS hm
     exact NM fun a ha => ⟨O.pk [0, 1, 2, 3, 4, 5, 6], ha.s⟩
    refine wK 29 false a0 (wR 17 [(0, pB k 0), (2, iv c.1), (3, pB y 0), (4, elemP g (d.Target.toNat * 4)), (8, SL m b.Routes n), (9, iv (b.Routes.length : Int)), (10, iv c.1), (46, .bool false)] F (WN ?_))
    obtain rfl := HS hm
    exact NM fun a ha => ⟨O.pk [0, 1, 2, 3, 4, 5, 6], ha.s⟩
   intro dq ay ⟨ak, ck⟩
   refine N_use ck ?_
   have hm := cn
   refine TN (GD hm fun an cv co => G_meet (fun a w' => ∃ au av aw, ownS Gx.encB an.1 t u au ∧ ownD deepInterface an.2 g z av aw ∧ Mem (idsOf [(BK k 32 [SL m b.Routes n, SL A b.Enabled B, SL t b.Raised u, SL g b.Cpus z]), C, D, G, H, I]) w w' [(BK k 32 [SL m b.Routes n, SL A b.Enabled B, SL t an.1 u, SL g an.2 z]), C, D, au, av, aw] ∧ Sat Tryz.f79.ntmps [(0, pB k 0), (8, SL m b.Routes n), (9, iv (b.Routes.length : Int)), (10, iv c.1)] a) ?_ ?_)
   ·have hm := cv
    refine GT hm (fun a4 hm => ?_) fun a4 hm => ?_
    ·refine QA (MW 3 (wV (SL t c.2.1 u) ay (eL false 1 2 (ak.blk 0 rfl)) (MW 1 (GD hm fun dn bn hm => wV (elemP t (c.1.toNat * 1)) ay (eI (ac.r ak 3) rfl bn) (wE false 1 c.1.toNat 0 (c.1.toNat * 1) dn false (.bool false) 3 ak ac (gxIdx_spec bn).2 fun dd ab cy b5 => LX 50 t u c.2.1 c.1.toNat false ?_)))))
     have b6 : Mem (idsOf [(BK k 32 [.slice m b.Routes.length n, .slice A b.Enabled.length B, .slice t b.Raised.length u, .slice g b.Cpus.length z]), C, D, G, H, I]) w dd [(BK k 32 [.slice m b.Routes.length n, .slice A b.Enabled.length B, .slice t (c.2.1.set c.1.toNat false).length u, .slice g c.2.2.length z]), C, D, ab, X, Y, (BK y 129 [iv d.Priority, iv d.Target])] := by rw [@List.length_set _ c.2.1 c.1.toNat false]; exact b5
     refine NO (GD hm fun o c4 hm => GU [(0, pB k 0), (2, iv c.1), (3, pB y 0), (4, elemP g (d.Target.toNat * 4)), (8, SL m b.Routes n), (9, iv (b.Routes.length : Int)), (10, iv c.1), (50, SL t (c.2.1.set c.1.toNat false) u), (51, iv c.1), (52, elemP t (c.1.toNat * 1))] (DL 8 [[],[],[1],[2],[],[],[5],[3,4,6]] (EM 8) (EM 8) (EM 8) (EM 8) (EM 8) (fun _ => []) [QV (elemP g (d.Target.toNat * 4)), QV (elemP g (d.Target.toNat * 4)), QV (elemP g (d.Target.toNat * 4)), QV (.agg #[iv x.Mask, SL ((l 0).1) x.Stack ((l 0).2), SL ((l 1).1) x.Queue.Slots ((l 1).2), SL ((l 2).1) x.Queue.Waiting ((l 2).2)]), QV (iv c.1), QV (pB y 0), QV (iv d.Priority), fun f v s => ∃ T P J U Q K V S L, v = (.agg #[iv o.Mask, SL T o.Stack P, SL U o.Queue.Slots Q, SL V o.Queue.Waiting S] : Value) ∧ s = (J ++ (K ++ L)) ∧ ownS Gx.encI o.Stack T P J ∧ ownS encSlot o.Queue.Slots U Q K ∧ ownS encWaiter o.Queue.Waiting V S L] [] [0, 7] [7] (b6.preNil 8) (AC ?_ (AC ?_ (AC ?_ (AC ?_ (AC ?_ (AC ?_ (AC ?_ (AC ?_ AN)))))))) ?_))
     ·intro W Z R de b7
      exact OM ⟨rfl, rfl⟩ b7
     ·intro W Z R df b8
      exact OM ⟨rfl, rfl⟩ b8
     ·rintro W Z v1_ ⟨rfl, _⟩ R dg bd
      exact OV ⟨rfl, rfl⟩ (E_nilE (E := deepInterface.E) _ (d.Target.toNat * 4) rfl (by kernel_rfl) (aa.r bd 4) N) bd
     ·rintro W Z v2_ ⟨rfl, _⟩ R dh be
      exact OV ⟨rfl, rfl⟩ (eE true 4 0 (d.Target.toNat * 4) (aa.r be 4) N) be
     ·intro W Z R di b9
      exact OM ⟨rfl, rfl⟩ b9
     ·intro W Z R dj ca
      exact OM ⟨rfl, rfl⟩ ca
     ·rintro W Z v5_ ⟨rfl, _⟩ R dk bf
      exact OV ⟨rfl, rfl⟩ (eL false 1 0 (bf.blk 6 rfl)) bf
     ·rintro W Z v3_ ⟨rfl, _⟩
      rintro v4_ ⟨rfl, _⟩
      rintro v6_ ⟨rfl, _⟩ R dl al
      refine WC ((c_i_raiseIrq dl x ((l 0).1) ((l 0).2) ((ah.r al 5).a_ N 0) ((l 1).1) ((l 1).2) ((ah.r al 5).a_ N 1) ((l 2).1) ((l 2).2) ((ah.r al 5).a_ N 2) c.1 d.Priority c4).mono ?_)
      rintro e_ dw ⟨T, P, J, U, Q, K, V, S, L, rfl, a8, a9, ba, b1⟩
      refine ⟨_, rfl, ?_⟩
      exact WN (oE (.agg #[iv o.Mask, SL T o.Stack P, SL U o.Queue.Slots Q, SL V o.Queue.Waiting S]) (J ++ (K ++ L)) ⟨T, P, J, U, Q, K, V, S, L, rfl, rfl, a8, a9, ba⟩ (Mem.callMid al (b1.permF (by simp))))
     rintro W Z v0_ ⟨rfl, _⟩ v7_ hb7_
     obtain ⟨T, P, J, U, Q, K, V, S, L, rfl, hs7_, a8, a9, ba⟩ := hb7_
     intro bb cb
     have ag : Mem (idsOf [(BK k 32 [SL m b.Routes n, SL A b.Enabled B, SL t b.Raised u, SL g b.Cpus z]), C, D, G, H, I]) w bb [(BK k 32 [SL m b.Routes n, SL A b.Enabled B, SL t (c.2.1.set c.1.toNat false) u, SL g c.2.2 z]), C, D, ab, X, Y, (BK y 129 [iv d.Priority, iv d.Target]), J, K, L] := cb.permF (by simp [hs7_, SL])
     refine wV (elemP g (d.Target.toNat * 4)) bb (E_nilE (E := deepInterface.E) _ (d.Target.toNat * 4) rfl (by kernel_rfl) (aa.r ag 4) N) ?_
     obtain ⟨ad, da, ae, c5, dt, c2⟩ := ah.lens (gxIdx_spec N).2
     have cc := ag.cut 5 (sa := ad) (sb := da) (sc := ae) c5 (by kernel_rfl)
     refine wE true 4 d.Target.toNat 0 (d.Target.toNat * 4) (x, l) (o, (plOf [(T, P), (U, Q), (V, S)])) (.agg #[iv o.Mask, SL T o.Stack P, SL U o.Queue.Slots Q, SL V o.Queue.Waiting S]) 4 cc aa (gxIdx_spec N).2 ?_
     intro bc ai cz cd
     have ce : Mem (idsOf [(BK k 32 [SL m b.Routes n, SL A b.Enabled B, SL t b.Raised u, SL g b.Cpus z]), C, D, G, H, I]) w bc [(BK k 32 [SL m b.Routes n, SL A b.Enabled B, SL t (c.2.1.set c.1.toNat false) u, SL g c.2.2 z]), C, D, ab, ai, (BK y 129 [iv d.Priority, iv d.Target]), ad, J, K, L, ae] := cd.pk [0, 1, 2, 3, 4, 6, 5, 7, 8, 9, 11]
     have cf : Mem (idsOf [(BK k 32 [SL m b.Routes n, SL A b.Enabled B, SL t b.Raised u, SL g b.Cpus z]), C, D, G, H, I]) w bc [(BK k 32 [SL m b.Routes n, SL A b.Enabled B, SL t (c.2.1.set c.1.toNat false) u, SL g c.2.2 z]), C, D, ab, ai, (BK y 129 [iv d.Priority, iv d.Target]), (ad ++ ((J ++ (K ++ (L ++ []))) ++ ae))] := ce.regroup (by simp)
     have c0 : ownD deepInterface (c.2.2.set d.Target.toNat o) g z ai (ad ++ ((J ++ (K ++ (L ++ []))) ++ ae)) := ⟨_, set_fst am d.Target.toNat (o, (plOf [(T, P), (U, Q), (V, S)])), cz, (c2 (o, (plOf [(T, P), (U, Q), (V, S)])) _ (ownI_cons (i := ⟨Int, Gx.encI, _, _, _⟩) a8 (ownI_cons (i := ⟨Slot, encSlot, _, _, _⟩) a9 (ownI_cons (i := ⟨Waiter, encWaiter, _, _, _⟩) ba ownI_nil))))⟩
     have du := gxIdx_put o (gxIdx_down am N)
     have cg : Mem (idsOf [(BK k 32 [.slice m b.Routes.length n, .slice A b.Enabled.length B, .slice t b.Raised.length u, .slice g b.Cpus.length z]), C, D, G, H, I]) w bc [(BK k 32 [.slice m b.Routes.length n, .slice A b.Enabled.length B, .slice t (c.2.1.set c.1.toNat false).length u, .slice g (c.2.2.set d.Target.toNat o).length z]), C, D, ab, ai, (BK y 129 [iv d.Priority, iv d.Target]), (ad ++ ((J ++ (K ++ (L ++ []))) ++ ae))] := by rw [@List.length_set _ c.2.2 d.Target.toNat o]; exact cf
     refine WN ?_
     obtain rfl := HS hm
     exact NM fun a ha => ⟨ab, ai, (ad ++ ((J ++ (K ++ (L ++ []))) ++ ae)), cy, c0, cg.pk [0, 1, 2, 3, 4, 6], ha.s⟩
    refine GK ?_
    obtain rfl := HS hm
    exact NM fun a ha => ⟨af, X, Y, ac, a7, ak.pk [0, 1, 2, 3, 4, 5], ha.s⟩
   intro dr dm ⟨au, av, aw, cw, cx, ch, cl⟩
   refine N_use cl ?_
   have hm := co
   refine BN (TN (GR (MW 2 (WN ?_))))
   cases hm
   exact N_loop fun a ha => ⟨_, rfl, au, av, aw, cw, cx, ch.pk [0, 1, 2, 3, 4, 5], ha.s⟩
  refine XA ?_
  obtain rfl := HS hm
  obtain rfl := c1 _ rfl
  exact NM fun a ha => ⟨af, X, Y, ac, a7, aj.pk [0, 1, 2, 3, 4, 5], ha.s⟩
 intro ds dx ⟨ap, aq, ar, cs, ct, ci, cm⟩
 refine N_use cm ?_
 have hm := cp
 obtain rfl := HS hm
 exact N_end [] (RVs_nil) (⟨m, n, C, A, B, D, t, u, ap, g, z, aq, ar, rfl, a5, a6, cs, ct, ci.pk [0, 1, 2, 3, 4, 5]⟩)
theorem c_i_runningPriority (w : World) (a : Interface) (d g) (o : rdS Gx.encI w a.Stack d g) (f c) (u : rdS encSlot w a.Queue.Slots f c) (m k) (x : rdS encWaiter w a.Queue.Waiting m k) {r : Int} (hm : M.i_runningPriority a = some r) :
  Calls Tryz.prog 139 #[.agg #[iv a.Mask, SL d a.Stack g, SL f a.Queue.Slots c, SL m a.Queue.Waiting k]] w fun e w' => e = .returned (iv r) ∧ Mem [] w w' [] := by
 unfold M.i_runningPriority at hm
 refine cE Tryz.func139 ?_
 have M0 := Mem.refl [] w
 refine QA (wN (CE 87 [iv a.Mask, SL d a.Stack g, SL f a.Queue.Slots c, SL m a.Queue.Waiting k]) M0 fun b h j => MW 1 (NB (MW 1 (wV (SL d a.Stack g) h (eL false 1 1 (j.blk 0 rfl)) (MW 2 (NO (GT hm (fun l hm => ?_) fun l hm => ?_)))))))
 ·refine QA (MW 1 (ND ?_))
  obtain rfl := HS hm
  exact RA [iv 16] (⟨rfl, j.pk []⟩)
 refine GK (TN (GS (G_quiet (by kernel_rfl) (by kernel_rfl) j (MZ 2 (zV (SL f a.Queue.Slots c) (fun w_ M_ => (eL false 1 2 (M_.blk 0 rfl))) (MZ 1 (zV (SL d a.Stack g) (fun w_ M_ => (eL false 1 1 (M_.blk 0 rfl))) (MZ 1 (zV (SL d a.Stack g) (fun w_ M_ => (eL false 1 1 (M_.blk 0 rfl))) (MZ 2 (GD hm fun n q hm => zV (elemP d ((w64 ((a.Stack.length : Int) - 1)).toNat * 1)) (fun w_ M_ => (eI (o.mem0 M_) rfl q)) (zV (iv n) (fun w_ M_ => (eE false 1 0 ((w64 ((a.Stack.length : Int) - 1)).toNat * 1) (o.mem0 M_) q)) (GD hm fun i v hm => ZC (iv i) (fun w_ M_ => c_i_priorityIn w_ a.Queue.Slots f c (u.mem0 M_) n v) (MZ 1 (Z_end fun y t => (TN (G_ret ?_)))))))))))))))))
 obtain rfl := HS hm
 exact RA [iv i] (⟨rfl, t.pk []⟩)
end Go.Proofs.YtllhajkgkghhdaaGreat
set_option linter.unusedVariables false
set_option linter.unusedSimpArgs false
set_option maxRecDepth 100000
set_option maxHeartbeats 4000000
namespace Go.Proofs.YtllhajkgkghhdaaGreat
open Go.Gx
theorem c_i_takeSlot (w : World) (d : List Slot) (c g) (y : rdS encSlot w d c g) (u : Int) {r : (List Slot) × Int × Bool} (hm : M.i_takeSlot d u = some r) :
  Calls Tryz.prog 180 #[SL c d g, iv u] w fun e w' => ∃ L J N, e = .returned (.tuple #[SL L r.1 J, iv r.2.1, .bool r.2.2]) ∧ ownS encSlot r.1 L J N ∧ Mem [] w w' [N] := by
 unfold M.i_takeSlot at hm
 refine cE Tryz.func180 ?_
 have M0 := Mem.refl [] w
 refine QA (MW 3 (NA (MW 1 (GD hm fun k af hm => WD (c_i_pendingSlot w d c g (y.mem0 M0) true af) M0 fun t z => MW 1 (NE (GS (GD hm fun ah ae ad => G_meet (fun a w' => Mem [] w w' [] ∧ Sat Tryz.f180.ntmps [(0, SL c d g), (7, iv k), (21, .bool ah)] a) ?_ ?_)))))))
 ·have hm := ae
  refine GR (wR 3 [(0, SL c d g), (1, iv u), (7, iv k), (13, .bool (decide (k < 0)))] t ?_)
  rcases gx_bif hm with ⟨C, hm⟩ | ⟨C, hm⟩
  ·refine wK 13 true C (MW 8 (WN ?_))
   obtain rfl := HS hm
   exact NM fun a ha => ⟨z.pk [], ha.s⟩
  refine wK 13 false C (MW 2 (GD hm fun P F hm => wV (elemP c (k.toNat * 3)) t (eI (y.mem0 z) rfl F) (wV (elemP c (k.toNat * 3 + 2)) t (eF 2 (k.toNat * 3) 2 (y.mem0 z) F) (wV (iv P.Priority) t (eE false 1 2 (k.toNat * 3 + 2) (y.mem0 z) F) (MW 3 (WN ?_))))))
  obtain rfl := HS hm
  exact NM fun a ha => ⟨z.pk [], ha.s⟩
 intro ar B ⟨A, ac⟩
 refine N_use ac ?_
 have hm := ad
 refine TN (GT hm (fun D hm => ?_) fun D hm => ?_)
 ·refine QA (wR 3 [(4, SN), (5, iv 0), (6, .bool false)] B (ND ?_))
  cases hm
  exact RA [SN, iv 0, .bool false] (⟨none, 0, [], rfl, ownS_nil, A.pk [100000]⟩)
 refine KA (MW 2 (GD hm fun b K hm => wV (elemP c (k.toNat * 3)) B (eI (y.mem0 A) rfl K) (wV (.agg #[iv b.State, iv b.Irq, iv b.Priority]) B (eE true 3 0 (k.toNat * 3) (y.mem0 A) K) (wN (CE 117 [iv 0, iv 0, iv 0]) A fun o au T => wS true 3 0 (.agg #[iv b.State, iv b.Irq, iv b.Priority]) 0 [iv b.State, iv b.Irq, iv b.Priority] T rfl fun aj U => NA (MW 1 (wS false 1 0 (iv 2) 0 [iv 2, iv b.Irq, iv b.Priority] U rfl fun av V => NE (GD hm fun n ag hm => GU [(0, SL c d g), (7, iv k), (8, pB o 0), (26, pB o 0)] (DL 7 [[],[],[],[0,1,2],[],[4],[]] (EM 7) (EM 7) [[],[],[],[],[],[],[3]] [[],[],[],[],[],[],[3]] (EM 7) (fun _ => []) [QV (.slice c d.length g), QV (iv k), QV (.agg #[iv 2, iv b.Irq, iv b.Priority]), fun f v s => ∃ m l, v = (.slice m n.length l : Value) ∧ ownS encSlot n m l s, QV (pB o 1), QV (iv b.Irq), fun f v s => v = ((atPath (f 3) []) : Value) ∧ s = []] [] [3, 5, 6] [3] (V.preNil 7) (AC ?_ (AC ?_ (AC ?_ (AC ?_ (AC ?_ (AC ?_ (AC ?_ AN))))))) ?_))))))))
 ·intro q x R ak W
  exact OM ⟨rfl, rfl⟩ W
 ·intro q x R al X
  exact OM ⟨rfl, rfl⟩ X
 ·intro q x R am G
  exact OV ⟨rfl, rfl⟩ (eL true 3 0 (G.blk 0 rfl)) G
 ·rintro q x v0_ ⟨rfl, _⟩
  rintro v1_ ⟨rfl, _⟩
  rintro v2_ ⟨rfl, _⟩ R an H
  refine WC ((c_i_withSlot an d c g (y.mem0 H) k (⟨2, b.Irq, b.Priority⟩ : Slot) ag).mono ?_)
  rintro e_ aw ⟨m, l, ai, rfl, E, S⟩
  refine ⟨_, rfl, ?_⟩
  exact WN (oE (SL m n l) ai ⟨m, l, rfl, E⟩ (Mem.callMid H S))
 ·intro q x R ao Y
  exact OM ⟨rfl, rfl⟩ Y
 ·rintro q x v4_ ⟨rfl, _⟩ R ap I
  exact OV ⟨rfl, rfl⟩ (eL false 1 1 (I.blk 0 rfl)) I
 ·intro q x v3_ hb3_
  obtain ⟨_, m, l, rfl, _⟩ := hb3_
  intro R aq Z
  exact OM ⟨rfl, rfl⟩ Z
 intro q x v3_ hb3_
 obtain ⟨m, l, rfl, E⟩ := hb3_
 rintro v5_ ⟨rfl, _⟩ v6_ hb6_
 obtain ⟨hv6_, _⟩ := hb6_
 obtain rfl : v6_ = (.slice m n.length l : Value) := hv6_.trans (by kernel_rfl)
 intro O aa
 have ab : Mem [] w O [(BK o 117 [iv 2, iv b.Irq, iv b.Priority]), (q 3)] := aa
 refine MW 2 (NC ?_)
 cases hm
 exact RA [SL m n l, iv b.Irq, .bool true] (⟨m, l, (q 3), rfl, E, ab.pk [1]⟩)
theorem c_i_takeQueue (w : World) (c : Queue) (n m) (K : rdS encSlot w c.Slots n m) (x u) (Y : rdS encWaiter w c.Waiting x u) (q : Int) {r : Queue × Int × Bool} (hm : M.i_takeQueue c q = some r) :
  Calls Tryz.prog 138 #[.agg #[SL n c.Slots m, SL x c.Waiting u], iv q] w fun e w' => ∃ L H P N I Q, e = .returned (.tuple #[.agg #[SL L r.1.Slots H, SL N r.1.Waiting I], iv r.2.1, .bool r.2.2]) ∧ ownS encSlot r.1.Slots L H P ∧ ownS encWaiter r.1.Waiting N I Q ∧ Mem [] w w' [P, Q] := by
 unfold M.i_takeQueue at hm
 refine cE Tryz.func138 ?_
 have M0 := Mem.refl [] w
 refine QA (wN (CE 85 [SL n c.Slots m, SL x c.Waiting u]) M0 fun t ak U => wN (CE 85 [SN, SN]) U fun d z B => MW 2 (NA (MW 1 (wV (SL n c.Slots m) z (eL false 1 0 (B.blk 0 rfl)) (MW 1 (GD hm fun a ab hm => WC ((c_i_takeSlot z c.Slots n m (K.mem0 B) q ab).mono ?_)))))))
 rintro e_ A ⟨h, f, ad, rfl, Z, S⟩
 have y := B.call S
 refine ⟨_, rfl, ?_⟩
 refine MW 7 (NB (MW 2 (NO (GT hm (fun C hm => ?_) fun C hm => ?_))))
 ·refine QA (MW 1 (wS true 2 0 (.agg #[SN, SN]) 1 [SN, SN] y rfl fun af D => wR 2 [(4, pB d 0), (5, iv 0), (6, .bool false)] af (ND ?_)))
  obtain rfl := HS hm
  exact N_ret [.agg #[SN, SN], iv 0, .bool false] (RX true 2 0 (D.blk 1 rfl) (rC (rC RVs_nil))) (⟨none, 0, [], none, 0, [], rfl, ownS_nil, ownS_nil, D.pk [100000, 100001]⟩)
 refine KA (wV (.agg #[SL n c.Slots m, SL x c.Waiting u]) A (eL true 2 0 (y.blk 0 rfl)) (GD hm fun i ac hm => WC ((c_i_newQueue A c n m (K.mem0 y) x u (Y.mem0 y) ac).mono ?_)))
 rintro e_ al ⟨O, J, aj, l, j, ae, rfl, ai, aa, T⟩
 have V := y.call T
 refine ⟨_, rfl, ?_⟩
 refine wN (CE 85 [SN, SN]) V fun G am W => wS true 2 0 (.agg #[SL O i.Slots J, SL l i.Waiting j]) 5 [SL O i.Slots J, SL l i.Waiting j] W rfl fun ag X => NA (MW 2 (wS false 1 0 (SL h a.1 f) 5 [SL h a.1 f, SL l i.Waiting j] X rfl fun R E => NA (wV (.agg #[SL h a.1 f, SL l i.Waiting j]) R (eL true 2 0 (E.blk 5 rfl)) (MW 1 (wS true 2 0 (.agg #[SL h a.1 f, SL l i.Waiting j]) 1 [SL h a.1 f, SL l i.Waiting j] E rfl fun ah F => MW 2 (NC ?_))))))
 obtain rfl := HS hm
 exact N_ret [.agg #[SL h a.1 f, SL l i.Waiting j], iv a.2.1, .bool true] (RX true 2 0 (F.blk 1 rfl) (rC (rC RVs_nil))) (⟨h, f, ad, l, j, ae, rfl, Z, aa, F.pk [2, 4]⟩)
theorem c_i_takeIrq (w : World) (c : Interface) (B y) (av : rdS Gx.encI w c.Stack B y) (C z) (aw : rdS encSlot w c.Queue.Slots C z) (D A) (ax : rdS encWaiter w c.Queue.Waiting D A) {r : Interface × Int × Bool} (hm : M.i_takeIrq c = some r) :
  Calls Tryz.prog 80 #[.agg #[iv c.Mask, SL B c.Stack y, SL C c.Queue.Slots z, SL D c.Queue.Waiting A]] w fun e w' => ∃ ay aq a3 az ar a4 a0 au a5, e = .returned (.tuple #[.agg #[iv r.1.Mask, SL ay r.1.Stack aq, SL az r.1.Queue.Slots ar, SL a0 r.1.Queue.Waiting au], iv r.2.1, .bool r.2.2]) ∧ ownS Gx.encI r.1.Stack ay aq a3 ∧ ownS encSlot r.1.Queue.Slots az ar a4 ∧ ownS encWaiter r.1.Queue.Waiting a0 au a5 ∧ Mem [] w w' [a3, a4, a5] := by
 unfold M.i_takeIrq at hm
 refine cE Tryz.func80 ?_
 have M0 := Mem.refl [] w
 refine QA (wN (CE 87 [iv c.Mask, SL B c.Stack y, SL C c.Queue.Slots z, SL D c.Queue.Waiting A]) M0 fun q cz bb => wN (CE 87 [iv 0, SN, SN, SN]) bb fun x ca bc => MW 2 (NE (GD hm fun T b4 hm => GD hm fun a b5 hm => GU [(1, pB q 0), (2, pB x 0)] (DL 15 [[],[0],[],[2],[],[4],[3,5],[1,6],[],[8],[8],[8],[],[9,12],[10]] [[],[],[],[],[],[],[],[],[],[],[],[],[],[12],[]] (EM 15) [[],[],[],[],[],[],[],[],[7],[7],[7],[7],[],[7],[]] [[],[],[],[],[],[],[],[],[7],[7],[],[],[],[7,12],[]] (EM 15) (fun _ => []) [QV (pB q 2), QV (.agg #[SL C c.Queue.Slots z, SL D c.Queue.Waiting A]), QV (pB q 0), QV (iv c.Mask), QV (.agg #[iv c.Mask, SL B c.Stack y, SL C c.Queue.Slots z, SL D c.Queue.Waiting A]), QV (iv T), QV (iv (gxMin c.Mask T)), fun f v s => ∃ m d K n l L, v = (.tuple #[.agg #[SL m a.1.Slots d, SL n a.1.Waiting l], iv a.2.1, .bool a.2.2] : Value) ∧ s = (K ++ L) ∧ ownS encSlot a.1.Slots m d K ∧ ownS encWaiter a.1.Waiting n l L, fun f v s => v = (.tuple #[.agg #[(atPath (f 7) [0, 0]), (atPath (f 7) [0, 1])], iv a.2.1, .bool a.2.2] : Value) ∧ s = [], fun f v s => v = (.agg #[(atPath (f 7) [0, 0]), (atPath (f 7) [0, 1])] : Value) ∧ s = [], QV (iv a.2.1), QV (.bool a.2.2), fun f v s => ∃ F, v = (pB F 0 : Value) ∧ s = (BK F 85 [SN, SN]), fun f v s => v = undef ∧ s = [((blkOf (f 12)), .cells ⟨[(atPath (f 7) [0, 0]), (atPath (f 7) [0, 1])]⟩ 85 (0, 0))], QV (iv a.2.1)] [12] [7, 11, 13, 14] [7, 13] (bc.preNil 15) (AC ?_ (AC ?_ (AC ?_ (AC ?_ (AC ?_ (AC ?_ (AC ?_ (AC ?_ (AC ?_ (AC ?_ (AC ?_ (AC ?_ (AC ?_ (AC ?_ (AC ?_ AN))))))))))))))) ?_))))
 ·intro G J R cb bd
  exact OM ⟨rfl, rfl⟩ bd
 ·rintro G J v0_ ⟨rfl, _⟩ R cc ah
  exact OV ⟨rfl, rfl⟩ (eL true 2 2 (ah.blk 0 rfl)) ah
 ·intro G J R cd be
  exact OM ⟨rfl, rfl⟩ be
 ·rintro G J v2_ ⟨rfl, _⟩ R ce ai
  exact OV ⟨rfl, rfl⟩ (eL false 1 0 (ai.blk 0 rfl)) ai
 ·intro G J R cf aj
  exact OV ⟨rfl, rfl⟩ (eL true 4 0 (aj.blk 0 rfl)) aj
 ·rintro G J v4_ ⟨rfl, _⟩ R cg X
  refine WC ((c_i_runningPriority cg c B y (av.mem0 X) C z (aw.mem0 X) D A (ax.mem0 X) b4).mono ?_)
  rintro e_ c0 ⟨rfl, a8⟩
  refine ⟨_, rfl, ?_⟩
  exact WN (oE (iv T) [] ⟨rfl, rfl⟩ (X.call0 a8))
 ·rintro G J v3_ ⟨rfl, _⟩
  rintro v5_ ⟨rfl, _⟩ R ch bf
  exact OM ⟨rfl, rfl⟩ bf
 ·rintro G J v1_ ⟨rfl, _⟩
  rintro v6_ ⟨rfl, _⟩ R ci aa
  refine WC ((c_i_takeQueue ci c.Queue C z (aw.mem0 aa) D A (ax.mem0 aa) (gxMin c.Mask T) b5).mono ?_)
  rintro e_ c1 ⟨m, d, K, n, l, L, rfl, ad, ae, a9⟩
  refine ⟨_, rfl, ?_⟩
  exact WN (oE (.tuple #[.agg #[SL m a.1.Slots d, SL n a.1.Waiting l], iv a.2.1, .bool a.2.2]) (K ++ L) ⟨m, d, K, n, l, L, rfl, rfl, ad, ae⟩ (Mem.callMid aa (a9.permF (by simp))))
 ·intro G J v7_ hb7_
  obtain ⟨_, m, d, _, n, l, _, rfl, _⟩ := hb7_
  intro R cj bg
  exact OM ⟨rfl, rfl⟩ bg
 ·intro G J v7_ hb7_
  obtain ⟨_, m, d, _, n, l, _, rfl, _⟩ := hb7_
  intro v8_ hb8_
  obtain ⟨hv8_, _⟩ := hb8_
  obtain rfl : v8_ = (.tuple #[.agg #[SL m a.1.Slots d, SL n a.1.Waiting l], iv a.2.1, .bool a.2.2] : Value) := hv8_.trans (by kernel_rfl)
  intro R ck bh
  exact OM ⟨rfl, rfl⟩ bh
 ·intro G J v7_ hb7_
  obtain ⟨_, m, d, _, n, l, _, rfl, _⟩ := hb7_
  intro v8_ hb8_
  obtain ⟨hv8_, _⟩ := hb8_
  obtain rfl : v8_ = (.tuple #[.agg #[SL m a.1.Slots d, SL n a.1.Waiting l], iv a.2.1, .bool a.2.2] : Value) := hv8_.trans (by kernel_rfl)
  intro R cl bi
  exact OM ⟨rfl, rfl⟩ bi
 ·intro G J v7_ hb7_
  obtain ⟨_, m, d, _, n, l, _, rfl, _⟩ := hb7_
  intro v8_ hb8_
  obtain ⟨hv8_, _⟩ := hb8_
  obtain rfl : v8_ = (.tuple #[.agg #[SL m a.1.Slots d, SL n a.1.Waiting l], iv a.2.1, .bool a.2.2] : Value) := hv8_.trans (by kernel_rfl)
  intro R cm bj
  exact OM ⟨rfl, rfl⟩ bj
 ·intro G J R c2 bk
  exact wN (CE 85 [SN, SN]) bk fun F c3 bl => WN (oE (pB F 0) (BK F 85 [SN, SN]) ⟨F, rfl, rfl⟩ (Mem.mid bl))
 ·intro G J v7_ hb7_
  obtain ⟨_, m, d, _, n, l, _, rfl, _⟩ := hb7_
  intro v9_ hb9_
  obtain ⟨hv9_, _⟩ := hb9_
  obtain rfl : v9_ = (.agg #[SL m a.1.Slots d, SL n a.1.Waiting l] : Value) := hv9_.trans (by kernel_rfl)
  intro v12_ hb12_
  obtain ⟨F, rfl, hs12_⟩ := hb12_
  intro R a6 bm
  have Y : Mem [] w a6 ([(BK q 87 [iv c.Mask, SL B c.Stack y, SL C c.Queue.Slots z, SL D c.Queue.Waiting A]), (BK x 87 [iv 0, SN, SN, SN])] ++ ([[]] ++ ([(G 12)] ++ ([] ++ R)))) := bm
  rw [hs12_] at Y
  replace Y : Mem [] w a6 ([(BK q 87 [iv c.Mask, SL B c.Stack y, SL C c.Queue.Slots z, SL D c.Queue.Waiting A]), (BK x 87 [iv 0, SN, SN, SN])] ++ ([[]] ++ ([(BK F 85 [SN, SN])] ++ ([] ++ R)))) := Y.permF (by simp)
  exact wS true 2 0 (.agg #[SL m a.1.Slots d, SL n a.1.Waiting l]) 3 [SL m a.1.Slots d, SL n a.1.Waiting l] Y rfl fun c4 bn => WN (ob_none (BK F 85 [SL m a.1.Slots d, SL n a.1.Waiting l]) rfl ⟨rfl, by kernel_rfl⟩ (Mem.takeOver bn))
 ·rintro G J v10_ ⟨rfl, _⟩ R cn bo
  exact OM ⟨rfl, rfl⟩ bo
 intro G J v12_ hb12_
 obtain ⟨_, F, rfl, hs12_⟩ := hb12_
 intro v7_ hb7_
 obtain ⟨m, d, K, n, l, L, rfl, hs7_, ad, ae⟩ := hb7_
 rintro v11_ ⟨rfl, _⟩ v13_ hb13_
 obtain ⟨rfl, hs13_⟩ := hb13_
 replace hs13_ := hs13_.trans (show _ = (BK F 85 [SL m a.1.Slots d, SL n a.1.Waiting l]) by kernel_rfl)
 rintro v14_ ⟨rfl, _⟩ V bp
 have U : Mem [] w V [(BK q 87 [iv c.Mask, SL B c.Stack y, SL C c.Queue.Slots z, SL D c.Queue.Waiting A]), (BK x 87 [iv 0, SN, SN, SN]), K, L, (BK F 85 [SL m a.1.Slots d, SL n a.1.Waiting l])] := bp.permF (by simp [hs7_, hs13_, SL])
 refine MW 1 (NB (MW 2 (NO (GT hm (fun ac hm => ?_) fun ac hm => ?_))))
 ·refine QA (MW 1 (wS true 4 0 (.agg #[iv 0, SN, SN, SN]) 1 [iv 0, SN, SN, SN] U rfl fun co ak => MW 2 (ND ?_)))
  obtain rfl := HS hm
  exact N_ret [.agg #[iv 0, SN, SN, SN], iv 0, .bool false] (RX true 4 0 (ak.blk 1 rfl) (rC (rC RVs_nil))) (⟨none, 0, [], none, 0, [], none, 0, [], rfl, ownS_nil, ownS_nil, ownS_nil, ak.pk [100000, 100001, 100002]⟩)
 refine GK (TN (GS (GD hm fun W b6 hm => GD hm fun H b3 hm => ?_)))
 have bq : Mem [] w V ([(BK q 87 [iv c.Mask, SL B c.Stack y, SL C c.Queue.Slots z, SL D c.Queue.Waiting A]), K, L, (BK F 85 [SL m a.1.Slots d, SL n a.1.Waiting l])] ++ (List.range 12).map (fun i => ([[], [], [], [], [], [], [], [], [], [], [], (BK x 87 [iv 0, SN, SN, SN])] : List Seg).getD i [])) := U.pk [0, 2, 3, 4, 300000, 300001, 300002, 300003, 300004, 300005, 300006, 300007, 300008, 300009, 300010, 1]
 refine GU [(1, pB q 0), (2, pB x 0), (5, pB F 0), (6, iv a.2.1), (21, .bool (!a.2.2))] (DL 12 [[],[0],[],[2],[3],[],[5],[4,6],[],[1,8],[],[9]] [[],[],[],[],[],[],[],[4],[],[],[],[]] [[],[],[],[],[],[],[],[6],[],[],[],[]] [[],[],[],[],[],[],[],[],[],[7],[],[7]] [[],[],[],[],[],[],[],[],[],[7],[],[7]] (EM 12) (fun i => ([[], [], [], [], [], [], [], [], [], [], [], (BK x 87 [iv 0, SN, SN, SN])] : List Seg).getD i []) [QV (pB q 0), QV (iv c.Mask), QV (pB q 1), QV (.slice B c.Stack.length y), fun f v s => ∃ S Q, v = (.slice S W.length Q : Value) ∧ ownS Gx.encI W S Q s, QV (iv a.2.1), fun f v s => ∃ P O, v = (.slice P [a.2.1].length O : Value) ∧ ownS Gx.encI [a.2.1] P O s, fun f v s => ∃ u t, v = (.slice u H.length t : Value) ∧ ownS Gx.encI H u t s, QV (.agg #[SL m a.1.Slots d, SL n a.1.Waiting l]), fun f v s => v = (.agg #[iv c.Mask, (atPath (f 7) []), SL m a.1.Slots d, SL n a.1.Waiting l] : Value) ∧ s = [], QV (iv a.2.1), fun f v s => v = undef ∧ s = (BK x 87 [iv c.Mask, (atPath (f 7) []), SL m a.1.Slots d, SL n a.1.Waiting l])] [] [6, 7, 10, 11] [6, 7, 11] bq (AC ?_ (AC ?_ (AC ?_ (AC ?_ (AC ?_ (AC ?_ (AC ?_ (AC ?_ (AC ?_ (AC ?_ (AC ?_ (AC ?_ AN)))))))))))) ?_)
 ·intro I N R cp br
  exact OM ⟨rfl, rfl⟩ br
 ·rintro I N v0_ ⟨rfl, _⟩ R cq al
  exact OV ⟨rfl, rfl⟩ (eL false 1 0 (al.blk 0 rfl)) al
 ·intro I N R cr bs
  exact OM ⟨rfl, rfl⟩ bs
 ·rintro I N v2_ ⟨rfl, _⟩ R ct am
  exact OV ⟨rfl, rfl⟩ (eL false 1 1 (am.blk 0 rfl)) am
 ·rintro I N v3_ ⟨rfl, _⟩ R cu an
  refine WC ((c_i_copyInts cu c.Stack B y (av.mem0 an) b6).mono ?_)
  rintro e_ c5 ⟨S, Q, b7, rfl, af, ba⟩
  refine ⟨_, rfl, ?_⟩
  exact WN (oE (SL S W Q) b7 ⟨S, Q, rfl, af⟩ (Mem.callMid an ba))
 ·intro I N R cv bt
  exact OM ⟨rfl, rfl⟩ bt
 ·rintro I N v5_ ⟨rfl, _⟩ R c6 bu
  exact wL (E := Gx.encI) [a.2.1] 1 [iv a.2.1] 3 bu fun P O b8 c7 Z bv => WN (oE (SL P [a.2.1] O) b8 ⟨P, O, rfl, Z⟩ (Mem.mid bv))
 ·intro I N v4_ hb4_
  obtain ⟨S, Q, rfl, af⟩ := hb4_
  intro v6_ hb6_
  obtain ⟨P, O, rfl, Z⟩ := hb6_
  intro R c8 ao
  exact wA 8 [iv 0] 5 ao af (Z.r ao 6) b3 fun u t b9 c9 ag bw => WN (oE (SL u H t) b9 ⟨u, t, rfl, ag⟩ (Mem.takeOver bw))
 ·intro I N R cw ap
  exact OV ⟨rfl, rfl⟩ (eL true 2 0 (ap.blk 3 rfl)) ap
 ·intro I N v7_ hb7_
  obtain ⟨_, u, t, rfl, _⟩ := hb7_
  rintro v1_ ⟨rfl, _⟩
  rintro v8_ ⟨rfl, _⟩ R cx bx
  exact OM ⟨rfl, rfl⟩ bx
 ·intro I N R cy bz
  exact OM ⟨rfl, rfl⟩ bz
 ·intro I N v7_ hb7_
  obtain ⟨_, u, t, rfl, _⟩ := hb7_
  intro v9_ hb9_
  obtain ⟨hv9_, _⟩ := hb9_
  obtain rfl : v9_ = (.agg #[iv c.Mask, SL u H t, SL m a.1.Slots d, SL n a.1.Waiting l] : Value) := hv9_.trans (by kernel_rfl)
  intro R da b0
  exact wS true 4 0 (.agg #[iv c.Mask, SL u H t, SL m a.1.Slots d, SL n a.1.Waiting l]) 4 [iv c.Mask, SL u H t, SL m a.1.Slots d, SL n a.1.Waiting l] b0 rfl fun db b1 => WN (ob_none (BK x 87 [iv c.Mask, SL u H t, SL m a.1.Slots d, SL n a.1.Waiting l]) rfl ⟨rfl, by kernel_rfl⟩ b1)
 intro I N v6_ hb6_
 obtain ⟨P, O, rfl, Z⟩ := hb6_
 intro v7_ hb7_
 obtain ⟨u, t, rfl, ag⟩ := hb7_
 rintro v10_ ⟨rfl, _⟩ v11_ hb11_
 obtain ⟨rfl, hs11_⟩ := hb11_
 replace hs11_ := hs11_.trans (show _ = (BK x 87 [iv c.Mask, SL u H t, SL m a.1.Slots d, SL n a.1.Waiting l]) by kernel_rfl)
 intro a7 b2
 have ab : Mem [] w a7 [(BK q 87 [iv c.Mask, SL B c.Stack y, SL C c.Queue.Slots z, SL D c.Queue.Waiting A]), K, L, (BK F 85 [SL m a.1.Slots d, SL n a.1.Waiting l]), (I 6), (I 7), (I 11)] := b2
 rw [hs11_] at ab
 refine MW 2 (NC ?_)
 obtain rfl := HS hm
 exact N_ret [.agg #[iv c.Mask, SL u H t, SL m a.1.Slots d, SL n a.1.Waiting l], iv a.2.1, .bool true] (RX true 4 0 (ab.blk 6 rfl) (rC (rC RVs_nil))) (⟨u, t, (I 7), m, d, K, n, l, L, rfl, ag, ad, ae, ab.pk [5, 1, 2]⟩)
theorem c_i_endSlot (w : World) (d : List Slot) (b f) (i : rdS encSlot w d b f) (g : Int) {r : (List Slot) × Bool} (hm : M.i_endSlot d g = some r) :
  Calls Tryz.prog 181 #[SL b d f, iv g] w fun e w' => ∃ G E I, e = .returned (.tuple #[SL G r.1 E, .bool r.2]) ∧ ownS encSlot r.1 G E I ∧ Mem [] w w' [I] := by
 unfold M.i_endSlot at hm
 refine cE Tryz.func181 ?_
 have M0 := Mem.refl [] w
 refine QA (MW 2 (NA (MW 2 (GD hm fun c aa hm => WD (c_i_findSlot w d b f (i.mem0 M0) g aa) M0 fun m o => MW 1 (NE (GS (GD hm fun ad X V => G_meet (fun a w' => Mem [] w w' [] ∧ Sat Tryz.f181.ntmps [(0, SL b d f), (1, iv g), (6, iv c), (20, .bool ad)] a) ?_ ?_)))))))
 ·have hm := X
  refine GR (wR 3 [(0, SL b d f), (1, iv g), (6, iv c), (13, .bool (decide (c < 0)))] m ?_)
  rcases gx_bif hm with ⟨v, hm⟩ | ⟨v, hm⟩
  ·refine wK 13 true v (MW 7 (WN ?_))
   obtain rfl := HS hm
   exact NM fun a ha => ⟨o.pk [], ha.s⟩
  refine wK 13 false v (MW 2 (GD hm fun n F hm => wV (elemP b (c.toNat * 3)) m (eI (i.mem0 o) rfl F) (wV (.agg #[iv n.State, iv n.Irq, iv n.Priority]) m (eE true 3 0 (c.toNat * 3) (i.mem0 o) F) (GD hm fun ae ab hm => WD (c_i_isActive m n ab) o fun ag P => MW 2 (WN ?_)))))
  obtain rfl := HS hm
  exact NM fun a ha => ⟨P.pk [], ha.s⟩
 intro ai J ⟨D, T⟩
 refine N_use T ?_
 have hm := V
 refine TN (GT hm (fun x hm => ?_) fun x hm => ?_)
 ·refine QA (MW 2 (ND ?_))
  cases hm
  exact RA [SN, .bool false] (⟨none, 0, [], rfl, ownS_nil, D.pk [100000]⟩)
 refine KA (MW 1 (wN (CE 117 [iv 0, iv 0, iv 0]) D fun l ak Q => wS true 3 0 (.agg #[iv 0, iv 0, iv 0]) 0 [iv 0, iv 0, iv 0] Q rfl fun j k => NB (MW 2 (GD hm fun K z hm => wV (elemP b (c.toNat * 3)) j (eI (i.mem0 k) rfl z) (wV (elemP b (c.toNat * 3 + 0)) j (eF 0 (c.toNat * 3) 0 (i.mem0 k) z) (wV (iv K.State) j (eE false 1 0 (c.toNat * 3 + 0) (i.mem0 k) z) (wR 1 [(0, SL b d f), (1, iv g), (6, iv c), (7, pB l 0), (27, .bool (K.State == 3))] j (NO (GD hm fun h Y W => G_meet (fun a w' => Mem [] w w' [(BK l 117 [iv h.1, iv h.2.1, iv h.2.2])] ∧ Sat Tryz.f181.ntmps [(0, SL b d f), (6, iv c), (7, pB l 0)] a) ?_ ?_)))))))))
 ·have hm := Y
  refine GT hm (fun y hm => ?_) fun y hm => ?_
  ·refine GR (MW 3 (GD hm fun q A hm => wV (elemP b (c.toNat * 3)) j (eI (i.mem0 k) rfl A) (wV (elemP b (c.toNat * 3 + 2)) j (eF 2 (c.toNat * 3) 2 (i.mem0 k) A) (wV (iv q.Priority) j (eE false 1 2 (c.toNat * 3 + 2) (i.mem0 k) A) (MW 1 (wS true 3 0 (.agg #[iv 1, iv g, iv q.Priority]) 0 [iv 1, iv g, iv q.Priority] k rfl fun al R => WN ?_))))))
   obtain rfl := HS hm
   exact NM fun a ha => ⟨R.pk [0], ha.s⟩
  refine GK ?_
  obtain rfl := HS hm
  exact NM fun a ha => ⟨k.pk [0], ha.s⟩
 intro aj C ⟨t, U⟩
 refine N_use U ?_
 have hm := W
 refine NF (MW 2 (wV (.agg #[iv h.1, iv h.2.1, iv h.2.2]) C (eL true 3 0 (t.blk 0 rfl)) (GD hm fun H ac hm => WC ((c_i_withSlot C d b f (i.mem0 t) c (⟨h.1, h.2.1, h.2.2⟩ : Slot) ac).mono ?_))))
 rintro e_ ah ⟨B, u, af, rfl, Z, O⟩
 have S := t.call O
 refine ⟨_, rfl, ?_⟩
 refine MW 2 (NC ?_)
 cases hm
 exact RA [SL B H u, .bool true] (⟨B, u, af, rfl, Z, S.pk [1]⟩)
theorem c_i_endQueue (w : World) (a : Queue) (n i) (S : rdS encSlot w a.Slots n i) (q j) (T : rdS encWaiter w a.Waiting q j) (y : Int) {r : Queue × Bool} (hm : M.i_endQueue a y = some r) :
  Calls Tryz.prog 140 #[.agg #[SL n a.Slots i, SL q a.Waiting j], iv y] w fun e w' => ∃ J H L K I N, e = .returned (.tuple #[.agg #[SL J r.1.Slots H, SL K r.1.Waiting I], .bool r.2]) ∧ ownS encSlot r.1.Slots J H L ∧ ownS encWaiter r.1.Waiting K I N ∧ Mem [] w w' [L, N] := by
 unfold M.i_endQueue at hm
 refine cE Tryz.func140 ?_
 have M0 := Mem.refl [] w
 refine QA (wN (CE 85 [SL n a.Slots i, SL q a.Waiting j]) M0 fun h ae Q => wN (CE 85 [SN, SN]) Q fun c C D => MW 1 (NA (MW 1 (wV (SL n a.Slots i) C (eL false 1 0 (D.blk 0 rfl)) (MW 1 (GD hm fun f X hm => WC ((c_i_endSlot C a.Slots n i (S.mem0 D) y X).mono ?_)))))))
 rintro e_ x ⟨A, z, ad, rfl, U, O⟩
 have B := D.call O
 refine ⟨_, rfl, ?_⟩
 refine MW 5 (NB (MW 2 (NO (GT hm (fun E hm => ?_) fun E hm => ?_))))
 ·refine QA (MW 1 (wS true 2 0 (.agg #[SN, SN]) 1 [SN, SN] B rfl fun ab F => MW 1 (ND ?_)))
  obtain rfl := HS hm
  exact N_ret [.agg #[SN, SN], .bool false] (RX true 2 0 (F.blk 1 rfl) (rC RVs_nil)) (⟨none, 0, [], none, 0, [], rfl, ownS_nil, ownS_nil, F.pk [100000, 100001]⟩)
 refine KA (MW 2 (wV (SL q a.Waiting j) x (eL false 1 1 (B.blk 0 rfl)) (MW 1 (GD hm fun d Y hm => WC ((c_i_settled x (⟨f.1, a.Waiting⟩ : Queue) A z (U.r B 2) q j (T.mem0 B) Y).mono ?_)))))
 rintro e_ af ⟨t, l, Z, u, m, aa, rfl, V, W, P⟩
 have R := B.call P
 refine ⟨_, rfl, ?_⟩
 refine wS true 2 0 (.agg #[SL t d.Slots l, SL u d.Waiting m]) 1 [SL t d.Slots l, SL u d.Waiting m] R rfl fun ac G => wR 1 [(4, pB c 0), (5, .bool true)] ac (NC ?_)
 obtain rfl := HS hm
 exact N_ret [.agg #[SL t d.Slots l, SL u d.Waiting m], .bool true] (RX true 2 0 (G.blk 1 rfl) (rC RVs_nil)) (⟨t, l, Z, u, m, aa, rfl, V, W, G.pk [3, 4]⟩)
theorem c_i_leaveIrq (w : World) (a : Interface) (q u) (O : rdS Gx.encI w a.Stack q u) (I F) (bx : rdS encSlot w a.Queue.Slots I F) (J G) (bz : rdS encWaiter w a.Queue.Waiting J G) {r : Interface × Int × Bool} (hm : M.i_leaveIrq a = some r) :
  Calls Tryz.prog 81 #[.agg #[iv a.Mask, SL q a.Stack u, SL I a.Queue.Slots F, SL J a.Queue.Waiting G]] w fun e w' => ∃ az ar a4 a0 au a5 a3 av a6, e = .returned (.tuple #[.agg #[iv r.1.Mask, SL az r.1.Stack ar, SL a0 r.1.Queue.Slots au, SL a3 r.1.Queue.Waiting av], iv r.2.1, .bool r.2.2]) ∧ ownS Gx.encI r.1.Stack az ar a4 ∧ ownS encSlot r.1.Queue.Slots a0 au a5 ∧ ownS encWaiter r.1.Queue.Waiting a3 av a6 ∧ Mem [] w w' [a4, a5, a6] := by
 unfold M.i_leaveIrq at hm
 refine cE Tryz.func81 ?_
 have M0 := Mem.refl [] w
 refine QA (wN (CE 87 [iv a.Mask, SL q a.Stack u, SL I a.Queue.Slots F, SL J a.Queue.Waiting G]) M0 fun t cu bb => wN (CE 87 [iv 0, SN, SN, SN]) bb fun x P X => MW 2 (NA (MW 1 (wV (SL q a.Stack u) P (eL false 1 1 (X.blk 0 rfl)) (MW 3 (NB (MW 2 (NO (GT hm (fun aa hm => ?_) fun aa hm => ?_)))))))))
 ·refine QA (MW 1 (wS true 4 0 (.agg #[iv 0, SN, SN, SN]) 1 [iv 0, SN, SN, SN] X rfl fun b3 ae => MW 2 (ND ?_)))
  obtain rfl := HS hm
  exact N_ret [.agg #[iv 0, SN, SN, SN], iv 0, .bool false] (RX true 4 0 (ae.blk 1 rfl) (rC (rC RVs_nil))) (⟨none, 0, [], none, 0, [], none, 0, [], rfl, ownS_nil, ownS_nil, ownS_nil, ae.pk [100000, 100001, 100002]⟩)
 refine GK (TN (GS (GD hm fun Q aw hm => GD hm fun c b0 hm => GU [(1, pB t 0), (2, pB x 0), (5, iv (w64 ((a.Stack.length : Int) - 1))), (13, .bool (decide ((w64 ((a.Stack.length : Int) - 1)) < 0)))] (DL 13 [[],[0],[],[2],[],[3,4],[5],[1,6],[],[8],[8],[],[9,11]] [[],[],[],[],[],[],[],[],[],[],[],[],[11]] (EM 13) [[],[],[],[],[],[],[],[],[7],[7],[7],[],[7]] [[],[],[],[],[],[],[],[],[7],[7],[],[],[7,11]] (EM 13) (fun _ => []) [QV (pB t 2), QV (.agg #[SL I a.Queue.Slots F, SL J a.Queue.Waiting G]), QV (pB t 1), QV (.slice q a.Stack.length u), QV (iv (w64 ((a.Stack.length : Int) - 1))), QV (elemP q ((w64 ((a.Stack.length : Int) - 1)).toNat * 1)), QV (iv Q), fun f v s => ∃ m d L n l N, v = (.tuple #[.agg #[SL m c.1.Slots d, SL n c.1.Waiting l], .bool c.2] : Value) ∧ s = (L ++ N) ∧ ownS encSlot c.1.Slots m d L ∧ ownS encWaiter c.1.Waiting n l N, fun f v s => v = (.tuple #[.agg #[(atPath (f 7) [0, 0]), (atPath (f 7) [0, 1])], .bool c.2] : Value) ∧ s = [], fun f v s => v = (.agg #[(atPath (f 7) [0, 0]), (atPath (f 7) [0, 1])] : Value) ∧ s = [], QV (.bool c.2), fun f v s => ∃ A, v = (pB A 0 : Value) ∧ s = (BK A 85 [SN, SN]), fun f v s => v = undef ∧ s = [((blkOf (f 11)), .cells ⟨[(atPath (f 7) [0, 0]), (atPath (f 7) [0, 1])]⟩ 85 (0, 0))]] [11] [7, 10, 12] [7, 12] (X.preNil 13) (AC ?_ (AC ?_ (AC ?_ (AC ?_ (AC ?_ (AC ?_ (AC ?_ (AC ?_ (AC ?_ (AC ?_ (AC ?_ (AC ?_ (AC ?_ AN))))))))))))) ?_))))
 ·intro C K R b4 bc
  exact OM ⟨rfl, rfl⟩ bc
 ·rintro C K v0_ ⟨rfl, _⟩ R b5 af
  exact OV ⟨rfl, rfl⟩ (eL true 2 2 (af.blk 0 rfl)) af
 ·intro C K R b6 bd
  exact OM ⟨rfl, rfl⟩ bd
 ·rintro C K v2_ ⟨rfl, _⟩ R b7 ag
  exact OV ⟨rfl, rfl⟩ (eL false 1 1 (ag.blk 0 rfl)) ag
 ·intro C K R b8 be
  exact OM ⟨rfl, rfl⟩ be
 ·rintro C K v3_ ⟨rfl, _⟩
  rintro v4_ ⟨rfl, _⟩ R b9 ah
  exact OV ⟨rfl, rfl⟩ (eI (O.mem0 ah) rfl aw) ah
 ·rintro C K v5_ ⟨rfl, _⟩ R ca ai
  exact OV ⟨rfl, rfl⟩ (eE false 1 0 ((w64 ((a.Stack.length : Int) - 1)).toNat * 1) (O.mem0 ai) aw) ai
 ·rintro C K v1_ ⟨rfl, _⟩
  rintro v6_ ⟨rfl, _⟩ R cb Y
  refine WC ((c_i_endQueue cb a.Queue I F (bx.mem0 Y) J G (bz.mem0 Y) Q b0).mono ?_)
  rintro e_ cv ⟨m, d, L, n, l, N, rfl, ab, ac, a9⟩
  refine ⟨_, rfl, ?_⟩
  exact WN (oE (.tuple #[.agg #[SL m c.1.Slots d, SL n c.1.Waiting l], .bool c.2]) (L ++ N) ⟨m, d, L, n, l, N, rfl, rfl, ab, ac⟩ (Mem.callMid Y (a9.permF (by simp))))
 ·intro C K v7_ hb7_
  obtain ⟨_, m, d, _, n, l, _, rfl, _⟩ := hb7_
  intro R cc bf
  exact OM ⟨rfl, rfl⟩ bf
 ·intro C K v7_ hb7_
  obtain ⟨_, m, d, _, n, l, _, rfl, _⟩ := hb7_
  intro v8_ hb8_
  obtain ⟨hv8_, _⟩ := hb8_
  obtain rfl : v8_ = (.tuple #[.agg #[SL m c.1.Slots d, SL n c.1.Waiting l], .bool c.2] : Value) := hv8_.trans (by kernel_rfl)
  intro R cd bg
  exact OM ⟨rfl, rfl⟩ bg
 ·intro C K v7_ hb7_
  obtain ⟨_, m, d, _, n, l, _, rfl, _⟩ := hb7_
  intro v8_ hb8_
  obtain ⟨hv8_, _⟩ := hb8_
  obtain rfl : v8_ = (.tuple #[.agg #[SL m c.1.Slots d, SL n c.1.Waiting l], .bool c.2] : Value) := hv8_.trans (by kernel_rfl)
  intro R ce bh
  exact OM ⟨rfl, rfl⟩ bh
 ·intro C K R cw bi
  exact wN (CE 85 [SN, SN]) bi fun A cx bj => WN (oE (pB A 0) (BK A 85 [SN, SN]) ⟨A, rfl, rfl⟩ (Mem.mid bj))
 ·intro C K v7_ hb7_
  obtain ⟨_, m, d, _, n, l, _, rfl, _⟩ := hb7_
  intro v9_ hb9_
  obtain ⟨hv9_, _⟩ := hb9_
  obtain rfl : v9_ = (.agg #[SL m c.1.Slots d, SL n c.1.Waiting l] : Value) := hv9_.trans (by kernel_rfl)
  intro v11_ hb11_
  obtain ⟨A, rfl, hs11_⟩ := hb11_
  intro R a7 bk
  have V : Mem [] w a7 ([(BK t 87 [iv a.Mask, SL q a.Stack u, SL I a.Queue.Slots F, SL J a.Queue.Waiting G]), (BK x 87 [iv 0, SN, SN, SN])] ++ ([[]] ++ ([(C 11)] ++ ([] ++ R)))) := bk
  rw [hs11_] at V
  replace V : Mem [] w a7 ([(BK t 87 [iv a.Mask, SL q a.Stack u, SL I a.Queue.Slots F, SL J a.Queue.Waiting G]), (BK x 87 [iv 0, SN, SN, SN])] ++ ([[]] ++ ([(BK A 85 [SN, SN])] ++ ([] ++ R)))) := V.permF (by simp)
  exact wS true 2 0 (.agg #[SL m c.1.Slots d, SL n c.1.Waiting l]) 3 [SL m c.1.Slots d, SL n c.1.Waiting l] V rfl fun cy bl => WN (ob_none (BK A 85 [SL m c.1.Slots d, SL n c.1.Waiting l]) rfl ⟨rfl, by kernel_rfl⟩ (Mem.takeOver bl))
 intro C K v11_ hb11_
 obtain ⟨_, A, rfl, hs11_⟩ := hb11_
 intro v7_ hb7_
 obtain ⟨m, d, L, n, l, N, rfl, hs7_, ab, ac⟩ := hb7_
 rintro v10_ ⟨rfl, _⟩ v12_ hb12_
 obtain ⟨rfl, hs12_⟩ := hb12_
 replace hs12_ := hs12_.trans (show _ = (BK A 85 [SL m c.1.Slots d, SL n c.1.Waiting l]) by kernel_rfl)
 intro W bm
 have U : Mem [] w W [(BK t 87 [iv a.Mask, SL q a.Stack u, SL I a.Queue.Slots F, SL J a.Queue.Waiting G]), (BK x 87 [iv 0, SN, SN, SN]), L, N, (BK A 85 [SL m c.1.Slots d, SL n c.1.Waiting l])] := bm.permF (by simp [hs7_, hs12_, SL])
 refine MW 1 (NE (GD hm fun T ay hm => GD hm fun D b1 hm => GD hm fun S ax hm => ?_))
 have bn : Mem [] w W ([(BK t 87 [iv a.Mask, SL q a.Stack u, SL I a.Queue.Slots F, SL J a.Queue.Waiting G]), L, N, (BK A 85 [SL m c.1.Slots d, SL n c.1.Waiting l])] ++ (List.range 15).map (fun i => ([[], [], [], [], [], [], [], [], [], [], [], [], [], [], (BK x 87 [iv 0, SN, SN, SN])] : List Seg).getD i [])) := U.pk [0, 2, 3, 4, 300000, 300001, 300002, 300003, 300004, 300005, 300006, 300007, 300008, 300009, 300010, 300011, 300012, 300013, 1]
 refine GU [(1, pB t 0), (2, pB x 0), (5, iv (w64 ((a.Stack.length : Int) - 1))), (6, pB A 0)] (DL 15 [[],[0],[],[2],[],[3,4],[5],[],[1,7],[],[9],[],[10,11],[12],[8]] (EM 15) (EM 15) [[],[],[],[],[],[],[],[],[6],[],[],[],[],[],[6]] [[],[],[],[],[],[],[],[],[6],[],[],[],[],[],[6]] (EM 15) (fun i => ([[], [], [], [], [], [], [], [], [], [], [], [], [], [], (BK x 87 [iv 0, SN, SN, SN])] : List Seg).getD i []) [QV (pB t 0), QV (iv a.Mask), QV (pB t 1), QV (.slice q a.Stack.length u), QV (iv (w64 ((a.Stack.length : Int) - 1))), QV (.slice (subP q (0 : Int).toNat u 1) T.length (u - (0 : Int).toNat)), fun f v s => ∃ z y, v = (.slice z D.length y : Value) ∧ ownS Gx.encI D z y s, QV (.agg #[SL m c.1.Slots d, SL n c.1.Waiting l]), fun f v s => v = (.agg #[iv a.Mask, (atPath (f 6) []), SL m c.1.Slots d, SL n c.1.Waiting l] : Value) ∧ s = [], QV (pB t 1), QV (.slice q a.Stack.length u), QV (iv (w64 ((a.Stack.length : Int) - 1))), QV (elemP q ((w64 ((a.Stack.length : Int) - 1)).toNat * 1)), QV (iv S), fun f v s => v = undef ∧ s = (BK x 87 [iv a.Mask, (atPath (f 6) []), SL m c.1.Slots d, SL n c.1.Waiting l])] [] [6, 13, 14] [6, 14] bn (AC ?_ (AC ?_ (AC ?_ (AC ?_ (AC ?_ (AC ?_ (AC ?_ (AC ?_ (AC ?_ (AC ?_ (AC ?_ (AC ?_ (AC ?_ (AC ?_ (AC ?_ AN))))))))))))))) ?_)
 ·intro B H R cf bo
  exact OM ⟨rfl, rfl⟩ bo
 ·rintro B H v0_ ⟨rfl, _⟩ R cg aj
  exact OV ⟨rfl, rfl⟩ (eL false 1 0 (aj.blk 0 rfl)) aj
 ·intro B H R ch bp
  exact OM ⟨rfl, rfl⟩ bp
 ·rintro B H v2_ ⟨rfl, _⟩ R ci ak
  exact OV ⟨rfl, rfl⟩ (eL false 1 1 (ak.blk 0 rfl)) ak
 ·intro B H R cj bq
  exact OM ⟨rfl, rfl⟩ bq
 ·rintro B H v3_ ⟨rfl, _⟩
  rintro v4_ ⟨rfl, _⟩ R ck al
  exact OV ⟨rfl, rfl⟩ (E_slice (E := Gx.encI) _ _ _ _ a.Stack.length 0 (w64 ((a.Stack.length : Int) - 1)) rfl (by kernel_rfl) (Or.inl ⟨rfl, rfl⟩) (Or.inr ⟨_, rfl, by kernel_rfl⟩) (by kernel_rfl) (O.mem0 al) rfl ay) al
 ·rintro B H v5_ ⟨rfl, _⟩ R cl am
  refine WC ((c_i_copyInts cl T (subP q (0 : Int).toNat u 1) (u - (0 : Int).toNat) ((O.mem0 am).sliceM ay) b1).mono ?_)
  rintro e_ cz ⟨z, y, b2, rfl, ad, ba⟩
  refine ⟨_, rfl, ?_⟩
  exact WN (oE (SL z D y) b2 ⟨z, y, rfl, ad⟩ (Mem.callMid am ba))
 ·intro B H R cm an
  exact OV ⟨rfl, rfl⟩ (eL true 2 0 (an.blk 3 rfl)) an
 ·intro B H v6_ hb6_
  obtain ⟨_, z, y, rfl, _⟩ := hb6_
  rintro v1_ ⟨rfl, _⟩
  rintro v7_ ⟨rfl, _⟩ R cn br
  exact OM ⟨rfl, rfl⟩ br
 ·intro B H R co bs
  exact OM ⟨rfl, rfl⟩ bs
 ·rintro B H v9_ ⟨rfl, _⟩ R cp ao
  exact OV ⟨rfl, rfl⟩ (eL false 1 1 (ao.blk 0 rfl)) ao
 ·intro B H R cq bt
  exact OM ⟨rfl, rfl⟩ bt
 ·rintro B H v10_ ⟨rfl, _⟩
  rintro v11_ ⟨rfl, _⟩ R cr ap
  exact OV ⟨rfl, rfl⟩ (eI (O.mem0 ap) rfl ax) ap
 ·rintro B H v12_ ⟨rfl, _⟩ R ct aq
  exact OV ⟨rfl, rfl⟩ (eE false 1 0 ((w64 ((a.Stack.length : Int) - 1)).toNat * 1) (O.mem0 aq) ax) aq
 ·intro B H v6_ hb6_
  obtain ⟨_, z, y, rfl, _⟩ := hb6_
  intro v8_ hb8_
  obtain ⟨hv8_, _⟩ := hb8_
  obtain rfl : v8_ = (.agg #[iv a.Mask, SL z D y, SL m c.1.Slots d, SL n c.1.Waiting l] : Value) := hv8_.trans (by kernel_rfl)
  intro R c0 bu
  exact wS true 4 0 (.agg #[iv a.Mask, SL z D y, SL m c.1.Slots d, SL n c.1.Waiting l]) 4 [iv a.Mask, SL z D y, SL m c.1.Slots d, SL n c.1.Waiting l] bu rfl fun c1 bv => WN (ob_none (BK x 87 [iv a.Mask, SL z D y, SL m c.1.Slots d, SL n c.1.Waiting l]) rfl ⟨rfl, by kernel_rfl⟩ bv)
 intro B H v6_ hb6_
 obtain ⟨z, y, rfl, ad⟩ := hb6_
 rintro v13_ ⟨rfl, _⟩ v14_ hb14_
 obtain ⟨rfl, hs14_⟩ := hb14_
 replace hs14_ := hs14_.trans (show _ = (BK x 87 [iv a.Mask, SL z D y, SL m c.1.Slots d, SL n c.1.Waiting l]) by kernel_rfl)
 intro a8 bw
 have Z : Mem [] w a8 [(BK t 87 [iv a.Mask, SL q a.Stack u, SL I a.Queue.Slots F, SL J a.Queue.Waiting G]), L, N, (BK A 85 [SL m c.1.Slots d, SL n c.1.Waiting l]), (B 6), (B 14)] := bw
 rw [hs14_] at Z
 refine MW 2 (NC ?_)
 obtain rfl := HS hm
 exact N_ret [.agg #[iv a.Mask, SL z D y, SL m c.1.Slots d, SL n c.1.Waiting l], iv S, .bool true] (RX true 4 0 (Z.blk 5 rfl) (rC (rC RVs_nil))) (⟨z, y, (B 6), m, d, L, n, l, N, rfl, ad, ab, ac, Z.pk [4, 1, 2]⟩)
theorem c_l_heldRouteS (w : World) (d : List Route) (c g) (i : rdS encRoute w d c g) (k : Int) {r : Int} (hm : M.l_heldRouteS d k = some r) :
  Calls Tryz.prog 82 #[SL c d g, iv k] w fun e w' => e = .returned (iv r) ∧ Mem [] w w' [] := by
 unfold M.l_heldRouteS at hm
 refine cE Tryz.func82 ?_
 have M0 := Mem.refl [] w
 refine QA (MW 1 (NB (MW 1 (NO (GD hm fun C B o => G_meet (fun a w' => ∃ (j : Int), C = .inl j ∧ Mem [] w w' [] ∧ Sat Tryz.f82.ntmps [(1, iv j)] a) ?_ ?_)))))
 ·refine GB (G_while (σ := Int × Int) (ρ := (Int) ⊕ (Int)) (fun b a w' => Mem [] w w' [] ∧ Sat Tryz.f82.ntmps [(0, SL c d g), (1, iv b.1), (5, iv b.2)] a) B (fun a ha => ⟨M0.pk [], ha.s⟩) ?_)
  clear hm
  intro b G hm q E f ⟨h, z⟩
  refine G_use z (QB (MW 4 (NO (GT hm (fun l hm => ?_) fun l hm => ?_))))
  ·refine GK (TN (GS (GB (QB (MW 2 (GD hm fun v t hm => wV (elemP c (b.2.toNat * 2)) f (eI (i.mem0 h) rfl t) (wV (elemP c (b.2.toNat * 2 + 0)) f (eF 0 (b.2.toNat * 2) 0 (i.mem0 h) t) (wV (iv v.Priority) f (eE false 1 0 (b.2.toNat * 2 + 0) (i.mem0 h) t) (MW 2 (NO (GT hm (fun m hm => ?_) fun m hm => ?_)))))))))))
   ·refine QA (MW 1 (ND (BR (TR (TR ?_)))))
    obtain rfl := HS hm
    obtain rfl := q _ rfl
    have hm := o; simp only [Sum.elim_inr] at hm
    refine BR (N_meet_ret (TR ?_))
    cases hm
    exact RA [iv (-1)] (⟨rfl, h.pk []⟩)
   refine KA (MW 3 (NB (MW 2 (GD hm fun x u hm => wV (elemP c (b.2.toNat * 2)) f (eI (i.mem0 h) rfl u) (wV (elemP c (b.2.toNat * 2 + 1)) f (eF 1 (b.2.toNat * 2) 1 (i.mem0 h) u) (wV (iv x.Target) f (eE false 1 1 (b.2.toNat * 2 + 1) (i.mem0 h) u) (wR 2 [(0, SL c d g), (1, iv (w64 (b.1 + 1))), (5, iv b.2), (27, .bool (x.Target != (w64 (b.1 + 1))))] f (NO (GT hm (fun n hm => ?_) fun n hm => ?_)))))))))
   ·refine QA (MW 1 (ND (BR (TR (TR ?_)))))
    obtain rfl := HS hm
    obtain rfl := q _ rfl
    have hm := o; simp only [Sum.elim_inr] at hm
    refine BR (N_meet_ret (TR ?_))
    cases hm
    exact RA [iv (-1)] (⟨rfl, h.pk []⟩)
   refine GK (TN (GR (MW 3 (NG (MW 3 (WN ?_))))))
   cases hm
   exact N_loop fun a ha => ⟨_, rfl, h.pk [], ha.s⟩
  refine XA ?_
  obtain rfl := HS hm
  obtain rfl := q _ rfl
  exact NM fun a ha => ⟨_, rfl, h.pk [], ha.s⟩
 intro F D ⟨j, hout_, y, A⟩
 refine N_use A ?_
 subst hout_
 have hm := o; simp only [Sum.elim_inl] at hm
 refine NF (MW 2 (NC ?_))
 obtain rfl := HS hm
 exact RA [iv j] (⟨rfl, y.pk []⟩)
theorem c_l_heldBoolS (w : World) (c : List Bool) (d f) (m : rdS Gx.encB w c d f) (j : Int) {r : Int} (hm : M.l_heldBoolS c j = some r) :
  Calls Tryz.prog 83 #[SL d c f, iv j] w fun e w' => e = .returned (iv r) ∧ Mem [] w w' [] := by
 unfold M.l_heldBoolS at hm
 refine cE Tryz.func83 ?_
 have M0 := Mem.refl [] w
 refine QA (MW 1 (NB (MW 1 (NO (GD hm fun z y n => G_meet (fun a w' => ∃ (i : Int), z = .inl i ∧ Mem [] w w' [] ∧ Sat Tryz.f83.ntmps [(1, iv i)] a) ?_ ?_)))))
 ·refine GB (G_while (σ := Int × Int) (ρ := (Int) ⊕ (Int)) (fun b a w' => Mem [] w w' [] ∧ Sat Tryz.f83.ntmps [(0, SL d c f), (1, iv b.1), (5, iv b.2)] a) y (fun a ha => ⟨M0.pk [], ha.s⟩) ?_)
  clear hm
  intro b D hm o B g ⟨h, v⟩
  refine G_use v (QB (MW 4 (NO (GT hm (fun k hm => ?_) fun k hm => ?_))))
  ·refine GK (TN (GS (GB (QB (MW 2 (GD hm fun t q hm => wV (elemP d (b.2.toNat * 1)) g (eI (m.mem0 h) rfl q) (wV (.bool t) g (eE false 1 0 (b.2.toNat * 1) (m.mem0 h) q) (MW 4 (NO (GT hm (fun l hm => ?_) fun l hm => ?_))))))))))
   ·refine QA (MW 1 (ND (BR (TR (TR ?_)))))
    obtain rfl := HS hm
    obtain rfl := o _ rfl
    have hm := n; simp only [Sum.elim_inr] at hm
    refine BR (N_meet_ret (TR ?_))
    cases hm
    exact RA [iv (-1)] (⟨rfl, h.pk []⟩)
   refine GK (TN (GR (MW 3 (NG (wR 3 [(0, SL d c f), (1, iv (w64 (b.1 + 1))), (5, iv (w64 (b.2 + 1)))] g (WN ?_))))))
   cases hm
   exact N_loop fun a ha => ⟨_, rfl, h.pk [], ha.s⟩
  refine XA ?_
  obtain rfl := HS hm
  obtain rfl := o _ rfl
  exact NM fun a ha => ⟨_, rfl, h.pk [], ha.s⟩
 intro C A ⟨i, hout_, u, x⟩
 refine N_use x ?_
 subst hout_
 have hm := n; simp only [Sum.elim_inl] at hm
 refine NF (MW 2 (NC ?_))
 obtain rfl := HS hm
 exact RA [iv i] (⟨rfl, u.pk []⟩)
theorem c_l_heldSlotS (w : World) (f : List Slot) (c g) (i : rdS encSlot w f c g) (m : Int) {r : Int} (hm : M.l_heldSlotS f m = some r) :
  Calls Tryz.prog 141 #[SL c f g, iv m] w fun e w' => e = .returned (iv r) ∧ Mem [] w w' [] := by
 unfold M.l_heldSlotS at hm
 refine cE Tryz.func141 ?_
 have M0 := Mem.refl [] w
 refine QA (MW 1 (NB (MW 1 (NO (GD hm fun F E k => G_meet (fun a w' => ∃ (j : Int), F = .inl j ∧ Mem [] w w' [] ∧ Sat Tryz.f141.ntmps [(1, iv j)] a) ?_ ?_)))))
 ·refine GB (G_while (σ := Int × Int) (ρ := (Int) ⊕ (Int)) (fun b a w' => Mem [] w w' [] ∧ Sat Tryz.f141.ntmps [(0, SL c f g), (1, iv b.1), (5, iv b.2)] a) E (fun a ha => ⟨M0.pk [], ha.s⟩) ?_)
  clear hm
  intro b J hm l H d ⟨h, C⟩
  refine G_use C (QB (MW 4 (NO (GT hm (fun n hm => ?_) fun n hm => ?_))))
  ·refine GK (TN (GS (GB (QB (MW 2 (GD hm fun y u hm => wV (elemP c (b.2.toNat * 3)) d (eI (i.mem0 h) rfl u) (wV (elemP c (b.2.toNat * 3 + 0)) d (eF 0 (b.2.toNat * 3) 0 (i.mem0 h) u) (wV (iv y.State) d (eE false 1 0 (b.2.toNat * 3 + 0) (i.mem0 h) u) (MW 2 (NO (GT hm (fun o hm => ?_) fun o hm => ?_)))))))))))
   ·refine QA (MW 1 (ND (BR (TR (TR ?_)))))
    obtain rfl := HS hm
    obtain rfl := l _ rfl
    have hm := k; simp only [Sum.elim_inr] at hm
    refine BR (N_meet_ret (TR ?_))
    cases hm
    exact RA [iv (-1)] (⟨rfl, h.pk []⟩)
   refine KA (MW 3 (NB (MW 2 (GD hm fun z v hm => wV (elemP c (b.2.toNat * 3)) d (eI (i.mem0 h) rfl v) (wV (elemP c (b.2.toNat * 3 + 1)) d (eF 1 (b.2.toNat * 3) 1 (i.mem0 h) v) (wV (iv z.Irq) d (eE false 1 1 (b.2.toNat * 3 + 1) (i.mem0 h) v) (wR 2 [(0, SL c f g), (1, iv (w64 (b.1 + 1))), (5, iv b.2), (27, .bool (z.Irq != (w64 (b.1 + 1))))] d (NO (GT hm (fun q hm => ?_) fun q hm => ?_)))))))))
   ·refine QA (MW 1 (ND (BR (TR (TR ?_)))))
    obtain rfl := HS hm
    obtain rfl := l _ rfl
    have hm := k; simp only [Sum.elim_inr] at hm
    refine BR (N_meet_ret (TR ?_))
    cases hm
    exact RA [iv (-1)] (⟨rfl, h.pk []⟩)
   refine KA (MW 3 (NB (MW 2 (GD hm fun A x hm => wV (elemP c (b.2.toNat * 3)) d (eI (i.mem0 h) rfl x) (wV (elemP c (b.2.toNat * 3 + 2)) d (eF 2 (b.2.toNat * 3) 2 (i.mem0 h) x) (wV (iv A.Priority) d (eE false 1 2 (b.2.toNat * 3 + 2) (i.mem0 h) x) (MW 2 (NO (GT hm (fun t hm => ?_) fun t hm => ?_)))))))))
   ·refine QA (MW 1 (ND (BR (TR (TR ?_)))))
    obtain rfl := HS hm
    obtain rfl := l _ rfl
    have hm := k; simp only [Sum.elim_inr] at hm
    refine BR (N_meet_ret (TR ?_))
    cases hm
    exact RA [iv (-1)] (⟨rfl, h.pk []⟩)
   refine GK (TN (GR (MW 3 (NG (MW 3 (WN ?_))))))
   cases hm
   exact N_loop fun a ha => ⟨_, rfl, h.pk [], ha.s⟩
  refine XA ?_
  obtain rfl := HS hm
  obtain rfl := l _ rfl
  exact NM fun a ha => ⟨_, rfl, h.pk [], ha.s⟩
 intro I G ⟨j, hout_, B, D⟩
 refine N_use D ?_
 subst hout_
 have hm := k; simp only [Sum.elim_inl] at hm
 refine NF (wR 2 [(4, iv j)] G (NC ?_))
 obtain rfl := HS hm
 exact RA [iv j] (⟨rfl, B.pk []⟩)
theorem c_l_heldWaiterS (w : World) (d : List Waiter) (c g) (i : rdS encWaiter w d c g) (k : Int) {r : Int} (hm : M.l_heldWaiterS d k = some r) :
  Calls Tryz.prog 142 #[SL c d g, iv k] w fun e w' => e = .returned (iv r) ∧ Mem [] w w' [] := by
 unfold M.l_heldWaiterS at hm
 refine cE Tryz.func142 ?_
 have M0 := Mem.refl [] w
 refine QA (MW 1 (NB (MW 1 (NO (GD hm fun C B o => G_meet (fun a w' => ∃ (j : Int), C = .inl j ∧ Mem [] w w' [] ∧ Sat Tryz.f142.ntmps [(1, iv j)] a) ?_ ?_)))))
 ·refine GB (G_while (σ := Int × Int) (ρ := (Int) ⊕ (Int)) (fun b a w' => Mem [] w w' [] ∧ Sat Tryz.f142.ntmps [(0, SL c d g), (1, iv b.1), (5, iv b.2)] a) B (fun a ha => ⟨M0.pk [], ha.s⟩) ?_)
  clear hm
  intro b G hm q E f ⟨h, z⟩
  refine G_use z (QB (MW 4 (NO (GT hm (fun l hm => ?_) fun l hm => ?_))))
  ·refine GK (TN (GS (GB (QB (MW 2 (GD hm fun v t hm => wV (elemP c (b.2.toNat * 2)) f (eI (i.mem0 h) rfl t) (wV (elemP c (b.2.toNat * 2 + 0)) f (eF 0 (b.2.toNat * 2) 0 (i.mem0 h) t) (wV (iv v.Irq) f (eE false 1 0 (b.2.toNat * 2 + 0) (i.mem0 h) t) (MW 2 (NO (GT hm (fun m hm => ?_) fun m hm => ?_)))))))))))
   ·refine QA (MW 1 (ND (BR (TR (TR ?_)))))
    obtain rfl := HS hm
    obtain rfl := q _ rfl
    have hm := o; simp only [Sum.elim_inr] at hm
    refine BR (N_meet_ret (TR ?_))
    cases hm
    exact RA [iv (-1)] (⟨rfl, h.pk []⟩)
   refine KA (MW 3 (NB (MW 2 (GD hm fun x u hm => wV (elemP c (b.2.toNat * 2)) f (eI (i.mem0 h) rfl u) (wV (elemP c (b.2.toNat * 2 + 1)) f (eF 1 (b.2.toNat * 2) 1 (i.mem0 h) u) (wV (iv x.Priority) f (eE false 1 1 (b.2.toNat * 2 + 1) (i.mem0 h) u) (wR 2 [(0, SL c d g), (1, iv (w64 (b.1 + 1))), (5, iv b.2), (27, .bool (x.Priority != (w64 (b.1 + 1))))] f (NO (GT hm (fun n hm => ?_) fun n hm => ?_)))))))))
   ·refine QA (MW 1 (ND (BR (TR (TR ?_)))))
    obtain rfl := HS hm
    obtain rfl := q _ rfl
    have hm := o; simp only [Sum.elim_inr] at hm
    refine BR (N_meet_ret (TR ?_))
    cases hm
    exact RA [iv (-1)] (⟨rfl, h.pk []⟩)
   refine GK (TN (GR (MW 3 (NG (MW 3 (WN ?_))))))
   cases hm
   exact N_loop fun a ha => ⟨_, rfl, h.pk [], ha.s⟩
  refine XA ?_
  obtain rfl := HS hm
  obtain rfl := q _ rfl
  exact NM fun a ha => ⟨_, rfl, h.pk [], ha.s⟩
 intro F D ⟨j, hout_, y, A⟩
 refine N_use A ?_
 subst hout_
 have hm := o; simp only [Sum.elim_inl] at hm
 refine NF (MW 2 (NC ?_))
 obtain rfl := HS hm
 exact RA [iv j] (⟨rfl, y.pk []⟩)
theorem c_l_heldInterfaceS (w : World) (d : List Interface) (c f) (X : rdD deepInterface w d c f) (I : Int) {r : Int} (hm : M.l_heldInterfaceS d I = some r) :
  Calls Tryz.prog 84 #[SL c d f, iv I] w fun e w' => e = .returned (iv r) ∧ Mem [] w w' [] := by
 unfold M.l_heldInterfaceS at hm
 refine cE Tryz.func84 ?_
 have M0 := Mem.refl [] w
 refine QA (MW 1 (NB (MW 1 (NO (GD hm fun ai ad z => G_meet (fun a w' => ∃ (B : Int), ai = .inl B ∧ Mem [] w w' [] ∧ Sat Tryz.f84.ntmps [(1, iv B)] a) ?_ ?_)))))
 ·refine GB (G_while (σ := Int × Int) (ρ := (Int) ⊕ (Int)) (fun b a w' => Mem [] w w' [] ∧ Sat Tryz.f84.ntmps [(0, SL c d f), (1, iv b.1), (5, iv b.2)] a) ad (fun a ha => ⟨M0.pk [], ha.s⟩) ?_)
  clear hm
  intro b an hm A ak h ⟨i, Y⟩
  refine G_use Y (QB (MW 4 (NO (GT hm (fun J hm => ?_) fun J hm => ?_))))
  ·refine GK (TN (GS (GB (QB (MW 2 (GD hm fun S ae hm => ?_))))))
   obtain ⟨ao, o, g, Q⟩ := id X
   obtain ⟨am, P⟩ := gxIdx_fst o ae
   refine wV (elemP c (b.2.toNat * 4)) h (eI (g.mem0 i) (len_fst o) P) (wV (elemP c (b.2.toNat * 4 + 0)) h (eF 0 (b.2.toNat * 4) 0 (g.mem0 i) P) (wV (iv S.Mask) h (eE false 1 0 (b.2.toNat * 4 + 0) (g.mem0 i) P) (MW 2 (NO (GT hm (fun K hm => ?_) fun K hm => ?_)))))
   ·refine QA (MW 1 (ND (BR (TR (TR ?_)))))
    obtain rfl := HS hm
    obtain rfl := A _ rfl
    have hm := z; simp only [Sum.elim_inr] at hm
    refine BR (N_meet_ret (TR ?_))
    cases hm
    exact RA [iv (-1)] (⟨rfl, i.pk []⟩)
   refine KA (MW 3 (NA (wR 2 [(0, SL c d f), (1, iv (w64 (b.1 + 1))), (5, iv b.2), (21, SL c d f), (22, iv b.2)] h (GD hm fun C af hm => ?_))))
   obtain ⟨j, F⟩ := gxIdx_fst o af
   refine wV (elemP c (b.2.toNat * 4)) h (eI (g.mem0 i) (len_fst o) F) (wV (elemP c (b.2.toNat * 4 + 1)) h (eF 1 (b.2.toNat * 4) 1 (g.mem0 i) F) (wV (SL ((j 0).1) C.Stack ((j 0).2)) h (eE false 1 1 (b.2.toNat * 4 + 1) (g.mem0 i) F) (MW 1 (GD hm fun q aa hm => WD (c_l_heldIntS h C.Stack ((j 0).1) ((j 0).2) ((Q.mem0 i).a_ F 0) (w64 (b.1 + 1)) aa) i fun m u => MW 1 (NB (MW 2 (NO (GT hm (fun L hm => ?_) fun L hm => ?_))))))))
   ·refine QA (MW 1 (ND (BR (TR (TR ?_)))))
    obtain rfl := HS hm
    obtain rfl := A _ rfl
    have hm := z; simp only [Sum.elim_inr] at hm
    refine BR (N_meet_ret (TR ?_))
    cases hm
    exact RA [iv (-1)] (⟨rfl, u.pk []⟩)
   refine KA (MW 2 (GD hm fun D ag hm => ?_))
   obtain ⟨k, x⟩ := gxIdx_fst o ag
   refine wV (elemP c (b.2.toNat * 4)) m (eI (g.mem0 u) (len_fst o) x) (wV (elemP c (b.2.toNat * 4 + 2)) m (eF 2 (b.2.toNat * 4) 2 (g.mem0 u) x) (wV (elemP c (b.2.toNat * 4 + 2 + 0)) m (eF 0 (b.2.toNat * 4 + 2) 0 (g.mem0 u) x) (wV (SL ((k 1).1) D.Queue.Slots ((k 1).2)) m (eE false 1 2 (b.2.toNat * 4 + 2 + 0) (g.mem0 u) x) (MW 1 (GD hm fun t ab hm => WD (c_l_heldSlotS m D.Queue.Slots ((k 1).1) ((k 1).2) ((Q.mem0 u).a_ x 1) q ab) u fun n v => MW 1 (NB (MW 2 (NO (GT hm (fun N hm => ?_) fun N hm => ?_)))))))))
   ·refine QA (MW 1 (ND (BR (TR (TR ?_)))))
    obtain rfl := HS hm
    obtain rfl := A _ rfl
    have hm := z; simp only [Sum.elim_inr] at hm
    refine BR (N_meet_ret (TR ?_))
    cases hm
    exact RA [iv (-1)] (⟨rfl, v.pk []⟩)
   refine KA (MW 2 (GD hm fun E ah hm => ?_))
   obtain ⟨l, y⟩ := gxIdx_fst o ah
   refine wV (elemP c (b.2.toNat * 4)) n (eI (g.mem0 v) (len_fst o) y) (wV (elemP c (b.2.toNat * 4 + 2)) n (eF 2 (b.2.toNat * 4) 2 (g.mem0 v) y) (wV (elemP c (b.2.toNat * 4 + 2 + 1)) n (eF 1 (b.2.toNat * 4 + 2) 1 (g.mem0 v) y) (wV (SL ((l 2).1) E.Queue.Waiting ((l 2).2)) n (eE false 1 3 (b.2.toNat * 4 + 2 + 1) (g.mem0 v) y) (MW 1 (GD hm fun G ac hm => WD (c_l_heldWaiterS n E.Queue.Waiting ((l 2).1) ((l 2).2) ((Q.mem0 v).a_ y 2) t ac) v fun H R => MW 1 (NA (wR 2 [(0, SL c d f), (1, iv G), (5, iv b.2), (49, .bool (decide (G < 0)))] H (NO (GT hm (fun O hm => ?_) fun O hm => ?_)))))))))
   ·refine QA (MW 1 (NX ?_))
    obtain rfl := HS hm
    obtain rfl := A _ rfl
    have hm := z; simp only [Sum.elim_inr] at hm
    refine BR (N_meet_ret (TR ?_))
    cases hm
    exact RA [iv (-1)] (⟨rfl, R.pk []⟩)
   refine KC (MW 3 (WN ?_))
   cases hm
   exact N_loop fun a ha => ⟨_, rfl, R.pk [], ha.s⟩
  refine XA ?_
  obtain rfl := HS hm
  obtain rfl := A _ rfl
  exact NM fun a ha => ⟨_, rfl, i.pk [], ha.s⟩
 intro al aj ⟨B, hout_, W, Z⟩
 refine N_use Z ?_
 subst hout_
 have hm := z; simp only [Sum.elim_inl] at hm
 refine NF (MW 2 (NC ?_))
 obtain rfl := HS hm
 exact RA [iv B] (⟨rfl, W.pk []⟩)
theorem c_l_heldMachine (w : World) (a : Machine) (l h) (N : rdS encRoute w a.Routes l h) (m i) (O : rdS Gx.encB w a.Enabled m i) (n j) (P : rdS Gx.encB w a.Raised n j) (o k) (Q : rdD deepInterface w a.Cpus o k) (g : Int) {r : Int} (hm : M.l_heldMachine a g = some r) :
  Calls Tryz.prog 29 #[.agg #[SL l a.Routes h, SL m a.Enabled i, SL n a.Raised j, SL o a.Cpus k], iv g] w fun e w' => e = .returned (iv r) ∧ Mem [] w w' [] := by
 unfold M.l_heldMachine at hm
 refine cE Tryz.func29 ?_
 have M0 := Mem.refl [] w
 refine QA (wN (CE 32 [SL l a.Routes h, SL m a.Enabled i, SL n a.Raised j, SL o a.Cpus k]) M0 fun b x C => MW 1 (NA (MW 1 (wV (SL l a.Routes h) x (eL false 1 0 (C.blk 0 rfl)) (MW 1 (GD hm fun c R hm => WD (c_l_heldRouteS x a.Routes l h (N.mem0 C) g R) C fun q y => MW 1 (NB (MW 2 (NO (GT hm (fun D hm => ?_) fun D hm => ?_))))))))))
 ·refine QA (MW 1 (ND ?_))
  cases hm
  exact RA [iv (-1)] (⟨rfl, y.pk []⟩)
 refine KA (MW 1 (wV (SL m a.Enabled i) q (eL false 1 1 (y.blk 0 rfl)) (MW 1 (GD hm fun d S hm => WD (c_l_heldBoolS q a.Enabled m i (O.mem0 y) c S) y fun t z => MW 1 (NB (MW 2 (NO (GT hm (fun E hm => ?_) fun E hm => ?_))))))))
 ·refine QA (MW 1 (ND ?_))
  cases hm
  exact RA [iv (-1)] (⟨rfl, z.pk []⟩)
 refine KA (MW 1 (wV (SL n a.Raised j) t (eL false 1 2 (z.blk 0 rfl)) (MW 1 (GD hm fun f T hm => WD (c_l_heldBoolS t a.Raised n j (P.mem0 z) d T) z fun u A => MW 1 (NB (wR 2 [(1, iv f), (2, pB b 0), (22, .bool (decide (f < 0)))] u (NO (GT hm (fun F hm => ?_) fun F hm => ?_))))))))
 ·refine QA (MW 1 (ND ?_))
  cases hm
  exact RA [iv (-1)] (⟨rfl, A.pk []⟩)
 refine KA (MW 1 (wV (SL o a.Cpus k) u (eL false 1 3 (A.blk 0 rfl)) (MW 1 (GD hm fun v U hm => WD (c_l_heldInterfaceS u a.Cpus o k (Q.mem0 A) f U) A fun B H => MW 1 (NB (MW 2 (NO (GT hm (fun G hm => ?_) fun G hm => ?_))))))))
 ·refine QA (MW 1 (ND ?_))
  cases hm
  exact RA [iv (-1)] (⟨rfl, H.pk []⟩)
 refine KA (MW 2 (NC ?_))
 obtain rfl := HS hm
 exact RA [iv v] (⟨rfl, H.pk []⟩)
end Go.Proofs.YtllhajkgkghhdaaGreat
