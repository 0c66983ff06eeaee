/- Part of a proof: what its last text rests on. -/
import Derived.Test.YtllhajkgkghhdaaGreatProg
import Derived.Test.YtllhajkgkghhdaaGreatSh
import Derived.Test.YtllhajkgkghhdaaGreatmd
set_option linter.unusedVariables false
set_option linter.unusedSimpArgs false
set_option maxRecDepth 100000
set_option maxHeartbeats 4000000
namespace Go.Proofs.YtllhajkgkghhdaaGreat
open Go.Gx
theorem c_s_l1Cur_iface (w : World) (l : l1Cur) (t u) (H : rdS Gx.encU8 w l.code t u) (d : Nat) (hA : ∀ q ∈ List.flatten [(BK d 110 [SL t l.code u, iv l.at_, .int .u64 l.seed])], w.heap[q.1]? = some q.2) (hN : (idsOf [(BK d 110 [SL t l.code u, iv l.at_, .int .u64 l.seed])]).Nodup) (I : apartX (idsOf [(BK d 110 [SL t l.code u, iv l.at_, .int .u64 l.seed])]) l.code t) {r : Interface × Int × Int} (hm : M.s_l1Cur_iface l = some r) :
  Calls Tryz.prog 147 #[pB d 0] w fun e w' => ∃ et ek ez eu el e0 ev em e1, e = .returned (.agg #[iv r.1.Mask, SL et r.1.Stack ek, SL eu r.1.Queue.Slots el, SL ev r.1.Queue.Waiting em]) ∧ ownS Gx.encI r.1.Stack et ek ez ∧ ownS encSlot r.1.Queue.Slots eu el e0 ∧ ownS encWaiter r.1.Queue.Waiting ev em e1 ∧ Mem (idsOf [(BK d 110 [SL t l.code u, iv l.at_, .int .u64 l.seed])]) w w' [(BK d 110 [SL t l.code u, iv r.2.1, .int .u64 r.2.2]), ez, e0, e1] := by
 unfold M.s_l1Cur_iface at hm
 refine cE Tryz.func147 ?_
 have M0 := Mem.start' w [(BK d 110 [SL t l.code u, iv l.at_, .int .u64 l.seed])] hA hN
 refine QA (wN (CE 87 [iv 0, SN, SN, SN]) M0 fun n kq fk => NA (wL (E := Gx.encI) ([] : List Int) 0 [] 3 fk fun bj bg i8 jo hd fl => MW 4 (wL (E := encSlot) [(⟨0, 0, 0⟩ : Slot), (⟨0, 0, 0⟩ : Slot), (⟨0, 0, 0⟩ : Slot), (⟨0, 0, 0⟩ : Slot)] 4 [iv 0, iv 0, iv 0, iv 0, iv 0, iv 0, iv 0, iv 0, iv 0, iv 0, iv 0, iv 0] 117 fl fun cb bl i9 kr he fm => wL (E := encWaiter) ([] : List Waiter) 0 [] 142 fm fun cc bm ja jp hf fn => MW 2 (wN (CE 87 [iv 0, SN, SN, SN]) fn fun m ks fo => wS true 4 0 (.agg #[iv 16, SL bj ([] : List Int) bg, SL cb [(⟨0, 0, 0⟩ : Slot), (⟨0, 0, 0⟩ : Slot), (⟨0, 0, 0⟩ : Slot), (⟨0, 0, 0⟩ : Slot)] bl, SL cc ([] : List Waiter) bm]) 5 [iv 16, SL bj ([] : List Int) bg, SL cb [(⟨0, 0, 0⟩ : Slot), (⟨0, 0, 0⟩ : Slot), (⟨0, 0, 0⟩ : Slot), (⟨0, 0, 0⟩ : Slot)] bl, SL cc ([] : List Waiter) bm] fo rfl fun e2 a9 => NB (MW 1 (GD hm fun i7 io hm => WC ((c_s_l1Cur_pick e2 l t u (H.memX I a9) d 14 (a9.hasPick [0]) (a9.nodupPick [0] (by kernel_rfl)) (apartX.old H I a9 [0]) io).mono ?_)))))))
 rintro e_ jq ⟨rfl, e6⟩
 have fp := a9.callF' [0] [1, 2, 3, 4, 5] (by kernel_rfl) e6
 refine ⟨_, rfl, ?_⟩
 refine MW 1 (NO (GD hm fun y i4 hc => G_meet (fun a w' => ∃ L K al W U am X V an, ownS Gx.encI y.2.2.2.1 L K al ∧ ownS encSlot y.2.2.2.2.1 W U am ∧ ownS encWaiter y.2.2.2.2.2 X V an ∧ Mem (idsOf [(BK d 110 [SL t l.code u, iv l.at_, .int .u64 l.seed])]) w w' [(BK n 87 [iv 0, SN, SN, SN]), (BK m 87 [iv y.2.2.1, SL L y.2.2.2.1 K, SL W y.2.2.2.2.1 U, SL X y.2.2.2.2.2 V]), (BK d 110 [SL t l.code u, iv y.1, .int .u64 y.2.1]), al, am, an] ∧ Sat Tryz.f147.ntmps [(0, pB d 0), (2, pB n 0), (3, pB m 0)] a) ?_ ?_))
 ·refine GB (G_while (σ := Int × Int × Int × Int × List Int × List Slot × List Waiter) (ρ := Int × Int × Int × List Int × List Slot × List Waiter) (fun c a w' => ∃ D A Q F B S G C T, ownS Gx.encI c.2.2.2.2.1 D A Q ∧ ownS encSlot c.2.2.2.2.2.1 F B S ∧ ownS encWaiter c.2.2.2.2.2.2 G C T ∧ Mem (idsOf [(BK d 110 [SL t l.code u, iv l.at_, .int .u64 l.seed])]) w w' [(BK n 87 [iv 0, SN, SN, SN]), (BK m 87 [iv c.2.2.2.1, SL D c.2.2.2.2.1 A, SL F c.2.2.2.2.2.1 B, SL G c.2.2.2.2.2.2 C]), (BK d 110 [SL t l.code u, iv c.2.1, .int .u64 c.2.2.1]), Q, S, T] ∧ Sat Tryz.f147.ntmps [(0, pB d 0), (2, pB n 0), (3, pB m 0), (4, iv c.1)] a) i4 (fun a ha => ⟨bj, bg, i8, cb, bl, i9, cc, bm, ja, hd, he, hf, fp.pk [0, 4, 5, 1, 2, 3], ha.s⟩) ?_)
  clear hm
  intro c ld hm im kc eb ⟨D, A, Q, F, B, S, G, C, T, ax, ay, az, a5, go⟩
  refine G_use go (QB (MW 2 (NO (GT hm (fun dq hm => ?_) fun dq hm => ?_))))
  ·refine KD (MW 1 (GD hm fun z ip hm => WC ((c_s_l1Cur_pick eb (⟨l.code, c.2.1, c.2.2.1⟩ : l1Cur) t u (H.memX I a5) d 6 (a5.hasPick [2]) (a5.nodupPick [2] (by kernel_rfl)) (apartX.old H I a5 [2]) ip).mono ?_)))
   rintro e_ ec ⟨rfl, e7⟩
   have di := a5.callF' [2] [0, 1, 3, 4, 5] (by kernel_rfl) e7
   refine ⟨_, rfl, ?_⟩
   refine NO (GB (QB (MW 2 (NO (GD hm fun es hg g1 => G_meet (fun a w' => Mem (idsOf [(BK d 110 [SL t l.code u, iv l.at_, .int .u64 l.seed])]) w w' [(BK n 87 [iv 0, SN, SN, SN]), (BK m 87 [iv c.2.2.2.1, SL D c.2.2.2.2.1 A, SL F c.2.2.2.2.2.1 B, SL G c.2.2.2.2.2.2 C]), Q, S, T, (BK d 110 [SL t l.code u, iv z.2.1, .int .u64 z.2.2])] ∧ Sat Tryz.f147.ntmps [(0, pB d 0), (2, pB n 0), (3, pB m 0), (4, iv c.1), (21, iv z.1), (22, .bool es)] a) ?_ ?_)))))
   ·have hm := hg
    refine GT hm (fun dr hm => ?_) fun dr hm => ?_
    ·refine GK ?_
     obtain rfl := HS hm
     exact NM fun a ha => ⟨di.pk [0, 1, 2, 3, 4, 5], ha.s⟩
    refine QA (MW 2 (NO (GD hm fun i5 hh g2 => G_meet (fun a w' => Mem (idsOf [(BK d 110 [SL t l.code u, iv l.at_, .int .u64 l.seed])]) w w' [(BK n 87 [iv 0, SN, SN, SN]), (BK m 87 [iv c.2.2.2.1, SL D c.2.2.2.2.1 A, SL F c.2.2.2.2.2.1 B, SL G c.2.2.2.2.2.2 C]), Q, S, T, (BK d 110 [SL t l.code u, iv z.2.1, .int .u64 z.2.2])] ∧ Sat Tryz.f147.ntmps [(0, pB d 0), (2, pB n 0), (3, pB m 0), (4, iv c.1), (21, iv z.1), (22, .bool i5)] a) ?_ ?_)))
    ·have hm := hh
     refine GT hm (fun ds hm => ?_) fun ds hm => ?_
     ·refine GK ?_
      obtain rfl := HS hm
      exact NM fun a ha => ⟨di.pk [0, 1, 2, 3, 4, 5], ha.s⟩
     refine GR (wR 2 [(0, pB d 0), (2, pB n 0), (3, pB m 0), (4, iv c.1), (21, iv z.1), (22, .bool (z.1 == 2))] ec (WN ?_))
     obtain rfl := HS hm
     exact NM fun a ha => ⟨di.pk [0, 1, 2, 3, 4, 5], ha.s⟩
    intro kd kt ⟨fq, gp⟩
    refine N_use gp ?_
    have hm := g2
    obtain rfl := HS hm
    exact NM fun a ha => ⟨fq.pk [0, 1, 2, 3, 4, 5], ha.s⟩
   intro ke ed ⟨dj, gq⟩
   refine N_use gq ?_
   have hm := g1
   refine TN (GD hm fun aj hi g3 => G_meet (fun a w' => ∃ cd bn c1 ce bo c2 cf bp c3, ownS Gx.encI aj.2.2.2.1 cd bn c1 ∧ ownS encSlot aj.2.2.2.2.1 ce bo c2 ∧ ownS encWaiter aj.2.2.2.2.2 cf bp c3 ∧ Mem (idsOf [(BK d 110 [SL t l.code u, iv l.at_, .int .u64 l.seed])]) w w' [(BK n 87 [iv 0, SN, SN, SN]), (BK m 87 [iv aj.2.2.1, SL cd aj.2.2.2.1 bn, SL ce aj.2.2.2.2.1 bo, SL cf aj.2.2.2.2.2 bp]), (BK d 110 [SL t l.code u, iv aj.1, .int .u64 aj.2.1]), c1, c2, c3] ∧ Sat Tryz.f147.ntmps [(0, pB d 0), (2, pB n 0), (3, pB m 0), (4, iv c.1)] a) ?_ ?_)
   ·have hm := hi
    rcases gx_bif hm with ⟨dt, hm⟩ | ⟨dt, hm⟩
    ·refine gT dt (GD hm fun P iq hm => GD hm fun ah ir hm => ?_)
     have fs : Mem (idsOf [(BK d 110 [SL t l.code u, iv l.at_, .int .u64 l.seed])]) w ed ([(BK n 87 [iv 0, SN, SN, SN]), (BK m 87 [iv c.2.2.2.1, SL D c.2.2.2.2.1 A, SL F c.2.2.2.2.2.1 B, SL G c.2.2.2.2.2.2 C]), Q, S, T] ++ (List.range 5).map (fun i => ([[], [], (BK d 110 [SL t l.code u, iv z.2.1, .int .u64 z.2.2]), [], []] : List Seg).getD i [])) := dj.pk [0, 1, 2, 3, 4, 300000, 300001, 5, 300003, 300004]
     refine GU [(0, pB d 0), (2, pB n 0), (3, pB m 0), (4, iv c.1), (21, iv z.1), (22, .bool es)] (DL 5 [[],[],[1],[],[2,3]] [[],[],[],[],[2]] (EM 5) (EM 5) (EM 5) (EM 5) (fun i => ([[], [], (BK d 110 [SL t l.code u, iv z.2.1, .int .u64 z.2.2]), [], []] : List Seg).getD i []) [QV (.agg #[iv c.2.2.2.1, SL D c.2.2.2.2.1 A, SL F c.2.2.2.2.2.1 B, SL G c.2.2.2.2.2.2 C]), QV (pB d 0), fun f v s => v = (iv P.1 : Value) ∧ s = (BK d 110 [SL t l.code u, iv P.2.1, .int .u64 P.2.2]), QV (pB d 0), fun f v s => v = (iv ah.1 : Value) ∧ s = (BK d 110 [SL t l.code u, iv ah.2.1, .int .u64 ah.2.2])] [2] [0, 4] [4] fs (AC ?_ (AC ?_ (AC ?_ (AC ?_ (AC ?_ AN))))) ?_)
     ·intro av bh R jr ef
      exact OV ⟨rfl, rfl⟩ (eL true 4 0 (ef.blk 1 rfl)) ef
     ·intro av bh R js ft
      exact OM ⟨rfl, rfl⟩ ft
     ·rintro av bh v1_ ⟨rfl, _⟩ R jt ba
      refine WC ((c_s_l1Cur_pick jt (⟨l.code, z.2.1, z.2.2⟩ : l1Cur) t u (H.memX I ba) d 8 (ba.hasPick [5]) (ba.nodupPick [5] (by kernel_rfl)) (apartX.old H I ba [5]) iq).mono ?_)
      rintro e_ ku ⟨rfl, e8⟩
      refine ⟨_, rfl, ?_⟩
      exact WN (oE (iv P.1) (BK d 110 [SL t l.code u, iv P.2.1, .int .u64 P.2.2]) ⟨rfl, rfl⟩ (Mem.callMidF ba e8))
     ·intro av bh R ju fu
      exact OM ⟨rfl, rfl⟩ fu
     ·intro av bh v2_ hb2_
      obtain ⟨rfl, hs2_⟩ := hb2_
      rintro v3_ ⟨rfl, _⟩ R ee fv
      have bk : Mem (idsOf [(BK d 110 [SL t l.code u, iv l.at_, .int .u64 l.seed])]) w ee ([(BK n 87 [iv 0, SN, SN, SN]), (BK m 87 [iv c.2.2.2.1, SL D c.2.2.2.2.1 A, SL F c.2.2.2.2.2.1 B, SL G c.2.2.2.2.2.2 C]), Q, S, T] ++ ([[]] ++ ([(av 2)] ++ ([] ++ R)))) := fv
      rw [hs2_] at bk
      replace bk : Mem (idsOf [(BK d 110 [SL t l.code u, iv l.at_, .int .u64 l.seed])]) w ee ([(BK n 87 [iv 0, SN, SN, SN]), (BK m 87 [iv c.2.2.2.1, SL D c.2.2.2.2.1 A, SL F c.2.2.2.2.2.1 B, SL G c.2.2.2.2.2.2 C]), Q, S, T] ++ ([[]] ++ ([(BK d 110 [SL t l.code u, iv P.2.1, .int .u64 P.2.2])] ++ ([] ++ R)))) := bk.permF (by simp)
      have bb := Mem.takeOver bk
      refine WC ((c_s_l1Cur_pick ee (⟨l.code, P.2.1, P.2.2⟩ : l1Cur) t u (H.memX I bb) d 12 (bb.hasPick [5]) (bb.nodupPick [5] (by kernel_rfl)) (apartX.old H I bb [5]) ir).mono ?_)
      rintro e_ kv ⟨rfl, e9⟩
      refine ⟨_, rfl, ?_⟩
      exact WN (oE (iv ah.1) (BK d 110 [SL t l.code u, iv ah.2.1, .int .u64 ah.2.2]) ⟨rfl, rfl⟩ (Mem.callMidF bb e9))
     intro av bh v2_ hb2_
     obtain ⟨_, rfl, _⟩ := hb2_
     rintro v0_ ⟨rfl, _⟩ v4_ hb4_
     obtain ⟨rfl, hs4_⟩ := hb4_
     intro e3 fw
     have bc : Mem (idsOf [(BK d 110 [SL t l.code u, iv l.at_, .int .u64 l.seed])]) w e3 [(BK n 87 [iv 0, SN, SN, SN]), (BK m 87 [iv c.2.2.2.1, SL D c.2.2.2.2.1 A, SL F c.2.2.2.2.2.1 B, SL G c.2.2.2.2.2.2 C]), Q, S, T, (av 4)] := fw
     rw [hs4_] at bc
     refine GD hm fun aq it hm => WC ((c_s_l10Raise e3 (⟨c.2.2.2.1, c.2.2.2.2.1, (⟨c.2.2.2.2.2.1, c.2.2.2.2.2.2⟩ : Queue)⟩ : Interface) D A (ax.r bc 2) F B (ay.r bc 3) G C (az.r bc 4) P.1 ah.1 it).mono ?_)
     rintro e_ kw ⟨d5, dm, jb, d6, dn, jc, d7, dp, jd, rfl, hn, ho, hp, fa⟩
     have fx := bc.call fa
     refine ⟨_, rfl, ?_⟩
     refine wS true 4 0 (.agg #[iv aq.Mask, SL d5 aq.Stack dm, SL d6 aq.Queue.Slots dn, SL d7 aq.Queue.Waiting dp]) 1 [iv aq.Mask, SL d5 aq.Stack dm, SL d6 aq.Queue.Slots dn, SL d7 aq.Queue.Waiting dp] fx rfl fun kx fy => WN ?_
     obtain rfl := HS hm
     exact NM fun a ha => ⟨d5, dm, jb, d6, dn, jc, d7, dp, jd, hn, ho, hp, fy.pk [0, 1, 5, 6, 7, 8], ha.s⟩
    refine gF dt (QB (MW 2 (NO (GD hm fun i6 hq g4 => G_meet (fun a w' => Mem (idsOf [(BK d 110 [SL t l.code u, iv l.at_, .int .u64 l.seed])]) w w' [(BK n 87 [iv 0, SN, SN, SN]), (BK m 87 [iv c.2.2.2.1, SL D c.2.2.2.2.1 A, SL F c.2.2.2.2.2.1 B, SL G c.2.2.2.2.2.2 C]), Q, S, T, (BK d 110 [SL t l.code u, iv z.2.1, .int .u64 z.2.2])] ∧ Sat Tryz.f147.ntmps [(0, pB d 0), (2, pB n 0), (3, pB m 0), (4, iv c.1), (21, iv z.1), (32, .bool i6)] a) ?_ ?_))))
    ·have hm := hq
     refine GT hm (fun du hm => ?_) fun du hm => ?_
     ·refine GK ?_
      obtain rfl := HS hm
      exact NM fun a ha => ⟨dj.pk [0, 1, 2, 3, 4, 5], ha.s⟩
     refine GR (MW 2 (WN ?_))
     obtain rfl := HS hm
     exact NM fun a ha => ⟨dj.pk [0, 1, 2, 3, 4, 5], ha.s⟩
    intro kf a8 ⟨O, gr⟩
    refine N_use gr ?_
    have hm := g4
    refine TN (GD hm fun a0 hr g5 => G_meet (fun a w' => ∃ cg bq c4 ch br c5 ci bs c6, ownS Gx.encI a0.2.1 cg bq c4 ∧ ownS encSlot a0.2.2.1 ch br c5 ∧ ownS encWaiter a0.2.2.2 ci bs c6 ∧ Mem (idsOf [(BK d 110 [SL t l.code u, iv l.at_, .int .u64 l.seed])]) w w' [(BK n 87 [iv 0, SN, SN, SN]), (BK m 87 [iv a0.1, SL cg a0.2.1 bq, SL ch a0.2.2.1 br, SL ci a0.2.2.2 bs]), (BK d 110 [SL t l.code u, iv z.2.1, .int .u64 z.2.2]), c4, c5, c6] ∧ Sat Tryz.f147.ntmps [(0, pB d 0), (2, pB n 0), (3, pB m 0), (4, iv c.1)] a) ?_ ?_)
    ·have hm := hr
     refine GT hm (fun dv hm => ?_) fun dv hm => ?_
     ·refine GR (wV (.agg #[iv c.2.2.2.1, SL D c.2.2.2.2.1 A, SL F c.2.2.2.2.2.1 B, SL G c.2.2.2.2.2.2 C]) a8 (eL true 4 0 (O.blk 1 rfl)) (GD hm fun Y iu hm => WC ((c_s_l10Take a8 (⟨c.2.2.2.1, c.2.2.2.2.1, (⟨c.2.2.2.2.2.1, c.2.2.2.2.2.2⟩ : Queue)⟩ : Interface) D A (ax.r O 2) F B (ay.r O 3) G C (az.r O 4) iu).mono ?_)))
      rintro e_ jv ⟨cj, bt, je, ck, bu, jf, cl, bv, jg, rfl, hv, hw, hx, fb⟩
      have fz := O.call fb
      refine ⟨_, rfl, ?_⟩
      refine MW 3 (wS true 4 0 (.agg #[iv Y.1.Mask, SL cj Y.1.Stack bt, SL ck Y.1.Queue.Slots bu, SL cl Y.1.Queue.Waiting bv]) 1 [iv Y.1.Mask, SL cj Y.1.Stack bt, SL ck Y.1.Queue.Slots bu, SL cl Y.1.Queue.Waiting bv] fz rfl fun ky f0 => WN ?_)
      obtain rfl := HS hm
      exact NM fun a ha => ⟨cj, bt, je, ck, bu, jf, cl, bv, jg, hv, hw, hx, f0.pk [0, 1, 5, 6, 7, 8], ha.s⟩
     refine QA (MW 2 (NO (GD hm fun a3 hy g6 => G_meet (fun a w' => ∃ cm bw c7 cn bx c8 co bz c9, ownS Gx.encI a3.2.1 cm bw c7 ∧ ownS encSlot a3.2.2.1 cn bx c8 ∧ ownS encWaiter a3.2.2.2 co bz c9 ∧ Mem (idsOf [(BK d 110 [SL t l.code u, iv l.at_, .int .u64 l.seed])]) w w' [(BK n 87 [iv 0, SN, SN, SN]), (BK m 87 [iv a3.1, SL cm a3.2.1 bw, SL cn a3.2.2.1 bx, SL co a3.2.2.2 bz]), (BK d 110 [SL t l.code u, iv z.2.1, .int .u64 z.2.2]), c7, c8, c9] ∧ Sat Tryz.f147.ntmps [(0, pB d 0), (2, pB n 0), (3, pB m 0), (4, iv c.1)] a) ?_ ?_)))
     ·have hm := hy
      refine GT hm (fun dw hm => ?_) fun dw hm => ?_
      ·refine GR (wV (.agg #[iv c.2.2.2.1, SL D c.2.2.2.2.1 A, SL F c.2.2.2.2.2.1 B, SL G c.2.2.2.2.2.2 C]) a8 (eL true 4 0 (O.blk 1 rfl)) ?_)
       rcases gx_alt hm with ⟨d8, iw, hm⟩ | hm
       ·refine WD (c_s_l10Leave__k a8 (⟨c.2.2.2.1, c.2.2.2.2.1, (⟨c.2.2.2.2.2.1, c.2.2.2.2.2.2⟩ : Queue)⟩ : Interface) D A (ax.r O 2) F B (ay.r O 3) G C (az.r O 4) iw) O fun jw f1 => MW 3 (wS true 4 0 (.agg #[iv d8.1.Mask, SL D c.2.2.2.2.1 A, SL F c.2.2.2.2.2.1 B, SL G c.2.2.2.2.2.2 C]) 1 [iv d8.1.Mask, SL D c.2.2.2.2.1 A, SL F c.2.2.2.2.2.1 B, SL G c.2.2.2.2.2.2 C] f1 rfl fun kz f2 => WN ?_)
        obtain rfl := HS hm
        exact NM fun a ha => ⟨D, A, Q, F, B, S, G, C, T, ax, ay, az, f2.pk [0, 1, 5, 2, 3, 4], ha.s⟩
       refine GD hm fun Z ix hm => WC ((c_s_l10Leave a8 (⟨c.2.2.2.1, c.2.2.2.2.1, (⟨c.2.2.2.2.2.1, c.2.2.2.2.2.2⟩ : Queue)⟩ : Interface) D A (ax.r O 2) F B (ay.r O 3) G C (az.r O 4) ix).mono ?_)
       rintro e_ jx ⟨cp, b0, jh, cq, b1, ji, cr, b2, jj, rfl, h2, h3, h4, fd⟩
       have f3 := O.call fd
       refine ⟨_, rfl, ?_⟩
       refine MW 3 (wS true 4 0 (.agg #[iv Z.1.Mask, SL cp Z.1.Stack b0, SL cq Z.1.Queue.Slots b1, SL cr Z.1.Queue.Waiting b2]) 1 [iv Z.1.Mask, SL cp Z.1.Stack b0, SL cq Z.1.Queue.Slots b1, SL cr Z.1.Queue.Waiting b2] f3 rfl fun k0 f4 => WN ?_)
       obtain rfl := HS hm
       exact NM fun a ha => ⟨cp, b0, jh, cq, b1, ji, cr, b2, jj, h2, h3, h4, f4.pk [0, 1, 5, 6, 7, 8], ha.s⟩
      refine GK ?_
      obtain rfl := HS hm
      exact NM fun a ha => ⟨D, A, Q, F, B, S, G, C, T, ax, ay, az, O.pk [0, 1, 5, 2, 3, 4], ha.s⟩
     intro kg k1 ⟨cm, bw, c7, cn, bx, c8, co, bz, c9, hz, h0, h1, f5, gs⟩
     refine N_use gs ?_
     have hm := g6
     obtain rfl := HS hm
     exact NM fun a ha => ⟨cm, bw, c7, cn, bx, c8, co, bz, c9, hz, h0, h1, f5.pk [0, 1, 2, 3, 4, 5], ha.s⟩
    intro kh k2 ⟨cg, bq, c4, ch, br, c5, ci, bs, c6, hs, ht, hu, f6, gt⟩
    refine N_use gt ?_
    have hm := g5
    obtain rfl := HS hm
    exact NM fun a ha => ⟨cg, bq, c4, ch, br, c5, ci, bs, c6, hs, ht, hu, f6.pk [0, 1, 2, 3, 4, 5], ha.s⟩
   intro ki jy ⟨cd, bn, c1, ce, bo, c2, cf, bp, c3, hj, hk, hl, f7, gu⟩
   refine N_use gu ?_
   have hm := g3
   refine BN (BN (TN (GR (wR 3 [(0, pB d 0), (2, pB n 0), (3, pB m 0), (4, iv (w64 (c.1 - 1)))] jy (WN ?_)))))
   cases hm
   exact N_loop fun a ha => ⟨_, rfl, cd, bn, c1, ce, bo, c2, cf, bp, c3, hj, hk, hl, f7.pk [0, 1, 2, 3, 4, 5], ha.s⟩
  refine XA ?_
  obtain rfl := HS hm
  obtain rfl := im _ rfl
  exact NM fun a ha => ⟨D, A, Q, F, B, S, G, C, T, ax, ay, az, a5.pk [0, 1, 2, 3, 4, 5], ha.s⟩
 intro kj e4 ⟨L, K, al, W, U, am, X, V, an, d1, d2, d3, bd, gv⟩
 refine N_use gv ?_
 have hm := hc
 refine TN (QB (MW 1 (GD hm fun ey iy hm => WC ((c_s_l1Cur_one e4 (⟨l.code, y.1, y.2.1⟩ : l1Cur) t u (H.memX I bd) d 3 (bd.hasPick [2]) (bd.nodupPick [2] (by kernel_rfl)) (apartX.old H I bd [2]) iy).mono ?_))))
 rintro e_ jz ⟨rfl, fe⟩
 have eg := bd.callF' [2] [0, 1, 3, 4, 5] (by kernel_rfl) fe
 refine ⟨_, rfl, ?_⟩
 refine NO (GD hm fun ad h5 g7 => G_meet (fun a w' => Mem (idsOf [(BK d 110 [SL t l.code u, iv l.at_, .int .u64 l.seed])]) w w' [(BK n 87 [iv 0, SN, SN, SN]), (BK m 87 [iv ad.2.2, SL L y.2.2.2.1 K, SL W y.2.2.2.2.1 U, SL X y.2.2.2.2.2 V]), al, am, an, (BK d 110 [SL t l.code u, iv ad.1, .int .u64 ad.2.1])] ∧ Sat Tryz.f147.ntmps [(0, pB d 0), (2, pB n 0), (3, pB m 0)] a) ?_ ?_)
 ·have hm := h5
  refine GT hm (fun dx hm => ?_) fun dx hm => ?_
  ·refine GR (MW 1 (wL (E := Gx.encI) [0, 4, 8, 15] 4 [iv 0, iv 4, iv 8, iv 15] 3 eg fun ew en ko j0 ep ar => GD hm fun d9 iz hm => WC ((c_s_l1Cur_among j0 (⟨l.code, ey.2.1, ey.2.2⟩ : l1Cur) t u (H.memX I ar) d [0, 4, 8, 15] ew en (ep.r ar 6) (ar.hasPick [5]) (ar.nodupPick [5] (by kernel_rfl)) (apartX.old H I ar [5]) (apartX.own ep ar 6 (by kernel_rfl) [5] (by kernel_rfl)) iz).mono ?_)))
   rintro e_ j1 ⟨rfl, ff⟩
   have f8 := ar.callF' [5] [0, 1, 2, 3, 4, 6] (by kernel_rfl) ff
   refine ⟨_, rfl, ?_⟩
   refine MW 1 (wS false 1 0 (iv d9.1) 1 [iv d9.1, SL L y.2.2.2.1 K, SL W y.2.2.2.2.1 U, SL X y.2.2.2.2.2 V] f8 rfl fun k3 f9 => WN ?_)
   obtain rfl := HS hm
   exact NM fun a ha => ⟨f9.pk [0, 1, 2, 3, 4, 6], ha.s⟩
  refine GK ?_
  obtain rfl := HS hm
  exact NM fun a ha => ⟨eg.pk [0, 1, 2, 3, 4, 5], ha.s⟩
 intro kk e5 ⟨be, gw⟩
 refine N_use gw ?_
 have hm := g7
 refine TN (QB (MW 1 (GD hm fun J i0 hm => WC ((c_s_l1Cur_pick e5 (⟨l.code, ad.1, ad.2.1⟩ : l1Cur) t u (H.memX I be) d 24 (be.hasPick [5]) (be.nodupPick [5] (by kernel_rfl)) (apartX.old H I be [5]) i0).mono ?_))))
 rintro e_ a4 ⟨rfl, fg⟩
 have ao := be.callF' [5] [0, 1, 2, 3, 4] (by kernel_rfl) fg
 refine ⟨_, rfl, ?_⟩
 refine NO (GB (QA (MW 2 (NO (GD hm fun x h6 g8 => G_meet (fun a w' => ∃ ae aa da af ab db ag ac dc, ownS Gx.encI x.2.2.2.1 ae aa da ∧ ownS encSlot x.2.2.2.2.1 af ab db ∧ ownS encWaiter x.2.2.2.2.2 ag ac dc ∧ Mem (idsOf [(BK d 110 [SL t l.code u, iv l.at_, .int .u64 l.seed])]) w w' [(BK n 87 [iv 0, SN, SN, SN]), (BK m 87 [iv x.2.2.1, SL ae x.2.2.2.1 aa, SL af x.2.2.2.2.1 ab, SL ag x.2.2.2.2.2 ac]), (BK d 110 [SL t l.code u, iv x.1, .int .u64 x.2.1]), da, db, dc] ∧ Sat Tryz.f147.ntmps [(2, pB n 0), (3, pB m 0)] a) ?_ ?_)))))
 ·have hm := h6
  refine GT hm (fun dy hm => ?_) fun dy hm => ?_
  ·refine GR (MW 1 (wL (E := Gx.encI) [(-1), 17] 2 [iv (-1), iv 17] 3 ao fun ex eo kp j2 er au => GD hm fun ea i1 hm => WC ((c_s_l1Cur_among j2 (⟨l.code, J.2.1, J.2.2⟩ : l1Cur) t u (H.memX I au) d [(-1), 17] ex eo (er.r au 6) (au.hasPick [5]) (au.nodupPick [5] (by kernel_rfl)) (apartX.old H I au [5]) (apartX.own er au 6 (by kernel_rfl) [5] (by kernel_rfl)) i1).mono ?_)))
   rintro e_ j3 ⟨rfl, fh⟩
   have ga := au.callF' [5] [0, 1, 2, 3, 4, 6] (by kernel_rfl) fh
   refine ⟨_, rfl, ?_⟩
   refine MW 1 (wS false 1 0 (iv ea.1) 1 [iv ea.1, SL L y.2.2.2.1 K, SL W y.2.2.2.2.1 U, SL X y.2.2.2.2.2 V] ga rfl fun k4 gb => WN ?_)
   obtain rfl := HS hm
   exact NM fun a ha => ⟨L, K, al, W, U, am, X, V, an, d1, d2, d3, gb.pk [0, 1, 6, 2, 3, 4], ha.s⟩
  refine QA (MW 2 (NO (GD hm fun ap ia g9 => G_meet (fun a w' => ∃ ct b3 dd cu b4 de cv b5 df, ownS Gx.encI ap.2.2.1 ct b3 dd ∧ ownS encSlot ap.2.2.2.1 cu b4 de ∧ ownS encWaiter ap.2.2.2.2 cv b5 df ∧ Mem (idsOf [(BK d 110 [SL t l.code u, iv l.at_, .int .u64 l.seed])]) w w' [(BK n 87 [iv 0, SN, SN, SN]), (BK m 87 [iv ad.2.2, SL ct ap.2.2.1 b3, SL cu ap.2.2.2.1 b4, SL cv ap.2.2.2.2 b5]), (BK d 110 [SL t l.code u, iv ap.1, .int .u64 ap.2.1]), dd, de, df] ∧ Sat Tryz.f147.ntmps [(2, pB n 0), (3, pB m 0)] a) ?_ ?_)))
  ·have hm := ia
   rcases gx_bif hm with ⟨dz, hm⟩ | ⟨dz, hm⟩
   ·refine gT dz (GD hm fun N i2 hm => ?_)
    have gc : Mem (idsOf [(BK d 110 [SL t l.code u, iv l.at_, .int .u64 l.seed])]) w a4 ([(BK n 87 [iv 0, SN, SN, SN]), (BK m 87 [iv ad.2.2, SL L y.2.2.2.1 K, SL W y.2.2.2.2.1 U, SL X y.2.2.2.2.2 V]), al, am, an] ++ (List.range 5).map (fun i => ([[], [], [], (BK d 110 [SL t l.code u, iv J.2.1, .int .u64 J.2.2]), []] : List Seg).getD i [])) := ao.pk [0, 1, 2, 3, 4, 300000, 300001, 300002, 5, 300004]
    refine GU [(0, pB d 0), (2, pB n 0), (3, pB m 0), (54, iv J.1), (61, .bool (J.1 == 1))] (DL 5 [[],[0],[],[2],[]] (EM 5) (EM 5) [[],[],[],[],[3]] (EM 5) (EM 5) (fun i => ([[], [], [], (BK d 110 [SL t l.code u, iv J.2.1, .int .u64 J.2.2]), []] : List Seg).getD i []) [QV (pB m 1), QV (.slice L y.2.2.2.1.length K), QV (pB d 0), fun f v s => v = (iv N.1 : Value) ∧ s = (BK d 110 [SL t l.code u, iv N.2.1, .int .u64 N.2.2]), fun f v s => ∃ ak ai, v = (.slice ak [N.1].length ai : Value) ∧ ownS Gx.encI [N.1] ak ai s] [] [1, 3, 4] [3, 4] gc (AC ?_ (AC ?_ (AC ?_ (AC ?_ (AC ?_ AN))))) ?_)
    ·intro aw bi R j4 gd
     exact OM ⟨rfl, rfl⟩ gd
    ·rintro aw bi v0_ ⟨rfl, _⟩ R j5 eh
     exact OV ⟨rfl, rfl⟩ (eL false 1 1 (eh.blk 1 rfl)) eh
    ·intro aw bi R j6 ge
     exact OM ⟨rfl, rfl⟩ ge
    ·rintro aw bi v2_ ⟨rfl, _⟩ R j7 bf
     refine WC ((c_s_l1Cur_pick j7 (⟨l.code, J.2.1, J.2.2⟩ : l1Cur) t u (H.memX I bf) d 8 (bf.hasPick [5]) (bf.nodupPick [5] (by kernel_rfl)) (apartX.old H I bf [5]) i2).mono ?_)
     rintro e_ k5 ⟨rfl, fi⟩
     refine ⟨_, rfl, ?_⟩
     exact WN (oE (iv N.1) (BK d 110 [SL t l.code u, iv N.2.1, .int .u64 N.2.2]) ⟨rfl, rfl⟩ (Mem.callMidF bf fi))
    ·intro aw bi v3_ hb3_
     obtain ⟨_, rfl, _⟩ := hb3_
     intro R k6 gf
     exact wL (E := Gx.encI) [N.1] 1 [iv N.1] 3 gf fun ak ai jk k7 d4 gg => WN (oE (SL ak [N.1] ai) jk ⟨ak, ai, rfl, d4⟩ (Mem.mid gg))
    rintro aw bi v1_ ⟨rfl, _⟩ v3_ hb3_
    obtain ⟨rfl, hs3_⟩ := hb3_
    intro v4_ hb4_
    obtain ⟨ak, ai, rfl, d4⟩ := hb4_
    intro j8 gh
    have dk : Mem (idsOf [(BK d 110 [SL t l.code u, iv l.at_, .int .u64 l.seed])]) w j8 [(BK n 87 [iv 0, SN, SN, SN]), (BK m 87 [iv ad.2.2, SL L y.2.2.2.1 K, SL W y.2.2.2.2.1 U, SL X y.2.2.2.2.2 V]), al, am, an, (aw 3), (aw 4)] := gh
    rw [hs3_] at dk
    refine GD hm fun dl g0 hm => wA 8 [iv 0] 2 dk d1 (d4.r dk 6) g0 fun cw b6 jl j9 ig gi => MW 1 (wS false 1 1 (SL cw dl b6) 1 [iv ad.2.2, SL cw dl b6, SL W y.2.2.2.2.1 U, SL X y.2.2.2.2.2 V] gi rfl fun k8 gj => WN ?_)
    obtain rfl := HS hm
    exact NM fun a ha => ⟨cw, b6, jl, W, U, am, X, V, an, ig, d2, d3, gj.pk [0, 1, 5, 2, 3, 4], ha.s⟩
   refine gF dz (QA (MW 2 (NO (GD hm fun a6 ih hb => G_meet (fun a w' => ∃ cx b7 dg cy b8 dh, ownS encSlot a6.2.2.1 cx b7 dg ∧ ownS encWaiter a6.2.2.2 cy b8 dh ∧ Mem (idsOf [(BK d 110 [SL t l.code u, iv l.at_, .int .u64 l.seed])]) w w' [(BK n 87 [iv 0, SN, SN, SN]), (BK m 87 [iv ad.2.2, SL L y.2.2.2.1 K, SL cx a6.2.2.1 b7, SL cy a6.2.2.2 b8]), al, (BK d 110 [SL t l.code u, iv a6.1, .int .u64 a6.2.1]), dg, dh] ∧ Sat Tryz.f147.ntmps [(2, pB n 0), (3, pB m 0)] a) ?_ ?_))))
   ·have hm := ih
    refine GT hm (fun d0 hm => ?_) fun d0 hm => ?_
    ·refine GR (MW 1 (GD hm fun a7 i3 hm => WC ((c_s_l1Cur_queue a4 (⟨l.code, J.2.1, J.2.2⟩ : l1Cur) t u (H.memX I ao) d (ao.hasPick [5]) (ao.nodupPick [5] (by kernel_rfl)) (apartX.old H I ao [5]) i3).mono ?_)))
     rintro e_ ka ⟨cz, b9, jm, c0, ca, jn, rfl, ik, il, fj⟩
     have gk := ao.callF' [5] [0, 1, 2, 3, 4] (by kernel_rfl) fj
     refine ⟨_, rfl, ?_⟩
     refine MW 1 (wS true 2 2 (.agg #[SL cz a7.1.Slots b9, SL c0 a7.1.Waiting ca]) 1 [iv ad.2.2, SL L y.2.2.2.1 K, SL cz a7.1.Slots b9, SL c0 a7.1.Waiting ca] gk rfl fun k9 gl => WN ?_)
     obtain rfl := HS hm
     exact NM fun a ha => ⟨cz, b9, jm, c0, ca, jn, ik, il, gl.pk [0, 1, 2, 5, 6, 7], ha.s⟩
    refine GK ?_
    obtain rfl := HS hm
    exact NM fun a ha => ⟨W, U, am, X, V, an, d2, d3, ao.pk [0, 1, 2, 5, 3, 4], ha.s⟩
   intro kl la ⟨cx, b7, dg, cy, b8, dh, ii, ij, gm, gx⟩
   refine N_use gx ?_
   have hm := hb
   obtain rfl := HS hm
   exact NM fun a ha => ⟨L, K, al, cx, b7, dg, cy, b8, dh, d1, ii, ij, gm.pk [0, 1, 3, 2, 4, 5], ha.s⟩
  intro km lb ⟨ct, b3, dd, cu, b4, de, cv, b5, df, ib, ic, ie, gn, gy⟩
  refine N_use gy ?_
  have hm := g9
  obtain rfl := HS hm
  exact NM fun a ha => ⟨ct, b3, dd, cu, b4, de, cv, b5, df, ib, ic, ie, gn.pk [0, 1, 2, 3, 4, 5], ha.s⟩
 intro kn kb ⟨ae, aa, da, af, ab, db, ag, ac, dc, h7, h8, h9, ei, gz⟩
 refine N_use gz ?_
 have hm := g8
 refine BN (NF (wV (.agg #[iv x.2.2.1, SL ae x.2.2.2.1 aa, SL af x.2.2.2.2.1 ab, SL ag x.2.2.2.2.2 ac]) kb (eL true 4 0 (ei.blk 1 rfl)) (wS true 4 0 (.agg #[iv x.2.2.1, SL ae x.2.2.2.1 aa, SL af x.2.2.2.2.1 ab, SL ag x.2.2.2.2.2 ac]) 0 [iv x.2.2.1, SL ae x.2.2.2.1 aa, SL af x.2.2.2.2.1 ab, SL ag x.2.2.2.2.2 ac] ei rfl fun lc ej => NC ?_)))
 obtain rfl := HS hm
 exact N_ret [.agg #[iv x.2.2.1, SL ae x.2.2.2.1 aa, SL af x.2.2.2.2.1 ab, SL ag x.2.2.2.2.2 ac]] (RX true 4 0 (ej.blk 0 rfl) RVs_nil) (⟨ae, aa, da, af, ab, db, ag, ac, dc, rfl, h7, h8, h9, ej.pk [2, 3, 4, 5]⟩)
theorem c_s_l1Cur_machine (w : World) (d : l1Cur) (m n) (X : rdS Gx.encU8 w d.code m n) (c : Nat) (hA : ∀ q ∈ List.flatten [(BK c 110 [SL m d.code n, iv d.at_, .int .u64 d.seed])], w.heap[q.1]? = some q.2) (hN : (idsOf [(BK c 110 [SL m d.code n, iv d.at_, .int .u64 d.seed])]).Nodup) (Y : apartX (idsOf [(BK c 110 [SL m d.code n, iv d.at_, .int .u64 d.seed])]) d.code m) {r : Machine × Int × Int} (hm : M.s_l1Cur_machine d = some r) :
  Calls Tryz.prog 92 #[pB c 0] w fun e w' => ∃ hf g4 hj hg g5 hk hh g6 hl hi g7 hn ho, e = .returned (.agg #[SL hf r.1.Routes g4, SL hg r.1.Enabled g5, SL hh r.1.Raised g6, SL hi r.1.Cpus g7]) ∧ ownS encRoute r.1.Routes hf g4 hj ∧ ownS Gx.encB r.1.Enabled hg g5 hk ∧ ownS Gx.encB r.1.Raised hh g6 hl ∧ ownD deepInterface r.1.Cpus hi g7 hn ho ∧ Mem (idsOf [(BK c 110 [SL m d.code n, iv d.at_, .int .u64 d.seed])]) w w' [(BK c 110 [SL m d.code n, iv r.2.1, .int .u64 r.2.2]), hj, hk, hl, hn, ho] := by
 unfold M.s_l1Cur_machine at hm
 refine cE Tryz.func92 ?_
 have M0 := Mem.start' w [(BK c 110 [SL m d.code n, iv d.at_, .int .u64 d.seed])] hA hN
 refine QA (wN (CE 32 [SN, SN, SN, SN]) M0 fun u ht c9 => NA (MW 1 (GD hm fun ak mt hm => WC ((c_s_l1Cur_pick ht d m n (X.memX Y c9) c 2 (c9.hasPick [0]) (c9.nodupPick [0] (by kernel_rfl)) (apartX.old X Y c9 [0]) mt).mono ?_))))
 rintro e_ nu ⟨rfl, h9⟩
 have it := c9.callF' [0] [1] (by kernel_rfl) h9
 refine ⟨_, rfl, ?_⟩
 refine MW 2 (NA (wL (E := encRoute) ([] : List Route) 0 [] 129 it fun f9 fn nj hu lg iu => MW 1 (NB (MW 1 (NO (GD hm fun cm nb ld => G_meet (fun a w' => ∃ c0 cw gc, ownS encRoute cm.1 c0 cw gc ∧ Mem (idsOf [(BK c 110 [SL m d.code n, iv d.at_, .int .u64 d.seed])]) w w' [(BK u 32 [SN, SN, SN, SN]), (BK c 110 [SL m d.code n, iv cm.2.1, .int .u64 cm.2.2]), gc] ∧ Sat Tryz.f92.ntmps [(0, pB c 0), (2, pB u 0), (3, iv (w64 (1 + ak.1))), (4, SL c0 cm.1 cw)] a) ?_ ?_))))))
 ·refine GB (G_while (σ := List Route × Int × Int × Int) (ρ := List Route × Int × Int) (fun ad a w' => ∃ bo bi es, ownS encRoute ad.1 bo bi es ∧ Mem (idsOf [(BK c 110 [SL m d.code n, iv d.at_, .int .u64 d.seed])]) w w' [(BK u 32 [SN, SN, SN, SN]), (BK c 110 [SL m d.code n, iv ad.2.2.1, .int .u64 ad.2.2.2]), es] ∧ Sat Tryz.f92.ntmps [(0, pB c 0), (2, pB u 0), (3, iv (w64 (1 + ak.1))), (4, SL bo ad.1 bi), (5, iv ad.2.1)] a) nb (fun a ha => ⟨f9, fn, nj, lg, iu.pk [0, 1, 2], ha.s⟩) ?_)
  clear hm
  intro ad qc hm mp o0 gi ⟨bo, bi, es, g8, cu, kq⟩
  refine G_use kq (QB (MW 2 (NO (GT hm (fun fp hm => ?_) fun fp hm => ?_))))
  ·refine GK (TN (GS (GB (GR (MW 2 (GD hm fun c1 mu hm => WC ((c_s_l1Cur_pick gi (⟨d.code, ad.2.2.1, ad.2.2.2⟩ : l1Cur) m n (X.memX Y cu) c 10 (cu.hasPick [1]) (cu.nodupPick [1] (by kernel_rfl)) (apartX.old X Y cu [1]) mu).mono ?_)))))))
   rintro e_ hv ⟨rfl, ia⟩
   have da := cu.callF' [1] [0, 2] (by kernel_rfl) ia
   refine ⟨_, rfl, ?_⟩
   refine MW 2 (GD hm fun gb mv hm => WC ((c_s_l1Cur_pick hv (⟨d.code, c1.2.1, c1.2.2⟩ : l1Cur) m n (X.memX Y da) c (w64 (1 + ak.1)) (da.hasPick [2]) (da.nodupPick [2] (by kernel_rfl)) (apartX.old X Y da [2]) mv).mono ?_))
   rintro e_ nv ⟨rfl, ib⟩
   have iw := da.callF' [2] [0, 1] (by kernel_rfl) ib
   refine ⟨_, rfl, ?_⟩
   refine MW 1 (wL (E := encRoute) [(⟨c1.1, gb.1⟩ : Route)] 1 [iv c1.1, iv gb.1] 129 iw fun pi pd pm po li gr => GD hm fun g2 k2 hm => wA 16 [iv 0, iv 0] 1 gr g8 (li.r gr 3) k2 fun ga fo nk hw lj ix => MW 1 (NG (wR 3 [(0, pB c 0), (2, pB u 0), (3, iv (w64 (1 + ak.1))), (4, SL ga g2 fo), (5, iv (w64 (ad.2.1 + 1)))] hw (WN ?_))))
   cases hm
   exact N_loop fun a ha => ⟨_, rfl, ga, fo, nk, lj, ix.pk [0, 2, 1], ha.s⟩
  refine XA ?_
  obtain rfl := HS hm
  obtain rfl := mp _ rfl
  exact NM fun a ha => ⟨bo, bi, es, g8, cu.pk [0, 1, 2], ha.s⟩
 intro o1 hx ⟨c0, cw, gc, lh, gs, kr⟩
 refine N_use kr ?_
 have hm := ld
 refine NF (MW 2 (GD hm fun S mw hm => WC ((c_s_NewMachine hx cm.1 c0 cw (lh.r gs 2) (w64 (1 + ak.1)) mw).mono ?_)))
 rintro e_ nw ⟨be, bb, bz, ab, ae, nl, af, ah, nm, bf, bc, b0, b1, rfl, lk, ll, lm, ln, ic⟩
 have iy := gs.call ic
 refine ⟨_, rfl, ?_⟩
 refine MW 3 (wN (CE 32 [SN, SN, SN, SN]) iy fun t pp iz => wS true 4 0 (.agg #[SL be S.1.Routes bb, SL ab S.1.Enabled ae, SL af S.1.Raised ah, SL bf S.1.Cpus bc]) 8 [SL be S.1.Routes bb, SL ab S.1.Enabled ae, SL af S.1.Raised ah, SL bf S.1.Cpus bc] iz rfl fun hy i0 => MW 1 (NB (MW 1 (NO (GD hm fun b8 nc le => G_meet (fun a w' => ∃ et eu, ownS Gx.encB b8.2.2.1 ab ae et ∧ ownS Gx.encB b8.2.2.2 af ah eu ∧ Mem (idsOf [(BK c 110 [SL m d.code n, iv d.at_, .int .u64 d.seed])]) w w' [(BK u 32 [SN, SN, SN, SN]), (BK c 110 [SL m d.code n, iv b8.1, .int .u64 b8.2.1]), bz, b0, b1, (BK t 32 [SL be S.1.Routes bb, SL ab b8.2.2.1 ae, SL af b8.2.2.2 ah, SL bf S.1.Cpus bc]), et, eu] ∧ Sat Tryz.f92.ntmps [(0, pB c 0), (2, pB u 0), (6, pB t 0)] a) ?_ ?_)))))
 ·refine GB (G_while (σ := Int × Int × Int × List Bool × List Bool) (ρ := Int × Int × List Bool × List Bool) (fun x a w' => ∃ c2 b2, ownS Gx.encB x.2.2.2.1 ab ae c2 ∧ ownS Gx.encB x.2.2.2.2 af ah b2 ∧ Mem (idsOf [(BK c 110 [SL m d.code n, iv d.at_, .int .u64 d.seed])]) w w' [(BK u 32 [SN, SN, SN, SN]), (BK c 110 [SL m d.code n, iv x.2.1, .int .u64 x.2.2.1]), bz, b0, b1, (BK t 32 [SL be S.1.Routes bb, SL ab x.2.2.2.1 ae, SL af x.2.2.2.2 ah, SL bf S.1.Cpus bc]), c2, b2] ∧ Sat Tryz.f92.ntmps [(0, pB c 0), (2, pB u 0), (6, pB t 0), (8, iv x.1)] a) nc (fun a ha => ⟨nl, nm, ll, lm, i0.pk [0, 1, 3, 6, 7, 8, 4, 5], ha.s⟩) ?_)
  clear hm
  intro x qd hm mq o2 hz ⟨c2, b2, fy, fz, gt, ks⟩
  refine G_use ks (QB (MW 2 (NO (GT hm (fun fq hm => ?_) fun fq hm => ?_))))
  ·refine GK (TN (GS (GB (GS (GD hm fun K mx hm => ?_)))))
   have i1 : Mem (idsOf [(BK c 110 [SL m d.code n, iv d.at_, .int .u64 d.seed])]) w hz ([(BK u 32 [SN, SN, SN, SN]), bz, b0, b1, (BK t 32 [SL be S.1.Routes bb, SL ab x.2.2.2.1 ae, SL af x.2.2.2.2 ah, SL bf S.1.Cpus bc]), c2, b2] ++ (List.range 6).map (fun i => ([[], [], [], [], (BK c 110 [SL m d.code n, iv x.2.1, .int .u64 x.2.2.1]), []] : List Seg).getD i [])) := gt.pk [0, 2, 3, 4, 5, 6, 7, 300000, 300001, 300002, 300003, 1, 300005]
   refine GU [(0, pB c 0), (2, pB u 0), (6, pB t 0), (8, iv x.1), (38, .bool (decide (x.1 < 8)))] (DL 6 [[],[0],[],[],[3],[]] (EM 6) (EM 6) [[],[],[],[],[],[4]] (EM 6) (EM 6) (fun i => ([[], [], [], [], (BK c 110 [SL m d.code n, iv x.2.1, .int .u64 x.2.2.1]), []] : List Seg).getD i []) [QV (pB t 1), QV (.slice ab x.2.2.2.1.length ae), QV (iv x.1), QV (pB c 0), fun f v s => v = (.bool K.1 : Value) ∧ s = (BK c 110 [SL m d.code n, iv K.2.1, .int .u64 K.2.2]), QV (.bool (!K.1))] [] [1, 2, 4, 5] [4] i1 (AC ?_ (AC ?_ (AC ?_ (AC ?_ (AC ?_ (AC ?_ AN)))))) ?_)
   ·intro cf cx R nx i2
    exact OM ⟨rfl, rfl⟩ i2
   ·rintro cf cx v0_ ⟨rfl, _⟩ R ny gu
    exact OV ⟨rfl, rfl⟩ (eL false 1 1 (gu.blk 4 rfl)) gu
   ·intro cf cx R nz i3
    exact OM ⟨rfl, rfl⟩ i3
   ·intro cf cx R n0 i4
    exact OM ⟨rfl, rfl⟩ i4
   ·rintro cf cx v3_ ⟨rfl, _⟩ R n1 db
    refine WC ((c_s_l1Cur_one n1 (⟨d.code, x.2.1, x.2.2.1⟩ : l1Cur) m n (X.memX Y db) c 4 (db.hasPick [7]) (db.nodupPick [7] (by kernel_rfl)) (apartX.old X Y db [7]) mx).mono ?_)
    rintro e_ pq ⟨rfl, ie⟩
    refine ⟨_, rfl, ?_⟩
    exact WN (oE (.bool K.1) (BK c 110 [SL m d.code n, iv K.2.1, .int .u64 K.2.2]) ⟨rfl, rfl⟩ (Mem.callMidF db ie))
   ·intro cf cx v4_ hb4_
    obtain ⟨_, rfl, _⟩ := hb4_
    intro R n2 i5
    exact OM ⟨rfl, rfl⟩ i5
   rintro cf cx v1_ ⟨rfl, _⟩
   rintro v2_ ⟨rfl, _⟩ v4_ hb4_
   obtain ⟨rfl, hs4_⟩ := hb4_
   rintro v5_ ⟨rfl, _⟩ h0 i6
   have fh : Mem (idsOf [(BK c 110 [SL m d.code n, iv d.at_, .int .u64 d.seed])]) w h0 [(BK u 32 [SN, SN, SN, SN]), bz, b0, b1, (BK t 32 [SL be S.1.Routes bb, SL ab x.2.2.2.1 ae, SL af x.2.2.2.2 ah, SL bf S.1.Cpus bc]), c2, b2, (cf 4)] := i6
   rw [hs4_] at fh
   refine GD hm fun ov hc hm => wV (elemP ab (x.1.toNat * 1)) h0 (eI (fy.r fh 5) rfl hc) (wE false 1 x.1.toNat 0 (x.1.toNat * 1) ov (!K.1) (.bool (!K.1)) 5 fh fy (gxIdx_spec hc).2 fun h1 dr lq i7 => LX 42 ab ae x.2.2.2.1 x.1.toNat (!K.1) ?_)
   have i8 : Mem (idsOf [(BK c 110 [.slice m d.code.length n, iv d.at_, .int .u64 d.seed])]) w h1 [(BK u 32 [.slice none 0 0, .slice none 0 0, .slice none 0 0, .slice none 0 0]), bz, b0, b1, (BK t 32 [.slice be S.1.Routes.length bb, .slice ab (x.2.2.2.1.set x.1.toNat (!K.1)).length ae, .slice af x.2.2.2.2.length ah, .slice bf S.1.Cpus.length bc]), dr, b2, (BK c 110 [.slice m d.code.length n, iv K.2.1, .int .u64 K.2.2])] := by rw [@List.length_set _ x.2.2.2.1 x.1.toNat (!K.1)]; exact i7
   refine NO (GD hm fun al my hm => ?_)
   have i9 : Mem (idsOf [(BK c 110 [SL m d.code n, iv d.at_, .int .u64 d.seed])]) w h1 ([(BK u 32 [SN, SN, SN, SN]), bz, b0, b1, (BK t 32 [SL be S.1.Routes bb, SL ab (x.2.2.2.1.set x.1.toNat (!K.1)) ae, SL af x.2.2.2.2 ah, SL bf S.1.Cpus bc]), dr, b2] ++ (List.range 5).map (fun i => ([[], [], [], [], (BK c 110 [SL m d.code n, iv K.2.1, .int .u64 K.2.2])] : List Seg).getD i [])) := i8.pk [0, 1, 2, 3, 4, 5, 6, 300000, 300001, 300002, 300003, 7]
   refine GU [(0, pB c 0), (2, pB u 0), (6, pB t 0), (8, iv x.1), (38, .bool (decide (x.1 < 8))), (42, SL ab (x.2.2.2.1.set x.1.toNat (!K.1)) ae), (43, iv x.1), (45, .bool K.1), (46, .bool (!K.1)), (47, elemP ab (x.1.toNat * 1))] (DL 5 [[],[0],[],[],[3]] (EM 5) (EM 5) (EM 5) (EM 5) (EM 5) (fun i => ([[], [], [], [], (BK c 110 [SL m d.code n, iv K.2.1, .int .u64 K.2.2])] : List Seg).getD i []) [QV (pB t 2), QV (.slice af x.2.2.2.2.length ah), QV (iv x.1), QV (pB c 0), fun f v s => v = (.bool al.1 : Value) ∧ s = (BK c 110 [SL m d.code n, iv al.2.1, .int .u64 al.2.2])] [] [1, 2, 4] [4] i9 (AC ?_ (AC ?_ (AC ?_ (AC ?_ (AC ?_ AN))))) ?_)
   ·intro cy dl R n3 ja
    exact OM ⟨rfl, rfl⟩ ja
   ·rintro cy dl v0_ ⟨rfl, _⟩ R n4 gv
    exact OV ⟨rfl, rfl⟩ (eL false 1 2 (gv.blk 4 rfl)) gv
   ·intro cy dl R n5 jb
    exact OM ⟨rfl, rfl⟩ jb
   ·intro cy dl R n6 jc
    exact OM ⟨rfl, rfl⟩ jc
   ·rintro cy dl v3_ ⟨rfl, _⟩ R n7 dc
    refine WC ((c_s_l1Cur_one n7 (⟨d.code, K.2.1, K.2.2⟩ : l1Cur) m n (X.memX Y dc) c 2 (dc.hasPick [7]) (dc.nodupPick [7] (by kernel_rfl)) (apartX.old X Y dc [7]) my).mono ?_)
    rintro e_ pr ⟨rfl, ig⟩
    refine ⟨_, rfl, ?_⟩
    exact WN (oE (.bool al.1) (BK c 110 [SL m d.code n, iv al.2.1, .int .u64 al.2.2]) ⟨rfl, rfl⟩ (Mem.callMidF dc ig))
   rintro cy dl v1_ ⟨rfl, _⟩
   rintro v2_ ⟨rfl, _⟩ v4_ hb4_
   obtain ⟨rfl, hs4_⟩ := hb4_
   intro h2 jd
   have fi : Mem (idsOf [(BK c 110 [SL m d.code n, iv d.at_, .int .u64 d.seed])]) w h2 [(BK u 32 [SN, SN, SN, SN]), bz, b0, b1, (BK t 32 [SL be S.1.Routes bb, SL ab (x.2.2.2.1.set x.1.toNat (!K.1)) ae, SL af x.2.2.2.2 ah, SL bf S.1.Cpus bc]), dr, b2, (cy 4)] := jd
   rw [hs4_] at fi
   refine GD hm fun ow hd hm => wV (elemP af (x.1.toNat * 1)) h2 (eI (fz.r fi 6) rfl hd) (wE false 1 x.1.toNat 0 (x.1.toNat * 1) ow al.1 (.bool al.1) 6 fi fz (gxIdx_spec hd).2 fun h3 hp lr je => LX 49 af ah x.2.2.2.2 x.1.toNat al.1 ?_)
   have jf : Mem (idsOf [(BK c 110 [.slice m d.code.length n, iv d.at_, .int .u64 d.seed])]) w h3 [(BK u 32 [.slice none 0 0, .slice none 0 0, .slice none 0 0, .slice none 0 0]), bz, b0, b1, (BK t 32 [.slice be S.1.Routes.length bb, .slice ab (x.2.2.2.1.set x.1.toNat (!K.1)).length ae, .slice af (x.2.2.2.2.set x.1.toNat al.1).length ah, .slice bf S.1.Cpus.length bc]), dr, hp, (BK c 110 [.slice m d.code.length n, iv al.2.1, .int .u64 al.2.2])] := by rw [@List.length_set _ x.2.2.2.2 x.1.toNat al.1]; exact je
   refine NG (MW 3 (WN ?_))
   cases hm
   exact N_loop fun a ha => ⟨_, rfl, dr, hp, lq, lr, jf.pk [0, 7, 1, 2, 3, 4, 5, 6], ha.s⟩
  refine XA ?_
  obtain rfl := HS hm
  obtain rfl := mq _ rfl
  exact NM fun a ha => ⟨c2, b2, fy, fz, gt.pk [0, 1, 2, 3, 4, 5, 6, 7], ha.s⟩
 intro o3 h4 ⟨et, eu, lo, lp, dd, kt⟩
 refine N_use kt ?_
 have hm := le
 refine TN (QB (MW 1 (GD hm fun nh mz hm => WC ((c_s_l1Cur_pick h4 (⟨d.code, b8.1, b8.2.1⟩ : l1Cur) m n (X.memX Y dd) c 14 (dd.hasPick [1]) (dd.nodupPick [1] (by kernel_rfl)) (apartX.old X Y dd [1]) mz).mono ?_))))
 rintro e_ n8 ⟨rfl, ih⟩
 have jg := dd.callF' [1] [0, 2, 3, 4, 5, 6, 7] (by kernel_rfl) ih
 refine ⟨_, rfl, ?_⟩
 refine MW 1 (NO (GD hm fun l nd lf => G_meet (fun a w' => ∃ C F Z J I U Q P V G H aa W, ownS encRoute l.2.2.1 C F Z ∧ ownS Gx.encB l.2.2.2.1 J I U ∧ ownS Gx.encB l.2.2.2.2.1 Q P V ∧ ownD deepInterface l.2.2.2.2.2 G H aa W ∧ Mem (idsOf [(BK c 110 [SL m d.code n, iv d.at_, .int .u64 d.seed])]) w w' [(BK u 32 [SN, SN, SN, SN]), (BK t 32 [SL C l.2.2.1 F, SL J l.2.2.2.1 I, SL Q l.2.2.2.2.1 P, SL G l.2.2.2.2.2 H]), (BK c 110 [SL m d.code n, iv l.1, .int .u64 l.2.1]), Z, U, V, aa, W] ∧ Sat Tryz.f92.ntmps [(0, pB c 0), (2, pB u 0), (6, pB t 0)] a) ?_ ?_))
 ·refine GB (G_while (σ := Int × Int × Int × List Route × List Bool × List Bool × List Interface) (ρ := Int × Int × List Route × List Bool × List Bool × List Interface) (fun B a w' => ∃ av ap c3 aw aq c4 ax ar c5 ay au c6 c7, ownS encRoute B.2.2.2.1 av ap c3 ∧ ownS Gx.encB B.2.2.2.2.1 aw aq c4 ∧ ownS Gx.encB B.2.2.2.2.2.1 ax ar c5 ∧ ownD deepInterface B.2.2.2.2.2.2 ay au c6 c7 ∧ Mem (idsOf [(BK c 110 [SL m d.code n, iv d.at_, .int .u64 d.seed])]) w w' [(BK u 32 [SN, SN, SN, SN]), (BK t 32 [SL av B.2.2.2.1 ap, SL aw B.2.2.2.2.1 aq, SL ax B.2.2.2.2.2.1 ar, SL ay B.2.2.2.2.2.2 au]), (BK c 110 [SL m d.code n, iv B.2.1, .int .u64 B.2.2.1]), c3, c4, c5, c6, c7] ∧ Sat Tryz.f92.ntmps [(0, pB c 0), (2, pB u 0), (6, pB t 0), (9, iv B.1)] a) nd (fun a ha => ⟨be, bb, bz, ab, ae, et, af, ah, eu, bf, bc, b0, b1, lk, lo, lp, ln, jg.pk [0, 4, 7, 1, 5, 6, 2, 3], ha.s⟩) ?_)
  clear hm
  intro B qe hm mr o4 fg ⟨av, ap, c3, aw, aq, c4, ax, ar, c5, ay, au, c6, c7, ci, cj, ck, cz, az, ku⟩
  refine G_use ku (QB (wR 2 [(0, pB c 0), (2, pB u 0), (6, pB t 0), (9, iv B.1), (57, .bool (decide (B.1 > 0)))] fg (NO (GT hm (fun fs hm => ?_) fun fs hm => ?_))))
  ·refine KD (MW 1 (wV (.agg #[SL av B.2.2.2.1 ap, SL aw B.2.2.2.2.1 aq, SL ax B.2.2.2.2.2.1 ar, SL ay B.2.2.2.2.2.2 au]) fg (eL true 4 0 (az.blk 1 rfl)) (GD hm fun N m0 hm => WC ((c_s_l1Cur_machStep fg (⟨d.code, B.2.1, B.2.2.1⟩ : l1Cur) m n (X.memX Y az) c (⟨B.2.2.2.1, B.2.2.2.2.1, B.2.2.2.2.2.1, B.2.2.2.2.2.2⟩ : Machine) av ap (ci.r az 3) aw aq (cj.r az 4) ax ar (ck.r az 5) ay au (az.hasPick [2]) (az.nodupPick [2] (by kernel_rfl)) (apartX.old X Y az [2]) (apartX.own ci az 3 (by kernel_rfl) [2] (by kernel_rfl)) (apartX.own cj az 4 (by kernel_rfl) [2] (by kernel_rfl)) (apartX.own ck az 5 (by kernel_rfl) [2] (by kernel_rfl)) (cz.rdX az 6 (by kernel_rfl) 7 (by kernel_rfl) [2] (by kernel_rfl) (by kernel_rfl)) m0).mono ?_))))
   rintro e_ ps ⟨rfl, ii⟩
   have jh := az.callF' [2] [0, 1, 3, 4, 5, 6, 7] (by kernel_rfl) ii
   refine ⟨_, rfl, ?_⟩
   refine wN (CE 51 [iv 0, iv 0, iv 0, iv 0]) jh fun pc pt ji => wS true 4 0 (.agg #[iv N.1.Kind, iv N.1.Irq, iv N.1.Cpu, iv N.1.Value]) 8 [iv N.1.Kind, iv N.1.Irq, iv N.1.Cpu, iv N.1.Value] ji rfl fun gj b9 => NA (wV (.agg #[SL av B.2.2.2.1 ap, SL aw B.2.2.2.2.1 aq, SL ax B.2.2.2.2.2.1 ar, SL ay B.2.2.2.2.2.2 au]) gj (eL true 4 0 (b9.blk 1 rfl)) (wV (.agg #[iv N.1.Kind, iv N.1.Irq, iv N.1.Cpu, iv N.1.Value]) gj (eL true 4 0 (b9.blk 8 rfl)) (GD hm fun pl m1 hm => WD (c_s_l21Step gj (⟨B.2.2.2.1, B.2.2.2.2.1, B.2.2.2.2.2.1, B.2.2.2.2.2.2⟩ : Machine) av ap (ci.r b9 2) aw aq (cj.r b9 3) ax ar (ck.r b9 4) ay au (cz.r2 b9 5 6) N.1 m1) b9 fun gk b4 => NO (GD hm fun b6 lt k7 => G_meet (fun a w' => ∃ ed dv ev ee dw ew ef dx ex eg dy ey ez, ownS encRoute b6.1 ed dv ev ∧ ownS Gx.encB b6.2.1 ee dw ew ∧ ownS Gx.encB b6.2.2.1 ef dx ex ∧ ownD deepInterface b6.2.2.2 eg dy ey ez ∧ Mem (idsOf [(BK c 110 [SL m d.code n, iv d.at_, .int .u64 d.seed])]) w w' [(BK u 32 [SN, SN, SN, SN]), (BK t 32 [SL ed b6.1 dv, SL ee b6.2.1 dw, SL ef b6.2.2.1 dx, SL eg b6.2.2.2 dy]), (BK c 110 [SL m d.code n, iv N.2.1, .int .u64 N.2.2]), ev, ew, ex, ey, ez] ∧ Sat Tryz.f92.ntmps [(0, pB c 0), (2, pB u 0), (6, pB t 0), (9, iv B.1)] a) ?_ ?_))))
   ·have hm := lt
    refine GT hm (fun ft hm => ?_) fun ft hm => ?_
    ·refine QA (wV (.agg #[SL av B.2.2.2.1 ap, SL aw B.2.2.2.2.1 aq, SL ax B.2.2.2.2.2.1 ar, SL ay B.2.2.2.2.2.2 au]) gk (eL true 4 0 (b4.blk 1 rfl)) (wV (.agg #[iv N.1.Kind, iv N.1.Irq, iv N.1.Cpu, iv N.1.Value]) gk (eL true 4 0 (b4.blk 8 rfl)) (GD hm fun T m2 hm => WC ((c_s_l21Make gk (⟨B.2.2.2.1, B.2.2.2.2.1, B.2.2.2.2.2.1, B.2.2.2.2.2.2⟩ : Machine) av ap (ci.r b4 2) aw aq (cj.r b4 3) ax ar (ck.r b4 4) ay au (cz.r2 b4 5 6) N.1 m2).mono ?_))))
     rintro e_ n9 ⟨cn, cb, nn, co, cc, no, cp, cd, np, cq, ce, nq, nr, rfl, ly, lz, l0, l1, ik⟩
     have jj := b4.call ik
     refine ⟨_, rfl, ?_⟩
     refine MW 4 (wN (CE 32 [SN, SN, SN, SN]) jj fun g3 pu jk => wS true 4 0 (.agg #[SL cn T.1.Routes cb, SL co T.1.Enabled cc, SL cp T.1.Raised cd, SL cq T.1.Cpus ce]) 14 [SL cn T.1.Routes cb, SL co T.1.Enabled cc, SL cp T.1.Raised cd, SL cq T.1.Cpus ce] jk rfl fun gl fj => MW 2 (NA (MW 1 (NO (GD hm fun b7 l2 k8 => G_meet (fun a w' => ∃ eh dz e0 ei d0 e1 ej d1 e2 ek d2 e3 e4, ownS encRoute b7.1 eh dz e0 ∧ ownS Gx.encB b7.2.1 ei d0 e1 ∧ ownS Gx.encB b7.2.2.1 ej d1 e2 ∧ ownD deepInterface b7.2.2.2 ek d2 e3 e4 ∧ Mem (idsOf [(BK c 110 [SL m d.code n, iv d.at_, .int .u64 d.seed])]) w w' [(BK u 32 [SN, SN, SN, SN]), (BK t 32 [SL eh b7.1 dz, SL ei b7.2.1 d0, SL ej b7.2.2.1 d1, SL ek b7.2.2.2 d2]), (BK c 110 [SL m d.code n, iv N.2.1, .int .u64 N.2.2]), e0, e1, e2, e3, e4] ∧ Sat Tryz.f92.ntmps [(0, pB c 0), (2, pB u 0), (6, pB t 0), (9, iv B.1)] a) ?_ ?_)))))
     ·have hm := l2
      refine GT hm (fun ch hm => ?_) fun ch hm => ?_
      ·refine GR (wV (.agg #[SL cn T.1.Routes cb, SL co T.1.Enabled cc, SL cp T.1.Raised cd, SL cq T.1.Cpus ce]) gl (eL true 4 0 (fj.blk 14 rfl)) (wS true 4 0 (.agg #[SL cn T.1.Routes cb, SL co T.1.Enabled cc, SL cp T.1.Raised cd, SL cq T.1.Cpus ce]) 1 [SL cn T.1.Routes cb, SL co T.1.Enabled cc, SL cp T.1.Raised cd, SL cq T.1.Cpus ce] fj rfl fun pv jl => WN ?_))
       obtain rfl := HS hm
       exact NM fun a ha => ⟨cn, cb, nn, co, cc, no, cp, cd, np, cq, ce, nq, nr, (ly ch), (lz ch), (l0 ch), (l1 ch), jl.pk [0, 1, 7, 9, 10, 11, 12, 13], ha.s⟩
      refine GK ?_
      obtain rfl := HS hm
      exact NM fun a ha => ⟨av, ap, c3, aw, aq, c4, ax, ar, c5, ay, au, c6, c7, ci, cj, ck, cz, fj.pk [0, 1, 7, 2, 3, 4, 5, 6], ha.s⟩
     intro o5 pw ⟨eh, dz, e0, ei, d0, e1, ej, d1, e2, ek, d2, e3, e4, l3, l4, l5, l6, jm, kv⟩
     refine N_use kv ?_
     have hm := k8
     obtain rfl := HS hm
     exact NM fun a ha => ⟨eh, dz, e0, ei, d0, e1, ej, d1, e2, ek, d2, e3, e4, l3, l4, l5, l6, jm.pk [0, 1, 2, 3, 4, 5, 6, 7], ha.s⟩
    refine GK ?_
    obtain rfl := HS hm
    exact NM fun a ha => ⟨av, ap, c3, aw, aq, c4, ax, ar, c5, ay, au, c6, c7, ci, cj, ck, cz, b4.pk [0, 1, 7, 2, 3, 4, 5, 6], ha.s⟩
   intro o6 oa ⟨ed, dv, ev, ee, dw, ew, ef, dx, ex, eg, dy, ey, ez, lu, lv, lw, lx, jn, kw⟩
   refine N_use kw ?_
   have hm := k7
   refine BN (TN (GR (MW 3 (WN ?_))))
   cases hm
   exact N_loop fun a ha => ⟨_, rfl, ed, dv, ev, ee, dw, ew, ef, dx, ex, eg, dy, ey, ez, lu, lv, lw, lx, jn.pk [0, 1, 2, 3, 4, 5, 6, 7], ha.s⟩
  refine XA ?_
  obtain rfl := HS hm
  obtain rfl := mr _ rfl
  exact NM fun a ha => ⟨av, ap, c3, aw, aq, c4, ax, ar, c5, ay, au, c6, c7, ci, cj, ck, cz, az.pk [0, 1, 2, 3, 4, 5, 6, 7], ha.s⟩
 intro o7 h5 ⟨C, F, Z, J, I, U, Q, P, V, G, H, aa, W, f0, ls, f1, b5, de, kx⟩
 refine N_use kx ?_
 have hm := lf
 refine TN (QB (MW 1 (GD hm fun O m3 hm => WC ((c_s_l1Cur_pick h5 (⟨d.code, l.1, l.2.1⟩ : l1Cur) m n (X.memX Y de) c 24 (de.hasPick [2]) (de.nodupPick [2] (by kernel_rfl)) (apartX.old X Y de [2]) m3).mono ?_))))
 rintro e_ b3 ⟨rfl, il⟩
 have cv := de.callF' [2] [0, 1, 3, 4, 5, 6, 7] (by kernel_rfl) il
 refine ⟨_, rfl, ?_⟩
 refine NO (GB (QA (MW 2 (NO (GD hm fun L l7 k9 => G_meet (fun a w' => ∃ bp bj e5 bq bk e6 e7 e8 hq hr, ownS Gx.encB L.2.2.1 bp bj e5 ∧ ownD deepInterface L.2.2.2.1 bq bk e6 e7 ∧ ownS encRoute L.2.2.2.2.1 C F e8 ∧ ownD deepInterface L.2.2.2.2.2 G H hq hr ∧ Mem (idsOf [(BK c 110 [SL m d.code n, iv d.at_, .int .u64 d.seed])]) w w' [(BK u 32 [SN, SN, SN, SN]), (BK t 32 [SL C L.2.2.2.2.1 F, SL J l.2.2.2.1 I, SL bp L.2.2.1 bj, SL bq L.2.2.2.1 bk]), U, (BK c 110 [SL m d.code n, iv L.1, .int .u64 L.2.1]), e5, e6, e7, e8] ∧ Sat Tryz.f92.ntmps [(2, pB u 0), (6, pB t 0)] a) ?_ ?_)))))
 ·have hm := l7
  rcases gx_bif hm with ⟨fu, hm⟩ | ⟨fu, hm⟩
  ·refine gT fu (GD hm fun ai m4 hm => GD hm fun ac m5 hm => GD hm fun ag m6 hm => ?_)
   have jo : Mem (idsOf [(BK c 110 [SL m d.code n, iv d.at_, .int .u64 d.seed])]) w b3 ([(BK u 32 [SN, SN, SN, SN]), (BK t 32 [SL C l.2.2.1 F, SL J l.2.2.2.1 I, SL Q l.2.2.2.2.1 P, SL G l.2.2.2.2.2 H]), Z, U, V, aa, W] ++ (List.range 10).map (fun i => ([[], [], [], (BK c 110 [SL m d.code n, iv O.2.1, .int .u64 O.2.2]), [], [], [], [], [], []] : List Seg).getD i [])) := cv.pk [0, 1, 2, 3, 4, 5, 6, 300000, 300001, 300002, 7, 300004, 300005, 300006, 300007, 300008, 300009]
   refine GU [(0, pB c 0), (2, pB u 0), (6, pB t 0), (76, iv O.1), (77, .bool (O.1 == 0))] (DL 10 [[],[0],[],[2],[],[],[3,4,5],[],[6,7],[]] [[],[],[],[],[],[],[3],[],[6],[]] [[],[],[],[],[],[],[5],[],[],[]] [[],[],[],[],[],[],[],[],[],[6,8]] (EM 10) (EM 10) (fun i => ([[], [], [], (BK c 110 [SL m d.code n, iv O.2.1, .int .u64 O.2.2]), [], [], [], [], [], []] : List Seg).getD i []) [QV (pB t 0), QV (.slice C l.2.2.1.length F), QV (pB c 0), fun f v s => v = (iv ai.1 : Value) ∧ s = (BK c 110 [SL m d.code n, iv ai.2.1, .int .u64 ai.2.2]), QV (pB c 0), fun f v s => ∃ bg bd, v = (.slice bg [3, 16].length bd : Value) ∧ ownS Gx.encI [3, 16] bg bd s, fun f v s => v = (iv ac.1 : Value) ∧ s = (BK c 110 [SL m d.code n, iv ac.2.1, .int .u64 ac.2.2]), QV (pB c 0), fun f v s => v = (iv ag.1 : Value) ∧ s = (BK c 110 [SL m d.code n, iv ag.2.1, .int .u64 ag.2.2]), QV (.agg #[iv ac.1, iv ag.1])] [3] [1, 5, 8, 9] [5, 8] jo (AC ?_ (AC ?_ (AC ?_ (AC ?_ (AC ?_ (AC ?_ (AC ?_ (AC ?_ (AC ?_ (AC ?_ AN)))))))))) ?_)
   ·intro aj bw R ob jp
    exact OM ⟨rfl, rfl⟩ jp
   ·rintro aj bw v0_ ⟨rfl, _⟩ R oc gw
    exact OV ⟨rfl, rfl⟩ (eL false 1 0 (gw.blk 1 rfl)) gw
   ·intro aj bw R od jq
    exact OM ⟨rfl, rfl⟩ jq
   ·rintro aj bw v2_ ⟨rfl, _⟩ R oe df
    refine WC ((c_s_l1Cur_pick oe (⟨d.code, O.2.1, O.2.2⟩ : l1Cur) m n (X.memX Y df) c 8 (df.hasPick [7]) (df.nodupPick [7] (by kernel_rfl)) (apartX.old X Y df [7]) m4).mono ?_)
    rintro e_ px ⟨rfl, im⟩
    refine ⟨_, rfl, ?_⟩
    exact WN (oE (iv ai.1) (BK c 110 [SL m d.code n, iv ai.2.1, .int .u64 ai.2.2]) ⟨rfl, rfl⟩ (Mem.callMidF df im))
   ·intro aj bw R og jr
    exact OM ⟨rfl, rfl⟩ jr
   ·intro aj bw R py js
    exact wL (E := Gx.encI) [3, 16] 2 [iv 3, iv 16] 3 js fun bg bd ns pz dp jt => WN (oE (SL bg [3, 16] bd) ns ⟨bg, bd, rfl, dp⟩ (Mem.mid jt))
   ·intro aj bw v3_ hb3_
    obtain ⟨rfl, hs3_⟩ := hb3_
    rintro v4_ ⟨rfl, _⟩ v5_ hb5_
    obtain ⟨bg, bd, rfl, dp⟩ := hb5_
    intro R gm ju
    have ds : Mem (idsOf [(BK c 110 [SL m d.code n, iv d.at_, .int .u64 d.seed])]) w gm ([(BK u 32 [SN, SN, SN, SN]), (BK t 32 [SL C l.2.2.1 F, SL J l.2.2.2.1 I, SL Q l.2.2.2.2.1 P, SL G l.2.2.2.2.2 H]), Z, U, V, aa, W] ++ ([[]] ++ ([(aj 3), (aj 5)] ++ ([] ++ R)))) := ju
    rw [hs3_] at ds
    replace ds : Mem (idsOf [(BK c 110 [SL m d.code n, iv d.at_, .int .u64 d.seed])]) w gm ([(BK u 32 [SN, SN, SN, SN]), (BK t 32 [SL C l.2.2.1 F, SL J l.2.2.2.1 I, SL Q l.2.2.2.2.1 P, SL G l.2.2.2.2.2 H]), Z, U, V, aa, W] ++ ([[]] ++ ([(BK c 110 [SL m d.code n, iv ai.2.1, .int .u64 ai.2.2]), (aj 5)] ++ ([] ++ R)))) := ds.permF (by simp)
    have ca := Mem.takeOver ds
    refine WC ((c_s_l1Cur_among gm (⟨d.code, ai.2.1, ai.2.2⟩ : l1Cur) m n (X.memX Y ca) c [3, 16] bg bd (dp.r ca 8) (ca.hasPick [7]) (ca.nodupPick [7] (by kernel_rfl)) (apartX.old X Y ca [7]) (apartX.own dp ca 8 (by kernel_rfl) [7] (by kernel_rfl)) m5).mono ?_)
    rintro e_ p0 ⟨rfl, io⟩
    refine ⟨_, rfl, ?_⟩
    exact WN (oE (iv ac.1) (BK c 110 [SL m d.code n, iv ac.2.1, .int .u64 ac.2.2]) ⟨rfl, rfl⟩ (Mem.callMidF ca io))
   ·intro aj bw R oh jv
    exact OM ⟨rfl, rfl⟩ jv
   ·intro aj bw v6_ hb6_
    obtain ⟨rfl, hs6_⟩ := hb6_
    rintro v7_ ⟨rfl, _⟩ R gn jw
    have dt : Mem (idsOf [(BK c 110 [SL m d.code n, iv d.at_, .int .u64 d.seed])]) w gn ([(BK u 32 [SN, SN, SN, SN]), (BK t 32 [SL C l.2.2.1 F, SL J l.2.2.2.1 I, SL Q l.2.2.2.2.1 P, SL G l.2.2.2.2.2 H]), Z, U, V, aa, W] ++ ([[]] ++ ([(aj 6)] ++ ([] ++ R)))) := jw
    rw [hs6_] at dt
    replace dt : Mem (idsOf [(BK c 110 [SL m d.code n, iv d.at_, .int .u64 d.seed])]) w gn ([(BK u 32 [SN, SN, SN, SN]), (BK t 32 [SL C l.2.2.1 F, SL J l.2.2.2.1 I, SL Q l.2.2.2.2.1 P, SL G l.2.2.2.2.2 H]), Z, U, V, aa, W] ++ ([[]] ++ ([(BK c 110 [SL m d.code n, iv ac.2.1, .int .u64 ac.2.2])] ++ ([] ++ R)))) := dt.permF (by simp)
    have dg := Mem.takeOver dt
    refine WC ((c_s_l1Cur_pick gn (⟨d.code, ac.2.1, ac.2.2⟩ : l1Cur) m n (X.memX Y dg) c 3 (dg.hasPick [7]) (dg.nodupPick [7] (by kernel_rfl)) (apartX.old X Y dg [7]) m6).mono ?_)
    rintro e_ p1 ⟨rfl, ip⟩
    refine ⟨_, rfl, ?_⟩
    exact WN (oE (iv ag.1) (BK c 110 [SL m d.code n, iv ag.2.1, .int .u64 ag.2.2]) ⟨rfl, rfl⟩ (Mem.callMidF dg ip))
   ·intro aj bw v6_ hb6_
    obtain ⟨_, rfl, _⟩ := hb6_
    intro v8_ hb8_
    obtain ⟨_, rfl, _⟩ := hb8_
    intro R oi jx
    exact OM ⟨rfl, rfl⟩ jx
   intro aj bw v3_ hb3_
   obtain ⟨_, rfl, _⟩ := hb3_
   rintro v1_ ⟨rfl, _⟩ v5_ hb5_
   obtain ⟨bg, bd, rfl, dp⟩ := hb5_
   intro v8_ hb8_
   obtain ⟨rfl, hs8_⟩ := hb8_
   rintro v9_ ⟨rfl, _⟩ h6 jy
   have fk : Mem (idsOf [(BK c 110 [SL m d.code n, iv d.at_, .int .u64 d.seed])]) w h6 [(BK u 32 [SN, SN, SN, SN]), (BK t 32 [SL C l.2.2.1 F, SL J l.2.2.2.1 I, SL Q l.2.2.2.2.1 P, SL G l.2.2.2.2.2 H]), Z, U, V, aa, W, (aj 5), (aj 8)] := jy
   rw [hs8_] at fk
   refine GD hm fun ox he hm => wV (elemP C (ai.1.toNat * 2)) h6 (eI (f0.r fk 2) rfl he) (wE true 2 ai.1.toNat 0 (ai.1.toNat * 2) ox (⟨ac.1, ag.1⟩ : Route) (.agg #[iv ac.1, iv ag.1]) 2 fk f0 (gxIdx_spec he).2 fun oj hs mb jz => LX 80 C F l.2.2.1 ai.1.toNat (⟨ac.1, ag.1⟩ : Route) ?_)
   have j0 : Mem (idsOf [(BK c 110 [.slice m d.code.length n, iv d.at_, .int .u64 d.seed])]) w oj [(BK u 32 [.slice none 0 0, .slice none 0 0, .slice none 0 0, .slice none 0 0]), (BK t 32 [.slice C (l.2.2.1.set ai.1.toNat (⟨ac.1, ag.1⟩ : Route)).length F, .slice J l.2.2.2.1.length I, .slice Q l.2.2.2.2.1.length P, .slice G l.2.2.2.2.2.length H]), hs, U, V, aa, W, (aj 5), (BK c 110 [.slice m d.code.length n, iv ag.2.1, .int .u64 ag.2.2])] := by rw [@List.length_set _ l.2.2.1 ai.1.toNat (⟨ac.1, ag.1⟩ : Route)]; exact jz
   refine WN ?_
   obtain rfl := HS hm
   exact NM fun a ha => ⟨Q, P, V, G, H, aa, W, hs, aa, W, f1, b5, mb, b5, j0.pk [0, 1, 3, 8, 4, 5, 6, 2], ha.s⟩
  refine gF fu (QA (wR 2 [(0, pB c 0), (2, pB u 0), (6, pB t 0), (76, iv O.1), (90, .bool (O.1 == 1))] b3 (NO (GD hm fun cl mc la => G_meet (fun a w' => ∃ el d3 e9 em d4 fa fb gd ge, ownS Gx.encB cl.2.2.1 el d3 e9 ∧ ownD deepInterface cl.2.2.2.1 em d4 fa fb ∧ ownD deepInterface cl.2.2.2.2 G H gd ge ∧ Mem (idsOf [(BK c 110 [SL m d.code n, iv d.at_, .int .u64 d.seed])]) w w' [(BK u 32 [SN, SN, SN, SN]), (BK t 32 [SL C l.2.2.1 F, SL J l.2.2.2.1 I, SL el cl.2.2.1 d3, SL em cl.2.2.2.1 d4]), Z, U, (BK c 110 [SL m d.code n, iv cl.1, .int .u64 cl.2.1]), e9, fa, fb] ∧ Sat Tryz.f92.ntmps [(2, pB u 0), (6, pB t 0)] a) ?_ ?_))))
  ·have hm := mc
   refine GT hm (fun fv hm => ?_) fun fv hm => ?_
   ·refine GR (MW 1 (wV (SL Q l.2.2.2.2.1 P) b3 (eL false 1 2 (cv.blk 1 rfl)) (wL (E := Gx.encB) [false] 1 [.bool false] 4 cv fun pj pe pn p2 mg gx => GD hm fun fl k3 hm => wA 1 [.bool false] 4 gx f1 (mg.r gx 8) k3 fun en d5 nt ok mh j1 => MW 1 (wS false 1 2 (SL en fl d5) 1 [SL C l.2.2.1 F, SL J l.2.2.2.1 I, SL en fl d5, SL G l.2.2.2.2.2 H] j1 rfl fun p3 j2 => WN ?_))))
    obtain rfl := HS hm
    exact NM fun a ha => ⟨en, d5, nt, G, H, aa, W, aa, W, mh, b5, b5, j2.pk [0, 1, 2, 3, 7, 4, 5, 6], ha.s⟩
   refine QA (MW 2 (NO (GD hm fun dq mi lb => G_meet (fun a w' => ∃ eo d6 fc fd gf gg, ownD deepInterface dq.2.2.1 eo d6 fc fd ∧ ownD deepInterface dq.2.2.2 G H gf gg ∧ Mem (idsOf [(BK c 110 [SL m d.code n, iv d.at_, .int .u64 d.seed])]) w w' [(BK u 32 [SN, SN, SN, SN]), (BK t 32 [SL C l.2.2.1 F, SL J l.2.2.2.1 I, SL Q l.2.2.2.2.1 P, SL eo dq.2.2.1 d6]), Z, U, V, (BK c 110 [SL m d.code n, iv dq.1, .int .u64 dq.2.1]), fc, fd] ∧ Sat Tryz.f92.ntmps [(2, pB u 0), (6, pB t 0)] a) ?_ ?_)))
   ·have hm := mi
    rcases gx_bif hm with ⟨fw, hm⟩ | ⟨fw, hm⟩
    ·refine gT fw (GD hm fun y m7 hm => ?_)
     have j3 : Mem (idsOf [(BK c 110 [SL m d.code n, iv d.at_, .int .u64 d.seed])]) w b3 ([(BK u 32 [SN, SN, SN, SN]), (BK t 32 [SL C l.2.2.1 F, SL J l.2.2.2.1 I, SL Q l.2.2.2.2.1 P, SL G l.2.2.2.2.2 H]), Z, U, V, aa, W] ++ (List.range 4).map (fun i => ([[], [], [], (BK c 110 [SL m d.code n, iv O.2.1, .int .u64 O.2.2])] : List Seg).getD i [])) := cv.pk [0, 1, 2, 3, 4, 5, 6, 300000, 300001, 300002, 7]
     refine GU [(0, pB c 0), (2, pB u 0), (6, pB t 0), (76, iv O.1), (97, .bool (O.1 == 2))] (DL 4 [[],[0],[],[2]] (EM 4) (EM 4) (EM 4) (EM 4) (EM 4) (fun i => ([[], [], [], (BK c 110 [SL m d.code n, iv O.2.1, .int .u64 O.2.2])] : List Seg).getD i []) [QV (pB t 3), QV (.slice G l.2.2.2.2.2.length H), QV (pB c 0), fun f v s => ∃ a5 a0 am a6 a3 an a7 a4 ao, v = (.agg #[iv y.1.Mask, SL a5 y.1.Stack a0, SL a6 y.1.Queue.Slots a3, SL a7 y.1.Queue.Waiting a4] : Value) ∧ s = ((BK c 110 [SL m d.code n, iv y.2.1, .int .u64 y.2.2]) ++ (am ++ (an ++ ao))) ∧ ownS Gx.encI y.1.Stack a5 a0 am ∧ ownS encSlot y.1.Queue.Slots a6 a3 an ∧ ownS encWaiter y.1.Queue.Waiting a7 a4 ao] [] [1, 3] [3] j3 (AC ?_ (AC ?_ (AC ?_ (AC ?_ AN)))) ?_)
     ·intro dn d9 R ol j4
      exact OM ⟨rfl, rfl⟩ j4
     ·rintro dn d9 v0_ ⟨rfl, _⟩ R om gy
      exact OV ⟨rfl, rfl⟩ (eL false 1 3 (gy.blk 1 rfl)) gy
     ·intro dn d9 R on j5
      exact OM ⟨rfl, rfl⟩ j5
     ·rintro dn d9 v2_ ⟨rfl, _⟩ R oo dh
      refine WC ((c_s_l1Cur_iface oo (⟨d.code, O.2.1, O.2.2⟩ : l1Cur) m n (X.memX Y dh) c (dh.hasPick [7]) (dh.nodupPick [7] (by kernel_rfl)) (apartX.old X Y dh [7]) m7).mono ?_)
      rintro e_ p4 ⟨a5, a0, am, a6, a3, an, a7, a4, ao, rfl, f2, f3, f4, iq⟩
      refine ⟨_, rfl, ?_⟩
      exact WN (oE (.agg #[iv y.1.Mask, SL a5 y.1.Stack a0, SL a6 y.1.Queue.Slots a3, SL a7 y.1.Queue.Waiting a4]) ((BK c 110 [SL m d.code n, iv y.2.1, .int .u64 y.2.2]) ++ (am ++ (an ++ ao))) ⟨a5, a0, am, a6, a3, an, a7, a4, ao, rfl, rfl, f2, f3, f4⟩ (Mem.callMidF dh (iq.permF (by simp))))
     rintro dn d9 v1_ ⟨rfl, _⟩ v3_ hb3_
     obtain ⟨a5, a0, am, a6, a3, an, a7, a4, ao, rfl, hs3_, f2, f3, f4⟩ := hb3_
     intro go j6
     have di : Mem (idsOf [(BK c 110 [SL m d.code n, iv d.at_, .int .u64 d.seed])]) w go [(BK u 32 [SN, SN, SN, SN]), (BK t 32 [SL C l.2.2.1 F, SL J l.2.2.2.1 I, SL Q l.2.2.2.2.1 P, SL G l.2.2.2.2.2 H]), Z, U, V, aa, W, (BK c 110 [SL m d.code n, iv y.2.1, .int .u64 y.2.2]), am, an, ao] := j6.permF (by simp [hs3_, SL])
     refine GD hm fun oy nf hm => ?_
     obtain ⟨qf, eb, hb, k5⟩ := id b5
     obtain ⟨kp, ea⟩ := gxIdx_fst eb nf
     refine wV (elemP G ((0 : Int).toNat * 4)) go (eI (hb.r di 5) (len_fst eb) ea) ?_
     obtain ⟨cr, ni, ct, na, pf, ms⟩ := k5.lens (gxIdx_spec ea).2
     have j7 := di.cut 6 (sa := cr) (sb := ni) (sc := ct) na (by kernel_rfl)
     refine wE true 4 (0 : Int).toNat 0 ((0 : Int).toNat * 4) (oy, kp) (y.1, (plOf [(a5, a0), (a6, a3), (a7, a4)])) (.agg #[iv y.1.Mask, SL a5 y.1.Stack a0, SL a6 y.1.Queue.Slots a3, SL a7 y.1.Queue.Waiting a4]) 5 j7 hb (gxIdx_spec ea).2 ?_
     intro gp c8 ml j8
     have j9 : Mem (idsOf [(BK c 110 [SL m d.code n, iv d.at_, .int .u64 d.seed])]) w gp [(BK u 32 [SN, SN, SN, SN]), (BK t 32 [SL C l.2.2.1 F, SL J l.2.2.2.1 I, SL Q l.2.2.2.2.1 P, SL G l.2.2.2.2.2 H]), Z, U, V, c8, (BK c 110 [SL m d.code n, iv y.2.1, .int .u64 y.2.2]), cr, am, an, ao, ct] := j8.pk [0, 1, 2, 3, 4, 5, 7, 6, 8, 9, 10, 12]
     have ka : Mem (idsOf [(BK c 110 [SL m d.code n, iv d.at_, .int .u64 d.seed])]) w gp [(BK u 32 [SN, SN, SN, SN]), (BK t 32 [SL C l.2.2.1 F, SL J l.2.2.2.1 I, SL Q l.2.2.2.2.1 P, SL G l.2.2.2.2.2 H]), Z, U, V, c8, (BK c 110 [SL m d.code n, iv y.2.1, .int .u64 y.2.2]), (cr ++ ((am ++ (an ++ (ao ++ []))) ++ ct))] := j9.regroup (by simp)
     have g9 : ownD deepInterface (l.2.2.2.2.2.set (0 : Int).toNat y.1) G H c8 (cr ++ ((am ++ (an ++ (ao ++ []))) ++ ct)) := ⟨_, set_fst eb (0 : Int).toNat (y.1, (plOf [(a5, a0), (a6, a3), (a7, a4)])), ml, (ms (y.1, (plOf [(a5, a0), (a6, a3), (a7, a4)])) _ (ownI_cons (i := ⟨Int, Gx.encI, _, _, _⟩) f2 (ownI_cons (i := ⟨Slot, encSlot, _, _, _⟩) f3 (ownI_cons (i := ⟨Waiter, encWaiter, _, _, _⟩) f4 ownI_nil))))⟩
     have ph := gxIdx_put y.1 (gxIdx_down eb ea)
     refine LX 100 G H l.2.2.2.2.2 ((0 : Int).toNat) y.1 ?_
     have kb : Mem (idsOf [(BK c 110 [.slice m d.code.length n, iv d.at_, .int .u64 d.seed])]) w gp [(BK u 32 [.slice none 0 0, .slice none 0 0, .slice none 0 0, .slice none 0 0]), (BK t 32 [.slice C l.2.2.1.length F, .slice J l.2.2.2.1.length I, .slice Q l.2.2.2.2.1.length P, .slice G (l.2.2.2.2.2.set (0 : Int).toNat y.1).length H]), Z, U, V, c8, (BK c 110 [.slice m d.code.length n, iv y.2.1, .int .u64 y.2.2]), (cr ++ ((am ++ (an ++ (ao ++ []))) ++ ct))] := by rw [@List.length_set _ l.2.2.2.2.2 ((0 : Int).toNat) y.1]; exact ka
     refine WN ?_
     obtain rfl := HS hm
     exact NM fun a ha => ⟨G, H, c8, (cr ++ ((am ++ (an ++ (ao ++ []))) ++ ct)), c8, (cr ++ ((am ++ (an ++ (ao ++ []))) ++ ct)), g9, g9, kb.pk [0, 1, 2, 3, 4, 6, 5, 7], ha.s⟩
    refine gF fw (QA (MW 2 (NO (GD hm fun ec mm lc => G_meet (fun a w' => ∃ ep d7 fe ff, ownD deepInterface ec.2.2 ep d7 fe ff ∧ Mem (idsOf [(BK c 110 [SL m d.code n, iv d.at_, .int .u64 d.seed])]) w w' [(BK u 32 [SN, SN, SN, SN]), (BK t 32 [SL C l.2.2.1 F, SL J l.2.2.2.1 I, SL Q l.2.2.2.2.1 P, SL ep ec.2.2 d7]), Z, U, V, (BK c 110 [SL m d.code n, iv ec.1, .int .u64 ec.2.1]), fe, ff] ∧ Sat Tryz.f92.ntmps [(2, pB u 0), (6, pB t 0)] a) ?_ ?_))))
    ·have hm := mm
     rcases gx_bif hm with ⟨fx, hm⟩ | ⟨fx, hm⟩
     ·refine gT fx (GD hm fun z m8 hm => ?_)
      have kc : Mem (idsOf [(BK c 110 [SL m d.code n, iv d.at_, .int .u64 d.seed])]) w b3 ([(BK u 32 [SN, SN, SN, SN]), (BK t 32 [SL C l.2.2.1 F, SL J l.2.2.2.1 I, SL Q l.2.2.2.2.1 P, SL G l.2.2.2.2.2 H]), Z, U, V, aa, W] ++ (List.range 5).map (fun i => ([[], [], [], (BK c 110 [SL m d.code n, iv O.2.1, .int .u64 O.2.2]), []] : List Seg).getD i [])) := cv.pk [0, 1, 2, 3, 4, 5, 6, 300000, 300001, 300002, 7, 300004]
      refine GU [(0, pB c 0), (2, pB u 0), (6, pB t 0), (104, .bool (O.1 == 3))] (DL 5 [[],[0],[],[2],[3]] [[],[],[],[],[3]] (EM 5) (EM 5) (EM 5) (EM 5) (fun i => ([[], [], [], (BK c 110 [SL m d.code n, iv O.2.1, .int .u64 O.2.2]), []] : List Seg).getD i []) [QV (pB t 3), QV (.slice G l.2.2.2.2.2.length H), QV (pB c 0), fun f v s => ∃ br bl a8 bs bm a9 bt bn ba, v = (.agg #[iv z.1.Mask, SL br z.1.Stack bl, SL bs z.1.Queue.Slots bm, SL bt z.1.Queue.Waiting bn] : Value) ∧ s = ((BK c 110 [SL m d.code n, iv z.2.1, .int .u64 z.2.2]) ++ (a8 ++ (a9 ++ ba))) ∧ ownS Gx.encI z.1.Stack br bl a8 ∧ ownS encSlot z.1.Queue.Slots bs bm a9 ∧ ownS encWaiter z.1.Queue.Waiting bt bn ba, fun f v s => ∃ bx bv bh bu, v = (.slice bx [z.1].length bv : Value) ∧ s = (bh ++ ((BK c 110 [SL m d.code n, iv z.2.1, .int .u64 z.2.2]) ++ bu)) ∧ ownD deepInterface [z.1] bx bv bh bu] [] [1, 4] [4] kc (AC ?_ (AC ?_ (AC ?_ (AC ?_ (AC ?_ AN))))) ?_)
      ·intro cg dm R op kd
       exact OM ⟨rfl, rfl⟩ kd
      ·rintro cg dm v0_ ⟨rfl, _⟩ R oq gz
       exact OV ⟨rfl, rfl⟩ (eL false 1 3 (gz.blk 1 rfl)) gz
      ·intro cg dm R os ke
       exact OM ⟨rfl, rfl⟩ ke
      ·rintro cg dm v2_ ⟨rfl, _⟩ R ot dj
       refine WC ((c_s_l1Cur_iface ot (⟨d.code, O.2.1, O.2.2⟩ : l1Cur) m n (X.memX Y dj) c (dj.hasPick [7]) (dj.nodupPick [7] (by kernel_rfl)) (apartX.old X Y dj [7]) m8).mono ?_)
       rintro e_ p5 ⟨br, bl, a8, bs, bm, a9, bt, bn, ba, rfl, f5, f6, f7, ir⟩
       refine ⟨_, rfl, ?_⟩
       exact WN (oE (.agg #[iv z.1.Mask, SL br z.1.Stack bl, SL bs z.1.Queue.Slots bm, SL bt z.1.Queue.Waiting bn]) ((BK c 110 [SL m d.code n, iv z.2.1, .int .u64 z.2.2]) ++ (a8 ++ (a9 ++ ba))) ⟨br, bl, a8, bs, bm, a9, bt, bn, ba, rfl, rfl, f5, f6, f7⟩ (Mem.callMidF dj (ir.permF (by simp))))
      ·intro cg dm v3_ hb3_
       obtain ⟨br, bl, a8, bs, bm, a9, bt, bn, ba, rfl, hs3_, f5, f6, f7⟩ := hb3_
       intro R h7 kf
       have du : Mem (idsOf [(BK c 110 [SL m d.code n, iv d.at_, .int .u64 d.seed])]) w h7 ([(BK u 32 [SN, SN, SN, SN]), (BK t 32 [SL C l.2.2.1 F, SL J l.2.2.2.1 I, SL Q l.2.2.2.2.1 P, SL G l.2.2.2.2.2 H]), Z, U, V, aa, W] ++ ([[]] ++ ([(cg 3)] ++ ([] ++ R)))) := kf
       rw [hs3_] at du
       replace du : Mem (idsOf [(BK c 110 [SL m d.code n, iv d.at_, .int .u64 d.seed])]) w h7 ([(BK u 32 [SN, SN, SN, SN]), (BK t 32 [SL C l.2.2.1 F, SL J l.2.2.2.1 I, SL Q l.2.2.2.2.1 P, SL G l.2.2.2.2.2 H]), Z, U, V, aa, W] ++ ([[]] ++ ([(BK c 110 [SL m d.code n, iv z.2.1, .int .u64 z.2.2]), a8, a9, ba] ++ ([] ++ R)))) := du.permF (by simp)
       exact W_litD (D := deepInterface) [(z.1, plOf [(br, bl), (bs, bm), (bt, bn)])] [z.1] rfl 1 [iv z.1.Mask, SL br z.1.Stack bl, SL bs z.1.Queue.Slots bm, SL bt z.1.Queue.Waiting bn] 87 du (by kernel_rfl) (by kernel_rfl) (by kernel_rfl) (by kernel_rfl) (by kernel_rfl) (ownI_cons (i := ⟨Int, Gx.encI, _, _, _⟩) f5 (ownI_cons (i := ⟨Slot, encSlot, _, _, _⟩) f6 (ownI_cons (i := ⟨Waiter, encWaiter, _, _, _⟩) f7 ownI_nil))) fun bx bv bh p6 f8 kg => WN (oE (SL bx [z.1] bv) (bh ++ ((BK c 110 [SL m d.code n, iv z.2.1, .int .u64 z.2.2]) ++ (a8 ++ (a9 ++ (ba ++ []))))) ⟨bx, bv, bh, (a8 ++ (a9 ++ (ba ++ []))), rfl, rfl, f8⟩ (Mem.midJ (A := [(BK c 110 [SL m d.code n, iv z.2.1, .int .u64 z.2.2]), a8, a9, ba]) kg))
      rintro cg dm v1_ ⟨rfl, _⟩ v4_ hb4_
      obtain ⟨bx, bv, bh, bu, rfl, hs4_, f8⟩ := hb4_
      intro h8 kh
      have dk : Mem (idsOf [(BK c 110 [SL m d.code n, iv d.at_, .int .u64 d.seed])]) w h8 [(BK u 32 [SN, SN, SN, SN]), (BK t 32 [SL C l.2.2.1 F, SL J l.2.2.2.1 I, SL Q l.2.2.2.2.1 P, SL G l.2.2.2.2.2 H]), Z, U, V, aa, W, bh, (BK c 110 [SL m d.code n, iv z.2.1, .int .u64 z.2.2]), bu] := kh.permF (by simp [hs4_, SL])
      refine GD hm fun fm k4 hm => ?_
      obtain ⟨oz, ng, m9, k6⟩ := id f8
      refine W_appendD (D := deepInterface) (us := oz) (s2 := bu) _ _ _ 80 [iv 0, SN, SN, SN] 5 bv dk b5 (by kernel_rfl) (by kernel_rfl) (by kernel_rfl) rfl (by kernel_rfl) (by kernel_rfl) (by kernel_rfl) (by kernel_rfl) (by kernel_rfl) (by kernel_rfl) (m9.r dk 7) ng k6 k4 ?_
      intro er d8 gh gq mo ki
      have kj : Mem (idsOf [(BK c 110 [SL m d.code n, iv d.at_, .int .u64 d.seed])]) w gq [(BK u 32 [SN, SN, SN, SN]), (BK t 32 [SL C l.2.2.1 F, SL J l.2.2.2.1 I, SL Q l.2.2.2.2.1 P, SL G l.2.2.2.2.2 H]), Z, U, V, gh, bh, (BK c 110 [SL m d.code n, iv z.2.1, .int .u64 z.2.2]), W, bu] := ki.pk [0, 1, 2, 3, 4, 5, 7, 8, 6, 9]
      have kk : Mem (idsOf [(BK c 110 [SL m d.code n, iv d.at_, .int .u64 d.seed])]) w gq [(BK u 32 [SN, SN, SN, SN]), (BK t 32 [SL C l.2.2.1 F, SL J l.2.2.2.1 I, SL Q l.2.2.2.2.1 P, SL G l.2.2.2.2.2 H]), Z, U, V, gh, bh, (BK c 110 [SL m d.code n, iv z.2.1, .int .u64 z.2.2]), (W ++ bu)] := kj.regroup (by simp)
      refine MW 1 (wS false 1 3 (SL er fm d8) 1 [SL C l.2.2.1 F, SL J l.2.2.2.1 I, SL Q l.2.2.2.2.1 P, SL er fm d8] kk rfl fun p7 kl => WN ?_)
      obtain rfl := HS hm
      exact NM fun a ha => ⟨er, d8, gh, (W ++ bu), mo, kl.pk [0, 1, 2, 3, 4, 7, 5, 8], ha.s⟩
     refine gF fx (GK ?_)
     obtain rfl := HS hm
     exact NM fun a ha => ⟨G, H, aa, W, b5, cv.pk [0, 1, 2, 3, 4, 7, 5, 6], ha.s⟩
    intro o8 p8 ⟨ep, d7, fe, ff, mn, km, ky⟩
    refine N_use ky ?_
    have hm := lc
    obtain rfl := HS hm
    exact NM fun a ha => ⟨ep, d7, fe, ff, aa, W, mn, b5, km.pk [0, 1, 2, 3, 4, 5, 6, 7], ha.s⟩
   intro o9 p9 ⟨eo, d6, fc, fd, gf, gg, mj, mk, kn, kz⟩
   refine N_use kz ?_
   have hm := lb
   obtain rfl := HS hm
   exact NM fun a ha => ⟨Q, P, V, eo, d6, fc, fd, gf, gg, f1, mj, mk, kn.pk [0, 1, 2, 3, 5, 4, 6, 7], ha.s⟩
  intro pa qa ⟨el, d3, e9, em, d4, fa, fb, gd, ge, md, me, mf, ko, k0⟩
  refine N_use k0 ?_
  have hm := la
  obtain rfl := HS hm
  exact NM fun a ha => ⟨el, d3, e9, em, d4, fa, fb, Z, gd, ge, md, me, f0, mf, ko.pk [0, 1, 3, 4, 5, 6, 7, 2], ha.s⟩
 intro pb ou ⟨bp, bj, e5, bq, bk, e6, e7, e8, hq, hr, l8, l9, ma, pg, g0, k1⟩
 refine N_use k1 ?_
 have hm := k9
 refine BN (NF (wV (.agg #[SL C L.2.2.2.2.1 F, SL J l.2.2.2.1 I, SL bp L.2.2.1 bj, SL bq L.2.2.2.1 bk]) ou (eL true 4 0 (g0.blk 1 rfl)) (wS true 4 0 (.agg #[SL C L.2.2.2.2.1 F, SL J l.2.2.2.1 I, SL bp L.2.2.1 bj, SL bq L.2.2.2.1 bk]) 0 [SL C L.2.2.2.2.1 F, SL J l.2.2.2.1 I, SL bp L.2.2.1 bj, SL bq L.2.2.2.1 bk] g0 rfl fun qb g1 => NC ?_)))
 obtain rfl := HS hm
 exact N_ret [.agg #[SL C L.2.2.2.2.1 F, SL J l.2.2.2.1 I, SL bp L.2.2.1 bj, SL bq L.2.2.2.1 bk]] (RX true 4 0 (g1.blk 0 rfl) RVs_nil) (⟨C, F, e8, J, I, U, bp, bj, e5, bq, bk, e6, e7, rfl, ma, ls, l8, l9, g1.pk [3, 7, 2, 4, 5, 6]⟩)
theorem c_s_DrawStepMachine (w : World) (A : List Int) (C B) (I : rdS Gx.encU8 w A C B) {r : Machine × MachStep} (hm : M.s_DrawStepMachine A = some r) :
  Calls Tryz.prog 40 #[SL C A B] w fun e w' => ∃ ae Z ai af aa aj ag ab ak ah ac al am, e = .returned (.tuple #[.agg #[SL ae r.1.Routes Z, SL af r.1.Enabled aa, SL ag r.1.Raised ab, SL ah r.1.Cpus ac], .agg #[iv r.2.Kind, iv r.2.Irq, iv r.2.Cpu, iv r.2.Value]]) ∧ ownS encRoute r.1.Routes ae Z ai ∧ ownS Gx.encB r.1.Enabled af aa aj ∧ ownS Gx.encB r.1.Raised ag ab ak ∧ ownD deepInterface r.1.Cpus ah ac al am ∧ Mem [] w w' [ai, aj, ak, al, am] := by
 unfold M.s_DrawStepMachine at hm
 refine cE Tryz.func40 ?_
 have M0 := Mem.refl [] w
 refine QA (wN (CE 32 [SN, SN, SN, SN]) M0 fun D bb ap => wN (CE 51 [iv 0, iv 0, iv 0, iv 0]) ap fun E a4 aq => NA (MW 2 (wN (CE 110 [SL C A B, iv 0, .int .u64 0]) aq fun y V F => MW 1 (NA (MW 1 (GD hm fun a a0 hm => WC ((c_s_l1Cur_machine V (⟨A, 0, 0⟩ : l1Cur) C B (I.mem0 F) y (F.hasPick [2]) (F.nodupPick [2] (by kernel_rfl)) (apartX.old0 I F [2]) a0).mono ?_)))))))
 rintro e_ bc ⟨q, d, P, t, l, Q, u, m, S, x, n, T, U, rfl, L, N, O, ad, an⟩
 have ar := F.callF' [2] [0, 1] (by kernel_rfl) an
 refine ⟨_, rfl, ?_⟩
 refine wN (CE 32 [SN, SN, SN, SN]) ar fun K bd au => wS true 4 0 (.agg #[SL q a.1.Routes d, SL t a.1.Enabled l, SL u a.1.Raised m, SL x a.1.Cpus n]) 8 [SL q a.1.Routes d, SL t a.1.Enabled l, SL u a.1.Raised m, SL x a.1.Cpus n] au rfl fun a5 av => NE (GD hm fun c a3 hm => ?_)
 have aw : Mem [] w a5 ([(BK D 32 [SN, SN, SN, SN]), (BK E 51 [iv 0, iv 0, iv 0, iv 0]), P, Q, S, T, U, (BK K 32 [SL q a.1.Routes d, SL t a.1.Enabled l, SL u a.1.Raised m, SL x a.1.Cpus n])] ++ (List.range 4).map (fun i => ([[], [], [], (BK y 110 [SL C A B, iv a.2.1, .int .u64 a.2.2])] : List Seg).getD i [])) := av.pk [0, 1, 3, 4, 5, 6, 7, 8, 300000, 300001, 300002, 2]
 refine GU [(2, pB D 0), (3, pB E 0), (4, pB y 0), (5, pB K 0), (9, pB y 0), (10, .agg #[SL q a.1.Routes d, SL t a.1.Enabled l, SL u a.1.Raised m, SL x a.1.Cpus n])] (DL 4 [[],[],[],[1,2]] (EM 4) (EM 4) (EM 4) (EM 4) (EM 4) (fun i => ([[], [], [], (BK y 110 [SL C A B, iv a.2.1, .int .u64 a.2.2])] : List Seg).getD i []) [QV (.agg #[SL q a.1.Routes d, SL t a.1.Enabled l, SL u a.1.Raised m, SL x a.1.Cpus n]), QV (pB y 0), QV (.agg #[SL q a.1.Routes d, SL t a.1.Enabled l, SL u a.1.Raised m, SL x a.1.Cpus n]), fun f v s => v = (.agg #[iv c.1.Kind, iv c.1.Irq, iv c.1.Cpu, iv c.1.Value] : Value) ∧ s = (BK y 110 [SL C A B, iv c.2.1, .int .u64 c.2.2])] [] [0, 3] [3] aw (AC ?_ (AC ?_ (AC ?_ (AC ?_ AN)))) ?_)
 ·intro G H R a6 W
  exact OV ⟨rfl, rfl⟩ (eL true 4 0 (W.blk 7 rfl)) W
 ·intro G H R a7 ax
  exact OM ⟨rfl, rfl⟩ ax
 ·intro G H R a8 X
  exact OV ⟨rfl, rfl⟩ (eL true 4 0 (X.blk 7 rfl)) X
 ·rintro G H v1_ ⟨rfl, _⟩
  rintro v2_ ⟨rfl, _⟩ R a9 z
  refine WC ((c_s_l1Cur_machStep a9 (⟨A, a.2.1, a.2.2⟩ : l1Cur) C B (I.mem0 z) y a.1 q d (L.r z 2) t l (N.r z 3) u m (O.r z 4) x n (z.hasPick [8]) (z.nodupPick [8] (by kernel_rfl)) (apartX.old0 I z [8]) (apartX.own L z 2 (by kernel_rfl) [8] (by kernel_rfl)) (apartX.own N z 3 (by kernel_rfl) [8] (by kernel_rfl)) (apartX.own O z 4 (by kernel_rfl) [8] (by kernel_rfl)) (ad.rdX z 5 (by kernel_rfl) 6 (by kernel_rfl) [8] (by kernel_rfl) (by kernel_rfl)) a3).mono ?_)
  rintro e_ be ⟨rfl, ao⟩
  refine ⟨_, rfl, ?_⟩
  exact WN (oE (.agg #[iv c.1.Kind, iv c.1.Irq, iv c.1.Cpu, iv c.1.Value]) (BK y 110 [SL C A B, iv c.2.1, .int .u64 c.2.2]) ⟨rfl, rfl⟩ (Mem.callMidF z ao))
 rintro G H v0_ ⟨rfl, _⟩ v3_ hb3_
 obtain ⟨rfl, hs3_⟩ := hb3_
 intro ba ay
 have Y : Mem [] w ba [(BK D 32 [SN, SN, SN, SN]), (BK E 51 [iv 0, iv 0, iv 0, iv 0]), P, Q, S, T, U, (BK K 32 [SL q a.1.Routes d, SL t a.1.Enabled l, SL u a.1.Raised m, SL x a.1.Cpus n]), (G 3)] := ay
 rw [hs3_] at Y
 refine wS true 4 0 (.agg #[SL q a.1.Routes d, SL t a.1.Enabled l, SL u a.1.Raised m, SL x a.1.Cpus n]) 0 [SL q a.1.Routes d, SL t a.1.Enabled l, SL u a.1.Raised m, SL x a.1.Cpus n] Y rfl fun bf az => wS true 4 0 (.agg #[iv c.1.Kind, iv c.1.Irq, iv c.1.Cpu, iv c.1.Value]) 1 [iv c.1.Kind, iv c.1.Irq, iv c.1.Cpu, iv c.1.Value] az rfl fun bg J => NC ?_
 obtain rfl := HS hm
 exact N_ret [.agg #[SL q a.1.Routes d, SL t a.1.Enabled l, SL u a.1.Raised m, SL x a.1.Cpus n], .agg #[iv c.1.Kind, iv c.1.Irq, iv c.1.Cpu, iv c.1.Value]] (RX true 4 0 (J.blk 0 rfl) (RX true 4 0 (J.blk 1 rfl) RVs_nil)) (⟨q, d, P, t, l, Q, u, m, S, x, n, T, U, rfl, L, N, O, ad, J.pk [2, 3, 4, 5, 6]⟩)
theorem c_l_vRoutes (w : World) (c : List Route) (f h) (t : rdS encRoute w c f h) (d : List Route) (g i) (u : rdS encRoute w d g i) {r : Bool} (hm : M.l_vRoutes c d = some r) :
  Calls Tryz.prog 94 #[SL f c h, SL g d i] w fun e w' => e = .returned (.bool r) ∧ Mem [] w w' [] := by
 unfold M.l_vRoutes at hm
 refine cE Tryz.func94 ?_
 have M0 := Mem.refl [] w
 refine QA (MW 1 (NB (MW 5 (NO (GT hm (fun l hm => ?_) fun l hm => ?_)))))
 ·refine QA (MW 1 (ND ?_))
  obtain rfl := HS hm
  exact RA [.bool false] (⟨rfl, M0.pk []⟩)
 refine KB (MW 1 (NO (GD hm fun G F v => G_meet (fun a w' => ∃ (A : Unit), G = .inl A ∧ Mem [] w w' [] ∧ Sat Tryz.f94.ntmps [] a) ?_ ?_)))
 ·refine GB (G_while (σ := Int) (ρ := (Unit) ⊕ (Bool)) (fun b a w' => Mem [] w w' [] ∧ Sat Tryz.f94.ntmps [(0, SL f c h), (1, SL g d i), (5, iv b)] a) F (fun a ha => ⟨M0.pk [], ha.s⟩) ?_)
  clear hm
  intro b L hm x J H ⟨o, D⟩
  refine G_use D (QB (MW 4 (NO (GT hm (fun m hm => ?_) fun m hm => ?_))))
  ·refine GK (TN (GS (GB (GS (G_quiet (by kernel_rfl) (by kernel_rfl) o (MZ 2 (GD hm fun j y hm => zV (elemP f (b.toNat * 2)) (fun w_ M_ => (eI (t.mem0 M_) rfl y)) (zV (.agg #[iv j.Priority, iv j.Target]) (fun w_ M_ => (eE true 2 0 (b.toNat * 2) (t.mem0 M_) y)) (MS 2 [(0, SL f c h), (1, SL g d i), (5, iv b), (20, .agg #[iv j.Priority, iv j.Target]), (21, SL g d i), (22, iv b)] (GD hm fun k z hm => zV (elemP g (b.toNat * 2)) (fun w_ M_ => (eI (u.mem0 M_) rfl z)) (zV (.agg #[iv k.Priority, iv k.Target]) (fun w_ M_ => (eE true 2 0 (b.toNat * 2) (u.mem0 M_) z)) (zV (.bool (!((j.Priority == k.Priority) && ((j.Target == k.Target) && true)))) (fun w_ M_ => (E_neqAgg _ _ _ _ [iv j.Priority, iv j.Target] [iv k.Priority, iv k.Target] ((j.Priority == k.Priority) && ((j.Target == k.Target) && true)) rfl (by kernel_rfl) (by kernel_rfl) (by kernel_rfl) (by kernel_rfl) (by kernel_rfl) (by kernel_rfl))) (Z_end fun B q => (TN (GT hm (fun n hm => ?_) fun n hm => ?_)))))))))))))))
   ·refine QA (MW 1 (NX ?_))
    obtain rfl := HS hm
    obtain rfl := x _ rfl
    have hm := v; simp only [Sum.elim_inr] at hm
    refine BR (N_meet_ret (TR ?_))
    obtain rfl := HS hm
    exact RA [.bool false] (⟨rfl, q.pk []⟩)
   refine KC (MW 3 (WN ?_))
   cases hm
   exact N_loop fun a ha => ⟨_, rfl, q.pk [], ha.s⟩
  refine XA ?_
  obtain rfl := HS hm
  obtain rfl := x _ rfl
  exact NM fun a ha => ⟨_, rfl, o.pk [], ha.s⟩
 intro K I ⟨A, hout_, C, E⟩
 refine N_use E ?_
 subst hout_
 have hm := v; simp only [Sum.elim_inl] at hm
 refine NF (MW 1 (NC ?_))
 obtain rfl := HS hm
 exact RA [.bool true] (⟨rfl, C.pk []⟩)
theorem c_l_vBools (w : World) (c : List Bool) (f h) (t : rdS Gx.encB w c f h) (d : List Bool) (g i) (u : rdS Gx.encB w d g i) {r : Bool} (hm : M.l_vBools c d = some r) :
  Calls Tryz.prog 95 #[SL f c h, SL g d i] w fun e w' => e = .returned (.bool r) ∧ Mem [] w w' [] := by
 unfold M.l_vBools at hm
 refine cE Tryz.func95 ?_
 have M0 := Mem.refl [] w
 refine QA (MW 1 (NB (MW 5 (NO (GT hm (fun k hm => ?_) fun k hm => ?_)))))
 ·refine QA (MW 1 (ND ?_))
  obtain rfl := HS hm
  exact RA [.bool false] (⟨rfl, M0.pk []⟩)
 refine KB (MW 1 (NO (GD hm fun G F v => G_meet (fun a w' => ∃ (A : Unit), G = .inl A ∧ Mem [] w w' [] ∧ Sat Tryz.f95.ntmps [] a) ?_ ?_)))
 ·refine GB (G_while (σ := Int) (ρ := (Unit) ⊕ (Bool)) (fun b a w' => Mem [] w w' [] ∧ Sat Tryz.f95.ntmps [(0, SL f c h), (1, SL g d i), (5, iv b)] a) F (fun a ha => ⟨M0.pk [], ha.s⟩) ?_)
  clear hm
  intro b L hm x J H ⟨o, D⟩
  refine G_use D (QB (MW 4 (NO (GT hm (fun l hm => ?_) fun l hm => ?_))))
  ·refine GK (TN (GS (GB (GS (G_quiet (by kernel_rfl) (by kernel_rfl) o (MZ 2 (GD hm fun j y hm => zV (elemP f (b.toNat * 1)) (fun w_ M_ => (eI (t.mem0 M_) rfl y)) (zV (.bool j) (fun w_ M_ => (eE false 1 0 (b.toNat * 1) (t.mem0 M_) y)) (MZ 2 (GD hm fun n z hm => zV (elemP g (b.toNat * 1)) (fun w_ M_ => (eI (u.mem0 M_) rfl z)) (zV (.bool n) (fun w_ M_ => (eE false 1 0 (b.toNat * 1) (u.mem0 M_) z)) (MS 1 [(0, SL f c h), (1, SL g d i), (5, iv b), (25, .bool (!(j == n)))] (Z_end fun B q => (TN (GT hm (fun m hm => ?_) fun m hm => ?_)))))))))))))))
   ·refine QA (MW 1 (NX ?_))
    obtain rfl := HS hm
    obtain rfl := x _ rfl
    have hm := v; simp only [Sum.elim_inr] at hm
    refine BR (N_meet_ret (TR ?_))
    obtain rfl := HS hm
    exact RA [.bool false] (⟨rfl, q.pk []⟩)
   refine KC (MW 3 (WN ?_))
   cases hm
   exact N_loop fun a ha => ⟨_, rfl, q.pk [], ha.s⟩
  refine XA ?_
  obtain rfl := HS hm
  obtain rfl := x _ rfl
  exact NM fun a ha => ⟨_, rfl, o.pk [], ha.s⟩
 intro K I ⟨A, hout_, C, E⟩
 refine N_use E ?_
 subst hout_
 have hm := v; simp only [Sum.elim_inl] at hm
 refine NF (MW 1 (NC ?_))
 obtain rfl := HS hm
 exact RA [.bool true] (⟨rfl, C.pk []⟩)
theorem c_l_vInts (w : World) (c : List Int) (f h) (t : rdS Gx.encI w c f h) (d : List Int) (g i) (u : rdS Gx.encI w d g i) {r : Bool} (hm : M.l_vInts c d = some r) :
  Calls Tryz.prog 42 #[SL f c h, SL g d i] w fun e w' => e = .returned (.bool r) ∧ Mem [] w w' [] := by
 unfold M.l_vInts at hm
 refine cE Tryz.func42 ?_
 have M0 := Mem.refl [] w
 refine QA (MW 1 (NB (MW 5 (NO (GT hm (fun k hm => ?_) fun k hm => ?_)))))
 ·refine QA (MW 1 (ND ?_))
  obtain rfl := HS hm
  exact RA [.bool false] (⟨rfl, M0.pk []⟩)
 refine KB (MW 1 (NO (GD hm fun G F v => G_meet (fun a w' => ∃ (A : Unit), G = .inl A ∧ Mem [] w w' [] ∧ Sat Tryz.f42.ntmps [] a) ?_ ?_)))
 ·refine GB (G_while (σ := Int) (ρ := (Unit) ⊕ (Bool)) (fun b a w' => Mem [] w w' [] ∧ Sat Tryz.f42.ntmps [(0, SL f c h), (1, SL g d i), (5, iv b)] a) F (fun a ha => ⟨M0.pk [], ha.s⟩) ?_)
  clear hm
  intro b L hm x J H ⟨o, D⟩
  refine G_use D (QB (MW 4 (NO (GT hm (fun l hm => ?_) fun l hm => ?_))))
  ·refine GK (TN (GS (GB (GS (G_quiet (by kernel_rfl) (by kernel_rfl) o (MZ 2 (GD hm fun j y hm => zV (elemP f (b.toNat * 1)) (fun w_ M_ => (eI (t.mem0 M_) rfl y)) (zV (iv j) (fun w_ M_ => (eE false 1 0 (b.toNat * 1) (t.mem0 M_) y)) (MZ 2 (GD hm fun n z hm => zV (elemP g (b.toNat * 1)) (fun w_ M_ => (eI (u.mem0 M_) rfl z)) (zV (iv n) (fun w_ M_ => (eE false 1 0 (b.toNat * 1) (u.mem0 M_) z)) (MS 1 [(0, SL f c h), (1, SL g d i), (5, iv b), (25, .bool (j != n))] (Z_end fun B q => (TN (GT hm (fun m hm => ?_) fun m hm => ?_)))))))))))))))
   ·refine QA (MW 1 (NX ?_))
    obtain rfl := HS hm
    obtain rfl := x _ rfl
    have hm := v; simp only [Sum.elim_inr] at hm
    refine BR (N_meet_ret (TR ?_))
    obtain rfl := HS hm
    exact RA [.bool false] (⟨rfl, q.pk []⟩)
   refine KC (MW 3 (WN ?_))
   cases hm
   exact N_loop fun a ha => ⟨_, rfl, q.pk [], ha.s⟩
  refine XA ?_
  obtain rfl := HS hm
  obtain rfl := x _ rfl
  exact NM fun a ha => ⟨_, rfl, o.pk [], ha.s⟩
 intro K I ⟨A, hout_, C, E⟩
 refine N_use E ?_
 subst hout_
 have hm := v; simp only [Sum.elim_inl] at hm
 refine NF (MW 1 (NC ?_))
 obtain rfl := HS hm
 exact RA [.bool true] (⟨rfl, C.pk []⟩)
end Go.Proofs.YtllhajkgkghhdaaGreat
set_option linter.unusedVariables false
set_option linter.unusedSimpArgs false
set_option maxRecDepth 100000
set_option maxHeartbeats 4000000
namespace Go.Proofs.YtllhajkgkghhdaaGreat
open Go.Gx
theorem c_l_vSlots (w : World) (c : List Slot) (g i) (t : rdS encSlot w c g i) (f : List Slot) (h j) (u : rdS encSlot w f h j) {r : Bool} (hm : M.l_vSlots c f = some r) :
  Calls Tryz.prog 185 #[SL g c i, SL h f j] w fun e w' => e = .returned (.bool r) ∧ Mem [] w w' [] := by
 unfold M.l_vSlots at hm
 refine cE Tryz.func185 ?_
 have M0 := Mem.refl [] w
 refine QA (MW 1 (NB (MW 5 (NO (GT hm (fun l hm => ?_) fun l hm => ?_)))))
 ·refine QA (MW 1 (ND ?_))
  obtain rfl := HS hm
  exact RA [.bool false] (⟨rfl, M0.pk []⟩)
 refine KB (MW 1 (NO (GD hm fun G F v => G_meet (fun a w' => ∃ (A : Unit), G = .inl A ∧ Mem [] w w' [] ∧ Sat Tryz.f185.ntmps [] a) ?_ ?_)))
 ·refine GB (G_while (σ := Int) (ρ := (Unit) ⊕ (Bool)) (fun b a w' => Mem [] w w' [] ∧ Sat Tryz.f185.ntmps [(0, SL g c i), (1, SL h f j), (5, iv b)] a) F (fun a ha => ⟨M0.pk [], ha.s⟩) ?_)
  clear hm
  intro b L hm x J H ⟨o, D⟩
  refine G_use D (QB (MW 4 (NO (GT hm (fun m hm => ?_) fun m hm => ?_))))
  ·refine GK (TN (GS (GB (GS (G_quiet (by kernel_rfl) (by kernel_rfl) o (MZ 2 (GD hm fun d y hm => zV (elemP g (b.toNat * 3)) (fun w_ M_ => (eI (t.mem0 M_) rfl y)) (zV (.agg #[iv d.State, iv d.Irq, iv d.Priority]) (fun w_ M_ => (eE true 3 0 (b.toNat * 3) (t.mem0 M_) y)) (MS 2 [(0, SL g c i), (1, SL h f j), (5, iv b), (20, .agg #[iv d.State, iv d.Irq, iv d.Priority]), (21, SL h f j), (22, iv b)] (GD hm fun k z hm => zV (elemP h (b.toNat * 3)) (fun w_ M_ => (eI (u.mem0 M_) rfl z)) (zV (.agg #[iv k.State, iv k.Irq, iv k.Priority]) (fun w_ M_ => (eE true 3 0 (b.toNat * 3) (u.mem0 M_) z)) (zV (.bool (!((d.State == k.State) && ((d.Irq == k.Irq) && ((d.Priority == k.Priority) && true))))) (fun w_ M_ => (E_neqAgg _ _ _ _ [iv d.State, iv d.Irq, iv d.Priority] [iv k.State, iv k.Irq, iv k.Priority] ((d.State == k.State) && ((d.Irq == k.Irq) && ((d.Priority == k.Priority) && true))) rfl (by kernel_rfl) (by kernel_rfl) (by kernel_rfl) (by kernel_rfl) (by kernel_rfl) (by kernel_rfl))) (Z_end fun B q => (TN (GT hm (fun n hm => ?_) fun n hm => ?_)))))))))))))))
   ·refine QA (MW 1 (NX ?_))
    obtain rfl := HS hm
    obtain rfl := x _ rfl
    have hm := v; simp only [Sum.elim_inr] at hm
    refine BR (N_meet_ret (TR ?_))
    obtain rfl := HS hm
    exact RA [.bool false] (⟨rfl, q.pk []⟩)
   refine KC (MW 3 (WN ?_))
   cases hm
   exact N_loop fun a ha => ⟨_, rfl, q.pk [], ha.s⟩
  refine XA ?_
  obtain rfl := HS hm
  obtain rfl := x _ rfl
  exact NM fun a ha => ⟨_, rfl, o.pk [], ha.s⟩
 intro K I ⟨A, hout_, C, E⟩
 refine N_use E ?_
 subst hout_
 have hm := v; simp only [Sum.elim_inl] at hm
 refine NF (MW 1 (NC ?_))
 obtain rfl := HS hm
 exact RA [.bool true] (⟨rfl, C.pk []⟩)
theorem c_l_vWaiters (w : World) (c : List Waiter) (f h) (t : rdS encWaiter w c f h) (d : List Waiter) (g i) (u : rdS encWaiter w d g i) {r : Bool} (hm : M.l_vWaiters c d = some r) :
  Calls Tryz.prog 186 #[SL f c h, SL g d i] w fun e w' => e = .returned (.bool r) ∧ Mem [] w w' [] := by
 unfold M.l_vWaiters at hm
 refine cE Tryz.func186 ?_
 have M0 := Mem.refl [] w
 refine QA (MW 1 (NB (MW 5 (NO (GT hm (fun l hm => ?_) fun l hm => ?_)))))
 ·refine QA (MW 1 (ND ?_))
  obtain rfl := HS hm
  exact RA [.bool false] (⟨rfl, M0.pk []⟩)
 refine KB (MW 1 (NO (GD hm fun G F v => G_meet (fun a w' => ∃ (A : Unit), G = .inl A ∧ Mem [] w w' [] ∧ Sat Tryz.f186.ntmps [] a) ?_ ?_)))
 ·refine GB (G_while (σ := Int) (ρ := (Unit) ⊕ (Bool)) (fun b a w' => Mem [] w w' [] ∧ Sat Tryz.f186.ntmps [(0, SL f c h), (1, SL g d i), (5, iv b)] a) F (fun a ha => ⟨M0.pk [], ha.s⟩) ?_)
  clear hm
  intro b L hm x J H ⟨o, D⟩
  refine G_use D (QB (MW 4 (NO (GT hm (fun m hm => ?_) fun m hm => ?_))))
  ·refine GK (TN (GS (GB (GS (G_quiet (by kernel_rfl) (by kernel_rfl) o (MZ 2 (GD hm fun j y hm => zV (elemP f (b.toNat * 2)) (fun w_ M_ => (eI (t.mem0 M_) rfl y)) (zV (.agg #[iv j.Irq, iv j.Priority]) (fun w_ M_ => (eE true 2 0 (b.toNat * 2) (t.mem0 M_) y)) (MS 2 [(0, SL f c h), (1, SL g d i), (5, iv b), (20, .agg #[iv j.Irq, iv j.Priority]), (21, SL g d i), (22, iv b)] (GD hm fun k z hm => zV (elemP g (b.toNat * 2)) (fun w_ M_ => (eI (u.mem0 M_) rfl z)) (zV (.agg #[iv k.Irq, iv k.Priority]) (fun w_ M_ => (eE true 2 0 (b.toNat * 2) (u.mem0 M_) z)) (zV (.bool (!((j.Irq == k.Irq) && ((j.Priority == k.Priority) && true)))) (fun w_ M_ => (E_neqAgg _ _ _ _ [iv j.Irq, iv j.Priority] [iv k.Irq, iv k.Priority] ((j.Irq == k.Irq) && ((j.Priority == k.Priority) && true)) rfl (by kernel_rfl) (by kernel_rfl) (by kernel_rfl) (by kernel_rfl) (by kernel_rfl) (by kernel_rfl))) (Z_end fun B q => (TN (GT hm (fun n hm => ?_) fun n hm => ?_)))))))))))))))
   ·refine QA (MW 1 (NX ?_))
    obtain rfl := HS hm
    obtain rfl := x _ rfl
    have hm := v; simp only [Sum.elim_inr] at hm
    refine BR (N_meet_ret (TR ?_))
    obtain rfl := HS hm
    exact RA [.bool false] (⟨rfl, q.pk []⟩)
   refine KC (MW 3 (WN ?_))
   cases hm
   exact N_loop fun a ha => ⟨_, rfl, q.pk [], ha.s⟩
  refine XA ?_
  obtain rfl := HS hm
  obtain rfl := x _ rfl
  exact NM fun a ha => ⟨_, rfl, o.pk [], ha.s⟩
 intro K I ⟨A, hout_, C, E⟩
 refine N_use E ?_
 subst hout_
 have hm := v; simp only [Sum.elim_inl] at hm
 refine NF (MW 1 (NC ?_))
 obtain rfl := HS hm
 exact RA [.bool true] (⟨rfl, C.pk []⟩)
theorem c_l_vQueue (w : World) (b : Queue) (h f) (D : rdS encSlot w b.Slots h f) (i g) (E : rdS encWaiter w b.Waiting i g) (c : Queue) (o m) (F : rdS encSlot w c.Slots o m) (q n) (G : rdS encWaiter w c.Waiting q n) {r : Bool} (hm : M.l_vQueue b c = some r) :
  Calls Tryz.prog 149 #[.agg #[SL h b.Slots f, SL i b.Waiting g], .agg #[SL o c.Slots m, SL q c.Waiting n]] w fun e w' => e = .returned (.bool r) ∧ Mem [] w w' [] := by
 unfold M.l_vQueue at hm
 refine cE Tryz.func149 ?_
 have M0 := Mem.refl [] w
 refine QA (wN (CE 85 [SL h b.Slots f, SL i b.Waiting g]) M0 fun l R A => wN (CE 85 [SL o c.Slots m, SL q c.Waiting n]) A fun d t u => MW 1 (NE (GD hm fun x J I => G_meet (fun a w' => Mem [] w w' [] ∧ Sat Tryz.f149.ntmps [(4, .bool x)] a) ?_ ?_)))
 ·have hm := J
  refine GR (MW 1 (wV (SL h b.Slots f) t (eL false 1 0 (u.blk 0 rfl)) (MW 1 (wV (SL o c.Slots m) t (eL false 1 0 (u.blk 1 rfl)) (GD hm fun N K hm => WD (c_l_vSlots t b.Slots h f (D.mem0 u) c.Slots o m (F.mem0 u) K) u fun j k => wR 1 [(2, pB l 0), (3, pB d 0), (10, .bool N)] j ?_)))))
  rcases gx_bif hm with ⟨v, hm⟩ | ⟨v, hm⟩
  ·refine wK 10 true v (MW 1 (wV (SL i b.Waiting g) j (eL false 1 1 (k.blk 0 rfl)) (MW 1 (wV (SL q c.Waiting n) j (eL false 1 1 (k.blk 1 rfl)) (GD hm fun O L hm => WD (c_l_vWaiters j b.Waiting i g (E.mem0 k) c.Waiting q n (G.mem0 k) L) k fun P B => MW 2 (WN ?_))))))
   obtain rfl := HS hm
   exact NM fun a ha => ⟨B.pk [], ha.s⟩
  refine wK 10 false v (MW 7 (WN ?_))
  obtain rfl := HS hm
  exact NM fun a ha => ⟨k.pk [], ha.s⟩
 intro Q S ⟨C, H⟩
 refine N_use H ?_
 have hm := I
 refine TN (G_ret ?_)
 obtain rfl := HS hm
 exact RA [.bool x] (⟨rfl, C.pk []⟩)
theorem c_l_vFace (w : World) (b : Interface) (m j) (I : rdS Gx.encI w b.Stack m j) (n k) (J : rdS encSlot w b.Queue.Slots n k) (o l) (K : rdS encWaiter w b.Queue.Waiting o l) (c : Interface) (x t) (L : rdS Gx.encI w c.Stack x t) (y u) (N : rdS encSlot w c.Queue.Slots y u) (z v) (O : rdS encWaiter w c.Queue.Waiting z v) {r : Bool} (hm : M.l_vFace b c = some r) :
  Calls Tryz.prog 96 #[.agg #[iv b.Mask, SL m b.Stack j, SL n b.Queue.Slots k, SL o b.Queue.Waiting l], .agg #[iv c.Mask, SL x c.Stack t, SL y c.Queue.Slots u, SL z c.Queue.Waiting v]] w fun e w' => e = .returned (.bool r) ∧ Mem [] w w' [] := by
 unfold M.l_vFace at hm
 refine cE Tryz.func96 ?_
 have M0 := Mem.refl [] w
 refine QA (wN (CE 87 [iv b.Mask, SL m b.Stack j, SL n b.Queue.Slots k, SL o b.Queue.Waiting l]) M0 fun g Y F => wN (CE 87 [iv c.Mask, SL x c.Stack t, SL y c.Queue.Slots u, SL z c.Queue.Waiting v]) F fun f d h => MW 1 (NE (GD hm fun C R Q => G_meet (fun a w' => Mem [] w w' [] ∧ Sat Tryz.f96.ntmps [(4, .bool C)] a) ?_ ?_)))
 ·have hm := R
  refine GR (MW 1 (wV (iv b.Mask) d (eL false 1 0 (h.blk 0 rfl)) (MW 1 (wV (iv c.Mask) d (eL false 1 0 (h.blk 1 rfl)) (wR 2 [(2, pB g 0), (3, pB f 0), (10, .bool (b.Mask == c.Mask))] d ?_)))))
  rcases gx_bif hm with ⟨A, hm⟩ | ⟨A, hm⟩
  ·refine wK 10 true A (MW 1 (wV (SL m b.Stack j) d (eL false 1 1 (h.blk 0 rfl)) (MW 1 (wV (SL x c.Stack t) d (eL false 1 1 (h.blk 1 rfl)) (GD hm fun U S hm => WD (c_l_vInts d b.Stack m j (I.mem0 h) c.Stack x t (L.mem0 h) S) h fun q i => wR 2 [(2, pB g 0), (3, pB f 0), (17, .bool U)] q ?_)))))
   rcases gx_bif hm with ⟨B, hm⟩ | ⟨B, hm⟩
   ·refine wK 17 true B (MW 1 (wV (.agg #[SL n b.Queue.Slots k, SL o b.Queue.Waiting l]) q (eL true 2 2 (i.blk 0 rfl)) (MW 1 (wV (.agg #[SL y c.Queue.Slots u, SL z c.Queue.Waiting v]) q (eL true 2 2 (i.blk 1 rfl)) (GD hm fun V T hm => WD (c_l_vQueue q b.Queue n k (J.mem0 i) o l (K.mem0 i) c.Queue y u (N.mem0 i) z v (O.mem0 i) T) i fun W G => MW 2 (WN ?_))))))
    obtain rfl := HS hm
    exact NM fun a ha => ⟨G.pk [], ha.s⟩
   refine wK 17 false B (MW 7 (WN ?_))
   obtain rfl := HS hm
   exact NM fun a ha => ⟨i.pk [], ha.s⟩
  refine wK 10 false A (wR 14 [(4, .bool false)] d (WN ?_))
  obtain rfl := HS hm
  exact NM fun a ha => ⟨h.pk [], ha.s⟩
 intro X Z ⟨H, P⟩
 refine N_use P ?_
 have hm := Q
 refine TN (G_ret ?_)
 obtain rfl := HS hm
 exact RA [.bool C] (⟨rfl, H.pk []⟩)
theorem c_l_vMachine (w : World) (b : Machine) (t m) (ar : rdS encRoute w b.Routes t m) (u n) (au : rdS Gx.encB w b.Enabled u n) (v o) (av : rdS Gx.encB w b.Raised v o) (l q) (aw : rdD deepInterface w b.Cpus l q) (g : Machine) (C y) (ax : rdS encRoute w g.Routes C y) (D z) (ay : rdS Gx.encB w g.Enabled D z) (E A) (az : rdS Gx.encB w g.Raised E A) (x B) (a0 : rdD deepInterface w g.Cpus x B) {r : Bool} (hm : M.l_vMachine b g = some r) :
  Calls Tryz.prog 41 #[.agg #[SL t b.Routes m, SL u b.Enabled n, SL v b.Raised o, SL l b.Cpus q], .agg #[SL C g.Routes y, SL D g.Enabled z, SL E g.Raised A, SL x g.Cpus B]] w fun e w' => e = .returned (.bool r) ∧ Mem [] w w' [] := by
 unfold M.l_vMachine at hm
 refine cE Tryz.func41 ?_
 have M0 := Mem.refl [] w
 refine QA (wN (CE 32 [SL t b.Routes m, SL u b.Enabled n, SL v b.Raised o, SL l b.Cpus q]) M0 fun c bo ap => wN (CE 32 [SL C g.Routes y, SL D g.Enabled z, SL E g.Raised A, SL x g.Cpus B]) ap fun f K L => MW 1 (NE (GS (GD hm fun bf a7 a6 => G_meet (fun a w' => Mem [] w w' [(BK c 32 [SL t b.Routes m, SL u b.Enabled n, SL v b.Raised o, SL l b.Cpus q]), (BK f 32 [SL C g.Routes y, SL D g.Enabled z, SL E g.Raised A, SL x g.Cpus B])] ∧ Sat Tryz.f41.ntmps [(2, pB c 0), (3, pB f 0), (36, .bool bf)] a) ?_ ?_))))
 ·have hm := a7
  refine GR (MW 1 (wV (SL t b.Routes m) K (eL false 1 0 (L.blk 0 rfl)) (MW 1 (wV (SL C g.Routes y) K (eL false 1 0 (L.blk 1 rfl)) (GD hm fun bh a8 hm => WD (c_l_vRoutes K b.Routes t m (ar.mem0 L) g.Routes C y (ax.mem0 L) a8) L fun F I => wR 2 [(2, pB c 0), (3, pB f 0), (12, .bool (!bh))] F ?_)))))
  rcases gx_bif hm with ⟨R, hm⟩ | ⟨R, hm⟩
  ·refine wK 12 true R (wR 24 [(2, pB c 0), (3, pB f 0), (36, .bool true)] F (WN ?_))
   obtain rfl := HS hm
   exact NM fun a ha => ⟨I.pk [0, 1], ha.s⟩
  refine wK 12 false R (MW 1 (wV (SL u b.Enabled n) F (eL false 1 1 (I.blk 0 rfl)) (MW 1 (wV (SL D g.Enabled z) F (eL false 1 1 (I.blk 1 rfl)) (GD hm fun bi a9 hm => WD (c_l_vBools F b.Enabled u n (au.mem0 I) g.Enabled D z (ay.mem0 I) a9) I fun G J => wR 3 [(2, pB c 0), (3, pB f 0), (20, .bool (!bi))] G ?_)))))
  rcases gx_bif hm with ⟨S, hm⟩ | ⟨S, hm⟩
  ·refine wK 20 true S (wR 16 [(2, pB c 0), (3, pB f 0), (36, .bool true)] G (WN ?_))
   obtain rfl := HS hm
   exact NM fun a ha => ⟨J.pk [0, 1], ha.s⟩
  refine wK 20 false S (MW 1 (wV (SL v b.Raised o) G (eL false 1 2 (J.blk 0 rfl)) (MW 1 (wV (SL E g.Raised A) G (eL false 1 2 (J.blk 1 rfl)) (GD hm fun bj ba hm => WD (c_l_vBools G b.Raised v o (av.mem0 J) g.Raised E A (az.mem0 J) ba) J fun H P => wR 3 [(2, pB c 0), (3, pB f 0), (28, .bool (!bj))] H ?_)))))
  rcases gx_bif hm with ⟨T, hm⟩ | ⟨T, hm⟩
  ·refine wK 28 true T (MW 8 (WN ?_))
   obtain rfl := HS hm
   exact NM fun a ha => ⟨P.pk [0, 1], ha.s⟩
  refine wK 28 false T (MW 1 (wV (SL l b.Cpus q) H (eL false 1 3 (P.blk 0 rfl)) (MW 2 (wV (SL x g.Cpus B) H (eL false 1 3 (P.blk 1 rfl)) (MW 3 (WN ?_))))))
  obtain rfl := HS hm
  exact NM fun a ha => ⟨P.pk [0, 1], ha.s⟩
 intro bl ak ⟨ab, a3⟩
 refine N_use a3 ?_
 have hm := a6
 refine TN (GT hm (fun U hm => ?_) fun U hm => ?_)
 ·refine QA (MW 1 (ND ?_))
  obtain rfl := HS hm
  exact RA [.bool false] (⟨rfl, ab.pk []⟩)
 refine KB (wR 1 [(2, pB c 0), (3, pB f 0), (5, iv 0)] ak (NO (GD hm fun bg bc ad => G_meet (fun a w' => ∃ (aj : Unit), bg = .inl aj ∧ Mem [] w w' [] ∧ Sat Tryz.f41.ntmps [] a) ?_ ?_)))
 ·refine GB (G_while (σ := Int) (ρ := (Unit) ⊕ (Bool)) (fun j a w' => Mem [] w w' [(BK c 32 [SL t b.Routes m, SL u b.Enabled n, SL v b.Raised o, SL l b.Cpus q]), (BK f 32 [SL C g.Routes y, SL D g.Enabled z, SL E g.Raised A, SL x g.Cpus B])] ∧ Sat Tryz.f41.ntmps [(2, pB c 0), (3, pB f 0), (5, iv j)] a) bc (fun a ha => ⟨ab.pk [0, 1], ha.s⟩) ?_)
  clear hm
  intro j bp hm ae bm aa ⟨Q, a4⟩
  refine G_use a4 (QB (MW 2 (wV (SL l b.Cpus q) aa (eL false 1 3 (Q.blk 0 rfl)) (MW 2 (NO (GT hm (fun V hm => ?_) fun V hm => ?_))))))
  ·refine GK (TN (GS (GB (GS (G_quiet (by kernel_rfl) (by kernel_rfl) Q (MZ 1 (zV (SL l b.Cpus q) (fun w_ M_ => (eL false 1 3 (M_.blk 0 rfl))) (MZ 1 (GD hm fun i bd hm => ?_)))))))))
   obtain ⟨bq, ah, af, X⟩ := id aw
   obtain ⟨d, N⟩ := gxIdx_fst ah bd
   refine zV (elemP l (j.toNat * 4)) (fun w_ M_ => (eI (af.mem0 M_) (len_fst ah) N)) (zV (.agg #[iv i.Mask, SL ((d 0).1) i.Stack ((d 0).2), SL ((d 1).1) i.Queue.Slots ((d 1).2), SL ((d 2).1) i.Queue.Waiting ((d 2).2)]) (fun w_ M_ => (eE true 4 0 (j.toNat * 4) (af.mem0 M_) N)) (MZ 1 (zV (SL x g.Cpus B) (fun w_ M_ => (eL false 1 3 (M_.blk 1 rfl))) (MZ 1 (GD hm fun k be hm => ?_)))))
   obtain ⟨br, ai, ag, Y⟩ := id a0
   obtain ⟨h, O⟩ := gxIdx_fst ai be
   refine zV (elemP x (j.toNat * 4)) (fun w_ M_ => (eI (ag.mem0 M_) (len_fst ai) O)) (zV (.agg #[iv k.Mask, SL ((h 0).1) k.Stack ((h 0).2), SL ((h 1).1) k.Queue.Slots ((h 1).2), SL ((h 2).1) k.Queue.Waiting ((h 2).2)]) (fun w_ M_ => (eE true 4 0 (j.toNat * 4) (ag.mem0 M_) O)) (GD hm fun Z bb hm => ZC (.bool Z) (fun w_ M_ => c_l_vFace w_ i ((d 0).1) ((d 0).2) ((X.mem0 M_).a_ N 0) ((d 1).1) ((d 1).2) ((X.mem0 M_).a_ N 1) ((d 2).1) ((d 2).2) ((X.mem0 M_).a_ N 2) k ((h 0).1) ((h 0).2) ((Y.mem0 M_).a_ O 0) ((h 1).1) ((h 1).2) ((Y.mem0 M_).a_ O 1) ((h 2).1) ((h 2).2) ((Y.mem0 M_).a_ O 2) bb) (MZ 1 (Z_end fun al ac => (TN (GT hm (fun W hm => ?_) fun W hm => ?_))))))
   ·refine QA (MW 1 (NX ?_))
    obtain rfl := HS hm
    obtain rfl := ae _ rfl
    have hm := ad; simp only [Sum.elim_inr] at hm
    refine BR (N_meet_ret (TR ?_))
    obtain rfl := HS hm
    exact RA [.bool false] (⟨rfl, ac.pk []⟩)
   refine KC (MW 3 (WN ?_))
   cases hm
   exact N_loop fun a ha => ⟨_, rfl, ac.pk [0, 1], ha.s⟩
  refine XA ?_
  obtain rfl := HS hm
  obtain rfl := ae _ rfl
  exact NM fun a ha => ⟨_, rfl, Q.pk [], ha.s⟩
 intro bn bk ⟨aj, hout_, aq, a5⟩
 refine N_use a5 ?_
 subst hout_
 have hm := ad; simp only [Sum.elim_inl] at hm
 refine NF (MW 1 (NC ?_))
 obtain rfl := HS hm
 exact RA [.bool true] (⟨rfl, aq.pk []⟩)
theorem c_s_l1Cur_cpuOf (w : World) (a : l1Cur) (d f) (i : rdS Gx.encU8 w a.code d f) (c : Nat) (b : Machine) (u z) (aa : rdS encRoute w b.Routes u z) (v A) (ab : rdS Gx.encB w b.Enabled v A) (x B) (ac : rdS Gx.encB w b.Raised x B) (n m) (hA : ∀ q ∈ List.flatten [(BK c 110 [SL d a.code f, iv a.at_, .int .u64 a.seed])], w.heap[q.1]? = some q.2) (hN : (idsOf [(BK c 110 [SL d a.code f, iv a.at_, .int .u64 a.seed])]).Nodup) (j : apartX (idsOf [(BK c 110 [SL d a.code f, iv a.at_, .int .u64 a.seed])]) a.code d) (ad : apartX (idsOf [(BK c 110 [SL d a.code f, iv a.at_, .int .u64 a.seed])]) b.Routes u) (ae : apartX (idsOf [(BK c 110 [SL d a.code f, iv a.at_, .int .u64 a.seed])]) b.Enabled v) (af : apartX (idsOf [(BK c 110 [SL d a.code f, iv a.at_, .int .u64 a.seed])]) b.Raised x) (ag : rdX (idsOf [(BK c 110 [SL d a.code f, iv a.at_, .int .u64 a.seed])]) deepInterface w b.Cpus n m) {r : Int × Int × Int} (hm : M.s_l1Cur_cpuOf a b = some r) :
  Calls Tryz.prog 102 #[pB c 0, .agg #[SL u b.Routes z, SL v b.Enabled A, SL x b.Raised B, SL n b.Cpus m]] w fun e w' => e = .returned (iv r.1) ∧ Mem (idsOf [(BK c 110 [SL d a.code f, iv a.at_, .int .u64 a.seed])]) w w' [(BK c 110 [SL d a.code f, iv r.2.1, .int .u64 r.2.2])] := by
 unfold M.s_l1Cur_cpuOf at hm
 refine cE Tryz.func102 ?_
 have M0 := Mem.start' w [(BK c 110 [SL d a.code f, iv a.at_, .int .u64 a.seed])] hA hN
 refine QA (wN (CE 32 [SL u b.Routes z, SL v b.Enabled A, SL x b.Raised B, SL n b.Cpus m]) M0 fun t D k => MW 1 (NB (MW 1 (GD hm fun y S hm => WC ((c_s_l1Cur_one D a d f (i.memX j k) c 20 (k.hasPick [0]) (k.nodupPick [0] (by kernel_rfl)) (apartX.old i j k [0]) S).mono ?_)))))
 rintro e_ h ⟨rfl, L⟩
 have o := k.callF' [0] [1] (by kernel_rfl) L
 refine ⟨_, rfl, ?_⟩
 refine NO (GT hm (fun C hm => ?_) fun C hm => ?_)
 ·refine QA (MW 2 (wV (SL n b.Cpus m) h (eL false 1 3 (o.blk 0 rfl)) (MW 1 (wL (E := Gx.encI) [(-1), (b.Cpus.length : Int)] 2 [iv (-1), iv (b.Cpus.length : Int)] 3 o fun H F ah W G g => GD hm fun I T hm => WC ((c_s_l1Cur_among W (⟨a.code, y.2.1, y.2.2⟩ : l1Cur) d f (i.memX j g) c [(-1), (b.Cpus.length : Int)] H F (G.r g 2) (g.hasPick [1]) (g.nodupPick [1] (by kernel_rfl)) (apartX.old i j g [1]) (apartX.own G g 2 (by kernel_rfl) [1] (by kernel_rfl)) T).mono ?_)))))
  rintro e_ X ⟨rfl, N⟩
  have Q := g.callF' [1] [0, 2] (by kernel_rfl) N
  refine ⟨_, rfl, ?_⟩
  refine MW 1 (ND ?_)
  obtain rfl := HS hm
  exact RA [iv I.1] (⟨rfl, Q.pk [2]⟩)
 refine KA (MW 2 (wV (SL n b.Cpus m) h (eL false 1 3 (o.blk 0 rfl)) (MW 1 (GD hm fun J U hm => WD (c_s_l1Most h 1 (b.Cpus.length : Int) U) o fun Y l => GD hm fun K V hm => WC ((c_s_l1Cur_pick Y (⟨a.code, y.2.1, y.2.2⟩ : l1Cur) d f (i.memX j l) c J (l.hasPick [1]) (l.nodupPick [1] (by kernel_rfl)) (apartX.old i j l [1]) V).mono ?_)))))
 rintro e_ Z ⟨rfl, P⟩
 have R := l.callF' [1] [0] (by kernel_rfl) P
 refine ⟨_, rfl, ?_⟩
 refine MW 1 (NC ?_)
 obtain rfl := HS hm
 exact RA [iv K.1] (⟨rfl, R.pk [1]⟩)
theorem c_s_DrawPendingOn (w : World) (y : List Int) (B A) (H : rdS Gx.encU8 w y B A) {r : Machine × Int} (hm : M.s_DrawPendingOn y = some r) :
  Calls Tryz.prog 49 #[SL B y A] w fun e w' => ∃ ad Y ah ae Z ai af aa aj ag ab ak al, e = .returned (.tuple #[.agg #[SL ad r.1.Routes Y, SL ae r.1.Enabled Z, SL af r.1.Raised aa, SL ag r.1.Cpus ab], iv r.2]) ∧ ownS encRoute r.1.Routes ad Y ah ∧ ownS Gx.encB r.1.Enabled ae Z ai ∧ ownS Gx.encB r.1.Raised af aa aj ∧ ownD deepInterface r.1.Cpus ag ab ak al ∧ Mem [] w w' [ah, ai, aj, ak, al] := by
 unfold M.s_DrawPendingOn at hm
 refine cE Tryz.func49 ?_
 have M0 := Mem.refl [] w
 refine QA (wN (CE 32 [SN, SN, SN, SN]) M0 fun D am ap => MW 1 (NA (MW 2 (wN (CE 110 [SL B y A, iv 0, .int .u64 0]) ap fun x T E => MW 1 (NA (MW 1 (GD hm fun a ay hm => WC ((c_s_l1Cur_machine T (⟨y, 0, 0⟩ : l1Cur) B A (H.mem0 E) x (E.hasPick [1]) (E.nodupPick [1] (by kernel_rfl)) (apartX.old0 H E [1]) ay).mono ?_))))))))
 rintro e_ a9 ⟨n, c, N, q, d, O, t, l, P, u, m, Q, S, rfl, J, K, L, ac, an⟩
 have aq := E.callF' [1] [0] (by kernel_rfl) an
 refine ⟨_, rfl, ?_⟩
 refine wN (CE 32 [SN, SN, SN, SN]) aq fun I ba ar => wS true 4 0 (.agg #[SL n a.1.Routes c, SL q a.1.Enabled d, SL t a.1.Raised l, SL u a.1.Cpus m]) 7 [SL n a.1.Routes c, SL q a.1.Enabled d, SL t a.1.Raised l, SL u a.1.Cpus m] ar rfl fun a0 au => NE (GD hm fun C az hm => ?_)
 have av : Mem [] w a0 ([(BK D 32 [SN, SN, SN, SN]), N, O, P, Q, S, (BK I 32 [SL n a.1.Routes c, SL q a.1.Enabled d, SL t a.1.Raised l, SL u a.1.Cpus m])] ++ (List.range 4).map (fun i => ([[], [], [], (BK x 110 [SL B y A, iv a.2.1, .int .u64 a.2.2])] : List Seg).getD i [])) := au.pk [0, 2, 3, 4, 5, 6, 7, 300000, 300001, 300002, 1]
 refine GU [(2, pB D 0), (4, pB x 0), (5, pB I 0), (9, pB x 0), (10, .agg #[SL n a.1.Routes c, SL q a.1.Enabled d, SL t a.1.Raised l, SL u a.1.Cpus m])] (DL 4 [[],[],[],[1,2]] (EM 4) (EM 4) (EM 4) (EM 4) (EM 4) (fun i => ([[], [], [], (BK x 110 [SL B y A, iv a.2.1, .int .u64 a.2.2])] : List Seg).getD i []) [QV (.agg #[SL n a.1.Routes c, SL q a.1.Enabled d, SL t a.1.Raised l, SL u a.1.Cpus m]), QV (pB x 0), QV (.agg #[SL n a.1.Routes c, SL q a.1.Enabled d, SL t a.1.Raised l, SL u a.1.Cpus m]), fun f v s => v = (iv C.1 : Value) ∧ s = (BK x 110 [SL B y A, iv C.2.1, .int .u64 C.2.2])] [] [0, 3] [3] av (AC ?_ (AC ?_ (AC ?_ (AC ?_ AN)))) ?_)
 ·intro F G R a3 U
  exact OV ⟨rfl, rfl⟩ (eL true 4 0 (U.blk 6 rfl)) U
 ·intro F G R a4 aw
  exact OM ⟨rfl, rfl⟩ aw
 ·intro F G R a5 V
  exact OV ⟨rfl, rfl⟩ (eL true 4 0 (V.blk 6 rfl)) V
 ·rintro F G v1_ ⟨rfl, _⟩
  rintro v2_ ⟨rfl, _⟩ R a6 z
  refine WC ((c_s_l1Cur_cpuOf a6 (⟨y, a.2.1, a.2.2⟩ : l1Cur) B A (H.mem0 z) x a.1 n c (J.r z 1) q d (K.r z 2) t l (L.r z 3) u m (z.hasPick [7]) (z.nodupPick [7] (by kernel_rfl)) (apartX.old0 H z [7]) (apartX.own J z 1 (by kernel_rfl) [7] (by kernel_rfl)) (apartX.own K z 2 (by kernel_rfl) [7] (by kernel_rfl)) (apartX.own L z 3 (by kernel_rfl) [7] (by kernel_rfl)) (ac.rdX z 4 (by kernel_rfl) 5 (by kernel_rfl) [7] (by kernel_rfl) (by kernel_rfl)) az).mono ?_)
  rintro e_ bb ⟨rfl, ao⟩
  refine ⟨_, rfl, ?_⟩
  exact WN (oE (iv C.1) (BK x 110 [SL B y A, iv C.2.1, .int .u64 C.2.2]) ⟨rfl, rfl⟩ (Mem.callMidF z ao))
 rintro F G v0_ ⟨rfl, _⟩ v3_ hb3_
 obtain ⟨rfl, hs3_⟩ := hb3_
 intro a7 ax
 have W : Mem [] w a7 [(BK D 32 [SN, SN, SN, SN]), N, O, P, Q, S, (BK I 32 [SL n a.1.Routes c, SL q a.1.Enabled d, SL t a.1.Raised l, SL u a.1.Cpus m]), (F 3)] := ax
 rw [hs3_] at W
 refine wS true 4 0 (.agg #[SL n a.1.Routes c, SL q a.1.Enabled d, SL t a.1.Raised l, SL u a.1.Cpus m]) 0 [SL n a.1.Routes c, SL q a.1.Enabled d, SL t a.1.Raised l, SL u a.1.Cpus m] W rfl fun a8 X => MW 1 (NC ?_)
 obtain rfl := HS hm
 exact N_ret [.agg #[SL n a.1.Routes c, SL q a.1.Enabled d, SL t a.1.Raised l, SL u a.1.Cpus m], iv C.1] (RX true 4 0 (X.blk 0 rfl) (rC RVs_nil)) (⟨n, c, N, q, d, O, t, l, P, u, m, Q, S, rfl, J, K, L, ac, X.pk [1, 2, 3, 4, 5]⟩)
theorem c_s_DrawDrainCpu (w : World) (n : List Int) (u t) (Q : rdS Gx.encU8 w n u t) {r : Machine × Int} (hm : M.s_DrawDrainCpu n = some r) :
  Calls Tryz.prog 43 #[SL u n t] w fun e w' => ∃ E A I F B J G C K H D L N, e = .returned (.tuple #[.agg #[SL E r.1.Routes A, SL F r.1.Enabled B, SL G r.1.Raised C, SL H r.1.Cpus D], iv r.2]) ∧ ownS encRoute r.1.Routes E A I ∧ ownS Gx.encB r.1.Enabled F B J ∧ ownS Gx.encB r.1.Raised G C K ∧ ownD deepInterface r.1.Cpus H D L N ∧ Mem [] w w' [I, J, K, L, N] := by
 unfold M.s_DrawDrainCpu at hm
 refine cE Tryz.func43 ?_
 have M0 := Mem.refl [] w
 refine QA (wN (CE 32 [SN, SN, SN, SN]) M0 fun q x y => MW 1 (NA (MW 1 (GD hm fun a V hm => WC ((c_s_DrawPendingOn x n u t (Q.mem0 y) V).mono ?_)))))
 rintro e_ ab ⟨i, c, W, j, d, X, l, f, Y, m, h, Z, aa, rfl, R, S, T, U, O⟩
 have P := y.call O
 refine ⟨_, rfl, ?_⟩
 refine MW 2 (wS true 4 0 (.agg #[SL i a.1.Routes c, SL j a.1.Enabled d, SL l a.1.Raised f, SL m a.1.Cpus h]) 0 [SL i a.1.Routes c, SL j a.1.Enabled d, SL l a.1.Raised f, SL m a.1.Cpus h] P rfl fun ac z => MW 1 (NC ?_))
 obtain rfl := HS hm
 exact N_ret [.agg #[SL i a.1.Routes c, SL j a.1.Enabled d, SL l a.1.Raised f, SL m a.1.Cpus h], iv a.2] (RX true 4 0 (z.blk 0 rfl) (rC RVs_nil)) (⟨i, c, W, j, d, X, l, f, Y, m, h, Z, aa, rfl, R, S, T, U, z.pk [1, 2, 3, 4, 5]⟩)
theorem c_s_l1Cur_routes (w : World) (c : l1Cur) (i j) (n : rdS Gx.encU8 w c.code i j) (b : Nat) (k : Int) (hA : ∀ q ∈ List.flatten [(BK b 110 [SL i c.code j, iv c.at_, .int .u64 c.seed])], w.heap[q.1]? = some q.2) (hN : (idsOf [(BK b 110 [SL i c.code j, iv c.at_, .int .u64 c.seed])]).Nodup) (o : apartX (idsOf [(BK b 110 [SL i c.code j, iv c.at_, .int .u64 c.seed])]) c.code i) {r : (List Route) × Int × Int} (hm : M.s_l1Cur_routes c k = some r) :
  Calls Tryz.prog 98 #[pB b 0, iv k] w fun e w' => ∃ al ac ap, e = .returned (SL al r.1 ac) ∧ ownS encRoute r.1 al ac ap ∧ Mem (idsOf [(BK b 110 [SL i c.code j, iv c.at_, .int .u64 c.seed])]) w w' [(BK b 110 [SL i c.code j, iv r.2.1, .int .u64 r.2.2]), ap] := by
 unfold M.s_l1Cur_routes at hm
 refine cE Tryz.func98 ?_
 have M0 := Mem.start' w [(BK b 110 [SL i c.code j, iv c.at_, .int .u64 c.seed])] hA hN
 refine QA (MW 1 (NA (wL (E := encRoute) ([] : List Route) 0 [] 129 M0 fun V Q b3 ar bn a7 => MW 1 (NB (MW 1 (NO (GD hm fun g b2 bm => G_meet (fun a w' => ∃ f d F, ownS encRoute g.1 f d F ∧ Mem (idsOf [(BK b 110 [SL i c.code j, iv c.at_, .int .u64 c.seed])]) w w' [(BK b 110 [SL i c.code j, iv g.2.1, .int .u64 g.2.2]), F] ∧ Sat Tryz.f98.ntmps [(0, pB b 0), (5, SL f g.1 d)] a) ?_ ?_)))))))
 ·refine GB (G_while (σ := List Route × Int × Int × Int) (ρ := List Route × Int × Int) (fun h a w' => ∃ m l O, ownS encRoute h.1 m l O ∧ Mem (idsOf [(BK b 110 [SL i c.code j, iv c.at_, .int .u64 c.seed])]) w w' [(BK b 110 [SL i c.code j, iv h.2.2.1, .int .u64 h.2.2.2]), O] ∧ Sat Tryz.f98.ntmps [(0, pB b 0), (1, iv k), (5, SL m h.1 l), (6, iv h.2.1)] a) b2 (fun a ha => ⟨V, Q, b3, bn, a7.pk [0, 1], ha.s⟩) ?_)
  clear hm
  intro h cq hm bu cd Y ⟨m, l, O, af, z, bf⟩
  refine G_use bf (QB (MW 2 (NO (GT hm (fun S hm => ?_) fun S hm => ?_))))
  ·refine GK (TN (GS (GB (GR (MW 2 (GD hm fun D bv hm => WC ((c_s_l1Cur_pick Y (⟨c.code, h.2.2.1, h.2.2.2⟩ : l1Cur) i j (n.memX o z) b 10 (z.hasPick [0]) (z.nodupPick [0] (by kernel_rfl)) (apartX.old n o z [0]) bv).mono ?_)))))))
   rintro e_ au ⟨rfl, az⟩
   have a8 := z.callF' [0] [1] (by kernel_rfl) az
   refine ⟨_, rfl, ?_⟩
   refine MW 2 (GD hm fun ao bw hm => WD (c_s_l1Most au 1 k bw) a8 fun b6 H => GD hm fun X bx hm => WC ((c_s_l1Cur_pick b6 (⟨c.code, D.2.1, D.2.2⟩ : l1Cur) i j (n.memX o H) b ao (H.hasPick [1]) (H.nodupPick [1] (by kernel_rfl)) (apartX.old n o H [1]) bx).mono ?_))
   rintro e_ b7 ⟨rfl, a3⟩
   have a9 := H.callF' [1] [0] (by kernel_rfl) a3
   refine ⟨_, rfl, ?_⟩
   refine MW 1 (wL (E := encRoute) [(⟨D.1, X.1⟩ : Route)] 1 [iv D.1, iv X.1] 129 a9 fun cj ch ck cn bo Z => GD hm fun ab bj hm => wA 16 [iv 0, iv 0] 0 Z af (bo.r Z 2) bj fun W R b4 av bp ba => MW 1 (NG (MW 3 (WN ?_))))
   cases hm
   exact N_loop fun a ha => ⟨_, rfl, W, R, b4, bp, ba.pk [1, 0], ha.s⟩
  refine XA ?_
  obtain rfl := HS hm
  obtain rfl := bu _ rfl
  exact NM fun a ha => ⟨m, l, O, af, z.pk [0, 1], ha.s⟩
 intro ce aw ⟨f, d, F, B, I, bg⟩
 refine N_use bg ?_
 have hm := bm
 refine TN (QB (MW 1 (GD hm fun J bz hm => WC ((c_s_l1Cur_pick aw (⟨c.code, g.2.1, g.2.2⟩ : l1Cur) i j (n.memX o I) b 32 (I.hasPick [0]) (I.nodupPick [0] (by kernel_rfl)) (apartX.old n o I [0]) bz).mono ?_))))
 rintro e_ G ⟨rfl, a4⟩
 have L := I.callF' [0] [1] (by kernel_rfl) a4
 refine ⟨_, rfl, ?_⟩
 refine NO (GB (QA (wR 2 [(0, pB b 0), (5, SL f g.1 d), (23, iv J.1), (24, .bool (J.1 == 0))] G (NO (GD hm fun x bq bk => G_meet (fun a w' => ∃ C A P aq, ownS encRoute x.1 C A P ∧ ownS encRoute x.2.2.2 f d aq ∧ Mem (idsOf [(BK b 110 [SL i c.code j, iv c.at_, .int .u64 c.seed])]) w w' [(BK b 110 [SL i c.code j, iv x.2.1, .int .u64 x.2.2.1]), P] ∧ Sat Tryz.f98.ntmps [(5, SL C x.1 A)] a) ?_ ?_)))))
 ·have hm := bq
  refine GT hm (fun T hm => ?_) fun T hm => ?_
  ·refine GR (MW 1 (GD hm fun ay ak hm => wV (SL (subP f (0 : Int).toNat d 2) ay (d - (0 : Int).toNat)) G (E_slice (E := encRoute) _ _ _ _ g.1.length 0 7 rfl (by kernel_rfl) (Or.inl ⟨rfl, rfl⟩) (Or.inr ⟨_, rfl, by kernel_rfl⟩) (by kernel_rfl) (B.r L 0) rfl ak) (MW 1 (WN ?_))))
   obtain rfl := HS hm
   exact NM fun a ha => ⟨(subP f (0 : Int).toNat d 2), (d - (0 : Int).toNat), F, F, (B.partM ak), B, L.pk [1, 0], ha.s⟩
  refine QA (MW 2 (NO (GD hm fun N bs bl => G_meet (fun a w' => ∃ K, ownS encRoute N.2.2 f d K ∧ Mem (idsOf [(BK b 110 [SL i c.code j, iv c.at_, .int .u64 c.seed])]) w w' [(BK b 110 [SL i c.code j, iv N.1, .int .u64 N.2.1]), K] ∧ Sat Tryz.f98.ntmps [(5, SL f N.2.2 d)] a) ?_ ?_)))
  ·have hm := bs
   refine GT hm (fun U hm => ?_) fun U hm => ?_
   ·refine GR (MW 2 (wL (E := Gx.encI) [(-1), 15, 16] 3 [iv (-1), iv 15, iv 16] 3 L fun am ad cl b8 ah u => GD hm fun t b0 hm => WC ((c_s_l1Cur_among b8 (⟨c.code, J.2.1, J.2.2⟩ : l1Cur) i j (n.memX o u) b [(-1), 15, 16] am ad (ah.r u 2) (u.hasPick [1]) (u.nodupPick [1] (by kernel_rfl)) (apartX.old n o u [1]) (apartX.own ah u 2 (by kernel_rfl) [1] (by kernel_rfl)) b0).mono ?_)))
    rintro e_ b9 ⟨rfl, a5⟩
    have bb := u.callF' [1] [0, 2] (by kernel_rfl) a5
    refine ⟨_, rfl, ?_⟩
    refine MW 1 (wL (E := Gx.encI) [(-1), 0, 2] 3 [iv (-1), iv 0, iv 2] 3 bb fun an ae cm ca ai v => GD hm fun y b1 hm => WC ((c_s_l1Cur_among ca (⟨c.code, t.2.1, t.2.2⟩ : l1Cur) i j (n.memX o v) b [(-1), 0, 2] an ae (ai.r v 3) (v.hasPick [2]) (v.nodupPick [2] (by kernel_rfl)) (apartX.old n o v [2]) (apartX.own ai v 3 (by kernel_rfl) [2] (by kernel_rfl)) b1).mono ?_))
    rintro e_ ax ⟨rfl, a6⟩
    have aa := v.callF' [2] [0, 1, 3] (by kernel_rfl) a6
    refine ⟨_, rfl, ?_⟩
    refine MW 1 (GD hm fun cc aj hm => wV (elemP f ((0 : Int).toNat * 2)) ax (eI (B.r aa 0) rfl aj) (wE true 2 (0 : Int).toNat 0 ((0 : Int).toNat * 2) cc (⟨t.1, y.1⟩ : Route) (.agg #[iv t.1, iv y.1]) 0 aa B (gxIdx_spec aj).2 fun co b5 bt bc => LX 5 f d g.1 ((0 : Int).toNat) (⟨t.1, y.1⟩ : Route) (LX 30 f d g.1 ((0 : Int).toNat) (⟨t.1, y.1⟩ : Route) (WN ?_))))
    obtain rfl := HS hm
    exact NM fun a ha => ⟨b5, bt, bc.pk [3, 0], ha.s⟩
   refine GK ?_
   obtain rfl := HS hm
   exact NM fun a ha => ⟨F, B, L.pk [1, 0], ha.s⟩
  intro cf cp ⟨K, ag, bd, bh⟩
  refine N_use bh ?_
  have hm := bl
  obtain rfl := HS hm
  exact NM fun a ha => ⟨f, d, K, K, ag, ag, bd.pk [0, 1], ha.s⟩
 intro cg cb ⟨C, A, P, aq, br, ci, be, bi⟩
 refine N_use bi ?_
 have hm := bk
 refine BN (NF (MW 2 (NC ?_)))
 obtain rfl := HS hm
 exact RA [SL C x.1 A] (⟨C, A, P, rfl, br, be.pk [0, 1]⟩)
theorem c_s_DrawNewMachine (w : World) (c : List Int) (g f) (i : rdS Gx.encU8 w c g f) {r : (List Route) × Int} (hm : M.s_DrawNewMachine c = some r) :
  Calls Tryz.prog 44 #[SL g c f] w fun e w' => ∃ q m v, e = .returned (.tuple #[SL q r.1 m, iv r.2]) ∧ ownS encRoute r.1 q m v ∧ Mem [] w w' [v] := by
 unfold M.s_DrawNewMachine at hm
 refine cE Tryz.func44 ?_
 have M0 := Mem.refl [] w
 refine QA (MW 2 (NA (MW 2 (wN (CE 110 [SL g c f, iv 0, .int .u64 0]) M0 fun a x A => MW 1 (NA (MW 1 (wL (E := Gx.encI) [1, 2, 2, 1, 0, 3, 2] 7 [iv 1, iv 2, iv 2, iv 1, iv 0, iv 3, iv 2] 3 A fun t n J H o d => GD hm fun b D hm => WC ((c_s_l1Cur_among H (⟨c, 0, 0⟩ : l1Cur) g f (i.mem0 d) a [1, 2, 2, 1, 0, 3, 2] t n (o.r d 1) (d.hasPick [0]) (d.nodupPick [0] (by kernel_rfl)) (apartX.old0 i d [0]) (apartX.own o d 1 (by kernel_rfl) [0] (by kernel_rfl)) D).mono ?_))))))))
 rintro e_ l ⟨rfl, y⟩
 have h := d.callF' [0] [1] (by kernel_rfl) y
 refine ⟨_, rfl, ?_⟩
 refine MW 1 (NA (MW 2 (GD hm fun u F hm => WC ((c_s_l1Cur_routes l (⟨c, b.2.1, b.2.2⟩ : l1Cur) g f (i.mem0 h) a b.1 (h.hasPick [1]) (h.nodupPick [1] (by kernel_rfl)) (apartX.old0 i h [1]) F).mono ?_))))
 rintro e_ I ⟨k, j, G, rfl, C, z⟩
 have B := h.callF' [1] [0] (by kernel_rfl) z
 refine ⟨_, rfl, ?_⟩
 refine MW 3 (NC ?_)
 cases hm
 exact RA [SL k u.1 j, iv b.1] (⟨k, j, G, rfl, C, B.pk [2]⟩)
theorem c_i_NewMachine (w : World) (S : List Route) (U T) (bn : rdS encRoute w S U T) (L : Int) {r : Machine × Bool} (hm : M.i_NewMachine S L = some r) :
  Calls Tryz.prog 45 #[SL U S T, iv L] w fun e w' => ∃ bp bj bu bq bk bv br bl bw bs bm bx bz, e = .returned (.tuple #[.agg #[SL bp r.1.Routes bj, SL bq r.1.Enabled bk, SL br r.1.Raised bl, SL bs r.1.Cpus bm], .bool r.2]) ∧ ownS encRoute r.1.Routes bp bj bu ∧ ownS Gx.encB r.1.Enabled bq bk bv ∧ ownS Gx.encB r.1.Raised br bl bw ∧ ownD deepInterface r.1.Cpus bs bm bx bz ∧ Mem [] w w' [bu, bv, bw, bx, bz] := by
 unfold M.i_NewMachine at hm
 refine cE Tryz.func45 ?_
 have M0 := Mem.refl [] w
 refine QA (wN (CE 32 [SN, SN, SN, SN]) M0 fun x a9 bb => MW 1 (NB (MW 2 (GD hm fun bt dc hm => WD (c_i_areRoutes a9 S U T (bn.mem0 bb) L dc) bb fun b0 bc => MW 1 (NO (GT hm (fun av hm => ?_) fun av hm => ?_))))))
 ·refine QA (MW 1 (wS true 4 0 (.agg #[SN, SN, SN, SN]) 0 [SN, SN, SN, SN] bc rfl fun dn bd => MW 1 (ND ?_)))
  obtain rfl := HS hm
  exact N_ret [.agg #[SN, SN, SN, SN], .bool false] (RX true 4 0 (bd.blk 0 rfl) (rC RVs_nil)) (⟨none, 0, [], none, 0, [], none, 0, [], none, 0, [], [], rfl, ownS_nil, ownS_nil, ownS_nil, ownD_nil, bd.pk [100000, 100001, 100002, 100003, 100004]⟩)
 refine GK (TN (GS (GD hm fun y c2 hm => GD hm fun z c5 hm => GD hm fun B c6 hm => GU [(0, SL U S T), (1, iv L), (4, pB x 0), (10, .bool (!bt))] (DL 8 [[],[],[0,1],[],[],[],[],[]] [[],[],[0],[],[],[],[],[]] (EM 8) [[],[],[],[],[],[],[2,3,4,5],[]] [[],[],[],[],[],[],[2,3,4,5],[]] (EM 8) (fun _ => []) [fun f v s => ∃ af ad, v = (.slice af ([] : List Route).length ad : Value) ∧ ownS encRoute ([] : List Route) af ad s, QV (.slice U S.length T), fun f v s => ∃ n d, v = (.slice n y.length d : Value) ∧ ownS encRoute y n d s, fun f v s => ∃ q l, v = (.slice q z.length l : Value) ∧ ownS Gx.encB z q l s, fun f v s => ∃ t m, v = (.slice t B.length m : Value) ∧ ownS Gx.encB B t m s, fun f v s => ∃ O N aa ak, v = (.slice O ([] : List Interface).length N : Value) ∧ s = (aa ++ ak) ∧ ownD deepInterface ([] : List Interface) O N aa ak, fun f v s => v = (.agg #[(atPath (f 2) []), (atPath (f 3) []), (atPath (f 4) []), (atPath (f 5) [])] : Value) ∧ s = [], fun f v s => ∃ u, v = (pB u 0 : Value) ∧ s = (BK u 32 [SN, SN, SN, SN])] [] [2, 3, 4, 5, 6, 7] [2, 3, 4, 5, 7] (bc.preNil 8) (AC ?_ (AC ?_ (AC ?_ (AC ?_ (AC ?_ (AC ?_ (AC ?_ (AC ?_ AN)))))))) ?_))))
 ·intro c ai R d3 b4
  exact wL (E := encRoute) ([] : List Route) 0 [] 129 b4 fun af ad dg d4 ax b5 => WN (oE (SL af ([] : List Route) ad) dg ⟨af, ad, rfl, ax⟩ (Mem.mid b5))
 ·intro c ai R dp b6
  exact OM ⟨rfl, rfl⟩ b6
 ·intro c ai v0_ hb0_
  obtain ⟨af, ad, rfl, ax⟩ := hb0_
  rintro v1_ ⟨rfl, _⟩ R d5 be
  exact wA 16 [iv 0, iv 0] 2 be ax (bn.mem0 be) c2 fun n d dh d6 ay b7 => WN (oE (SL n y d) dh ⟨n, d, rfl, ay⟩ (Mem.takeOver b7))
 ·intro c ai R d7 b8
  exact W_make (E := Gx.encB) _ _ _ 8 1 [.bool false] (false : Bool) b8 (by kernel_rfl) rfl (by kernel_rfl) (by kernel_rfl) (by kernel_rfl) (by kernel_rfl) (by kernel_rfl) c5 fun q l di d8 az b9 => WN (oE (SL q z l) di ⟨q, l, rfl, az⟩ (Mem.mid b9))
 ·intro c ai R d9 ca
  exact W_make (E := Gx.encB) _ _ _ 8 1 [.bool false] (false : Bool) ca (by kernel_rfl) rfl (by kernel_rfl) (by kernel_rfl) (by kernel_rfl) (by kernel_rfl) (by kernel_rfl) c6 fun t m dj ea a0 cb => WN (oE (SL t B m) dj ⟨t, m, rfl, a0⟩ (Mem.mid cb))
 ·intro c ai R eb cc
  exact W_litD (D := deepInterface) (s1 := []) [] ([] : List Interface) rfl 0 [] 87 cc (by kernel_rfl) (by kernel_rfl) (by kernel_rfl) (by kernel_rfl) (by kernel_rfl) ownI_nil fun O N aa ec a3 cd => WN (oE (.slice O ([] : List Interface).length N) (aa ++ []) ⟨O, N, aa, [], rfl, rfl, a3⟩ (Mem.mid (by rw [List.append_nil]; exact cd)))
 ·intro c ai v2_ hb2_
  obtain ⟨_, n, d, rfl, _⟩ := hb2_
  intro v3_ hb3_
  obtain ⟨_, q, l, rfl, _⟩ := hb3_
  intro v4_ hb4_
  obtain ⟨_, t, m, rfl, _⟩ := hb4_
  intro v5_ hb5_
  obtain ⟨_, O, N, _, _, rfl, _⟩ := hb5_
  intro R dq ce
  exact OM ⟨rfl, rfl⟩ ce
 ·intro c ai R ed cf
  exact wN (CE 32 [SN, SN, SN, SN]) cf fun u ee cg => WN (oE (pB u 0) (BK u 32 [SN, SN, SN, SN]) ⟨u, rfl, rfl⟩ (Mem.mid cg))
 intro c ai v2_ hb2_
 obtain ⟨n, d, rfl, ay⟩ := hb2_
 intro v3_ hb3_
 obtain ⟨q, l, rfl, az⟩ := hb3_
 intro v4_ hb4_
 obtain ⟨t, m, rfl, a0⟩ := hb4_
 intro v5_ hb5_
 obtain ⟨O, N, aa, ak, rfl, hs5_, a3⟩ := hb5_
 intro v6_ hb6_
 obtain ⟨hv6_, _⟩ := hb6_
 obtain rfl : v6_ = (.agg #[SL n y d, SL q z l, SL t B m, SL O ([] : List Interface) N] : Value) := hv6_.trans (by kernel_rfl)
 intro v7_ hb7_
 obtain ⟨u, rfl, hs7_⟩ := hb7_
 intro b1 ch
 have am : Mem [] w b1 [(BK x 32 [SN, SN, SN, SN]), (c 2), (c 3), (c 4), aa, ak, (BK u 32 [SN, SN, SN, SN])] := ch.permF (by simp [hs5_, hs7_, SL])
 refine wS true 4 0 (.agg #[SL n y d, SL q z l, SL t B m, SL O ([] : List Interface) N]) 6 [SL n y d, SL q z l, SL t B m, SL O ([] : List Interface) N] am rfl fun dr ci => NB (MW 2 (NO (GD hm fun ae de c8 => G_meet (fun a w' => ∃ Z Y aq ar, ownD deepInterface ae Z Y aq ar ∧ Mem [] w w' [(BK x 32 [SN, SN, SN, SN]), (c 2), (c 3), (c 4), (BK u 32 [SL n y d, SL q z l, SL t B m, SL Z ae Y]), aq, ar] ∧ Sat Tryz.f45.ntmps [(4, pB x 0), (6, pB u 0)] a) ?_ ?_)))
 ·refine GB (G_while (σ := Int × List Interface) (ρ := List Interface) (fun K a w' => ∃ W V al ah, ownD deepInterface K.2 W V al ah ∧ Mem [] w w' [(BK x 32 [SN, SN, SN, SN]), (c 2), (c 3), (c 4), (BK u 32 [SL n y d, SL q z l, SL t B m, SL W K.2 V]), al, ah] ∧ Sat Tryz.f45.ntmps [(4, pB x 0), (6, pB u 0), (19, iv L), (20, iv K.1)] a) de (fun a ha => ⟨O, N, aa, ak, a3, ci.pk [0, 1, 2, 3, 6, 4, 5], ha.s⟩) ?_)
  clear hm
  intro K en hm db d1 ds ⟨W, V, al, ah, bo, bf, c0⟩
  refine G_use c0 (QA (MW 1 (NE (GT hm (fun aw hm => ?_) fun aw hm => ?_))))
  ·refine GK (TN (GS (GB (GD hm fun G c7 hm => GU [(4, pB x 0), (6, pB u 0), (19, iv L), (20, iv K.1), (21, .bool (decide (K.1 < L)))] (DL 8 [[],[0],[],[],[],[],[5],[2,3,4,6]] [[],[],[],[],[],[],[],[2,3,4]] (EM 8) [[],[],[],[],[],[3,4],[2,3,4],[]] [[],[],[],[],[],[3,4],[2,3,4],[]] (EM 8) (fun _ => []) [QV (pB u 3), QV (.slice W K.2.length V), fun f v s => ∃ Q P, v = (.slice Q ([] : List Int).length P : Value) ∧ ownS Gx.encI ([] : List Int) Q P s, fun f v s => ∃ H C, v = (.slice H G.length C : Value) ∧ ownS encSlot G H C s, fun f v s => ∃ I F, v = (.slice I ([] : List Waiter).length F : Value) ∧ ownS encWaiter ([] : List Waiter) I F s, fun f v s => v = (.agg #[(atPath (f 3) []), (atPath (f 4) [])] : Value) ∧ s = [], fun f v s => v = (.agg #[iv 16, (atPath (f 2) []), (atPath (f 3) []), (atPath (f 4) [])] : Value) ∧ s = [], fun f v s => ∃ ag ac X ab, v = (.slice ag [(⟨16, ([] : List Int), (⟨G, ([] : List Waiter)⟩ : Queue)⟩ : Interface)].length ac : Value) ∧ s = (X ++ ab) ∧ ownD deepInterface [(⟨16, ([] : List Int), (⟨G, ([] : List Waiter)⟩ : Queue)⟩ : Interface)] ag ac X ab] [] [1, 7] [7] (bf.preNil 8) (AC ?_ (AC ?_ (AC ?_ (AC ?_ (AC ?_ (AC ?_ (AC ?_ (AC ?_ AN)))))))) ?_)))))
   ·intro J aj R dt cj
    exact OM ⟨rfl, rfl⟩ cj
   ·rintro J aj v0_ ⟨rfl, _⟩ R du bg
    exact OV ⟨rfl, rfl⟩ (eL false 1 3 (bg.blk 4 rfl)) bg
   ·intro J aj R ef ck
    exact wL (E := Gx.encI) ([] : List Int) 0 [] 3 ck fun Q P dk eg a4 cl => WN (oE (SL Q ([] : List Int) P) dk ⟨Q, P, rfl, a4⟩ (Mem.mid cl))
   ·intro J aj R eh cm
    exact W_make (E := encSlot) _ _ _ 4 24 [iv 0, iv 0, iv 0] ((⟨0, 0, 0⟩ : Slot) : Slot) cm (by kernel_rfl) rfl (by kernel_rfl) (by kernel_rfl) (by kernel_rfl) (by kernel_rfl) (by kernel_rfl) c7 fun H C dl ei a5 cn => WN (oE (SL H G C) dl ⟨H, C, rfl, a5⟩ (Mem.mid cn))
   ·intro J aj R ej co
    exact wL (E := encWaiter) ([] : List Waiter) 0 [] 142 co fun I F dm ek a6 cp => WN (oE (SL I ([] : List Waiter) F) dm ⟨I, F, rfl, a6⟩ (Mem.mid cp))
   ·intro J aj v3_ hb3_
    obtain ⟨_, H, C, rfl, _⟩ := hb3_
    intro v4_ hb4_
    obtain ⟨_, I, F, rfl, _⟩ := hb4_
    intro R dv cq
    exact OM ⟨rfl, rfl⟩ cq
   ·intro J aj v2_ hb2_
    obtain ⟨_, Q, P, rfl, _⟩ := hb2_
    intro v3_ hb3_
    obtain ⟨_, H, C, rfl, _⟩ := hb3_
    intro v4_ hb4_
    obtain ⟨_, I, F, rfl, _⟩ := hb4_
    intro v5_ hb5_
    obtain ⟨hv5_, _⟩ := hb5_
    obtain rfl : v5_ = (.agg #[SL H G C, SL I ([] : List Waiter) F] : Value) := hv5_.trans (by kernel_rfl)
    intro R dw cr
    exact OM ⟨rfl, rfl⟩ cr
   ·intro J aj v2_ hb2_
    obtain ⟨Q, P, rfl, a4⟩ := hb2_
    intro v3_ hb3_
    obtain ⟨H, C, rfl, a5⟩ := hb3_
    intro v4_ hb4_
    obtain ⟨I, F, rfl, a6⟩ := hb4_
    intro v6_ hb6_
    obtain ⟨hv6_, _⟩ := hb6_
    obtain rfl : v6_ = (.agg #[iv 16, SL Q ([] : List Int) P, SL H G C, SL I ([] : List Waiter) F] : Value) := hv6_.trans (by kernel_rfl)
    intro R el ct
    exact W_litD (D := deepInterface) [((⟨16, ([] : List Int), (⟨G, ([] : List Waiter)⟩ : Queue)⟩ : Interface), plOf [(Q, P), (H, C), (I, F)])] [(⟨16, ([] : List Int), (⟨G, ([] : List Waiter)⟩ : Queue)⟩ : Interface)] rfl 1 [iv 16, SL Q ([] : List Int) P, SL H G C, SL I ([] : List Waiter) F] 87 ct (by kernel_rfl) (by kernel_rfl) (by kernel_rfl) (by kernel_rfl) (by kernel_rfl) (ownI_cons (i := ⟨Int, Gx.encI, _, _, _⟩) a4 (ownI_cons (i := ⟨Slot, encSlot, _, _, _⟩) a5 (ownI_cons (i := ⟨Waiter, encWaiter, _, _, _⟩) a6 ownI_nil))) fun ag ac X em a7 cu => WN (oE (SL ag [(⟨16, ([] : List Int), (⟨G, ([] : List Waiter)⟩ : Queue)⟩ : Interface)] ac) (X ++ ((J 2) ++ ((J 3) ++ ((J 4) ++ [])))) ⟨ag, ac, X, ((J 2) ++ ((J 3) ++ ((J 4) ++ []))), rfl, rfl, a7⟩ (Mem.midJ (A := [(J 2), (J 3), (J 4)]) cu))
   rintro J aj v1_ ⟨rfl, _⟩ v7_ hb7_
   obtain ⟨ag, ac, X, ab, rfl, hs7_, a7⟩ := hb7_
   intro b2 cv
   have an : Mem [] w b2 [(BK x 32 [SN, SN, SN, SN]), (c 2), (c 3), (c 4), (BK u 32 [SL n y d, SL q z l, SL t B m, SL W K.2 V]), al, ah, X, ab] := cv.permF (by simp [hs7_, SL])
   refine GD hm fun au c3 hm => ?_
   obtain ⟨d0, df, dd, c4⟩ := id a7
   refine W_appendD (D := deepInterface) (us := d0) (s2 := ab) _ _ _ 80 [iv 0, SN, SN, SN] 5 ac an bo (by kernel_rfl) (by kernel_rfl) (by kernel_rfl) rfl (by kernel_rfl) (by kernel_rfl) (by kernel_rfl) (by kernel_rfl) (by kernel_rfl) (by kernel_rfl) (dd.r an 7) df c4 c3 ?_
   intro ap ao a8 ba da cw
   have cx : Mem [] w ba [(BK x 32 [SN, SN, SN, SN]), (c 2), (c 3), (c 4), (BK u 32 [SL n y d, SL q z l, SL t B m, SL W K.2 V]), a8, X, ah, ab] := cw.pk [0, 1, 2, 3, 4, 5, 7, 6, 8]
   have cy : Mem [] w ba [(BK x 32 [SN, SN, SN, SN]), (c 2), (c 3), (c 4), (BK u 32 [SL n y d, SL q z l, SL t B m, SL W K.2 V]), a8, X, (ah ++ ab)] := cx.regroup (by simp)
   refine MW 1 (wS false 1 3 (SL ap au ao) 4 [SL n y d, SL q z l, SL t B m, SL ap au ao] cy rfl fun dx cz => NG (MW 2 (WN ?_)))
   cases hm
   exact N_loop fun a ha => ⟨_, rfl, ap, ao, a8, (ah ++ ab), da, cz.pk [0, 1, 2, 3, 4, 5, 7], ha.s⟩
  refine XA ?_
  obtain rfl := HS hm
  obtain rfl := db _ rfl
  exact NM fun a ha => ⟨W, V, al, ah, bo, bf.pk [0, 1, 2, 3, 4, 5, 6], ha.s⟩
 intro d2 dy ⟨Z, Y, aq, ar, c9, bh, c1⟩
 refine N_use c1 ?_
 have hm := c8
 refine NF (wV (.agg #[SL n y d, SL q z l, SL t B m, SL Z ae Y]) dy (eL true 4 0 (bh.blk 4 rfl)) (wS true 4 0 (.agg #[SL n y d, SL q z l, SL t B m, SL Z ae Y]) 0 [SL n y d, SL q z l, SL t B m, SL Z ae Y] bh rfl fun dz bi => MW 1 (NC ?_)))
 obtain rfl := HS hm
 exact N_ret [.agg #[SL n y d, SL q z l, SL t B m, SL Z ae Y], .bool true] (RX true 4 0 (bi.blk 0 rfl) (rC RVs_nil)) (⟨n, d, (c 2), q, l, (c 3), t, m, (c 4), Z, Y, aq, ar, rfl, ay, az, a0, c9, bi.pk [1, 2, 3, 5, 6]⟩)
end Go.Proofs.YtllhajkgkghhdaaGreat
set_option linter.unusedVariables false
set_option linter.unusedSimpArgs false
set_option maxRecDepth 100000
set_option maxHeartbeats 4000000
namespace Go.Proofs.YtllhajkgkghhdaaGreat
open Go.Gx
theorem c_l_FnMachines (w : World) (d : List Int) (g f) (dm : rdS Gx.encU8 w d g f) {r : Bool} (hm : M.l_FnMachines d = some r) :
  Calls Tryz.prog 10 #[SL g d f] w fun e w' => e = .returned (.bool r) ∧ Mem [] w w' [] := by
 unfold M.l_FnMachines at hm
 refine cE Tryz.func10 ?_
 have M0 := Mem.refl [] w
 refine QA (MW 1 (NB (MW 1 (GD hm fun me jz hm => WD (c_l_vBig w d g f (dm.mem0 M0) jz) M0 fun fd d6 => NO (GT hm (fun eb hm => ?_) fun eb hm => ?_)))))
 ·refine QA (MW 1 (ND ?_))
  obtain rfl := HS hm
  exact RA [.bool true] (⟨rfl, d6.pk []⟩)
 refine KA (MW 1 (GD hm fun c j0 hm => WC ((c_s_DrawStepMachine fd d g f (dm.mem0 d6) j0).mono ?_)))
 rintro e_ lo ⟨H, C, f8, I, D, f9, J, F, ga, K, G, gb, gc, rfl, c4, c5, c6, c7, gp⟩
 have he := d6.call gp
 refine ⟨_, rfl, ?_⟩
 refine MW 3 (wN (CE 32 [SN, SN, SN, SN]) he fun x nb hf => wN (CE 51 [iv 0, iv 0, iv 0, iv 0]) hf fun o nc hg => wS true 4 0 (.agg #[SL H c.1.Routes C, SL I c.1.Enabled D, SL J c.1.Raised F, SL K c.1.Cpus G]) 5 [SL H c.1.Routes C, SL I c.1.Enabled D, SL J c.1.Raised F, SL K c.1.Cpus G] hg rfl fun nd hh => wS true 4 0 (.agg #[iv c.2.Kind, iv c.2.Irq, iv c.2.Cpu, iv c.2.Value]) 6 [iv c.2.Kind, iv c.2.Irq, iv c.2.Cpu, iv c.2.Value] hh rfl fun fe bs => NA (wV (.agg #[SL H c.1.Routes C, SL I c.1.Enabled D, SL J c.1.Raised F, SL K c.1.Cpus G]) fe (eL true 4 0 (bs.blk 5 rfl)) (wV (.agg #[iv c.2.Kind, iv c.2.Irq, iv c.2.Cpu, iv c.2.Value]) fe (eL true 4 0 (bs.blk 6 rfl)) (GD hm fun b j1 hm => WC ((c_i_StepMachine fe c.1 H C (c4.r bs 0) I D (c5.r bs 1) J F (c6.r bs 2) K G (c7.r2 bs 3 4) c.2 j1).mono ?_)))))
 rintro e_ lp ⟨ab, V, gd, ac, W, ge, ad, X, gf, ae, Y, gg, gh, rfl, dn, dp, dq, dr, gq⟩
 have hi := bs.call gq
 refine ⟨_, rfl, ?_⟩
 refine MW 4 (wN (CE 32 [SN, SN, SN, SN]) hi fun u nf hj => wS true 4 0 (.agg #[SL ab b.1.Routes V, SL ac b.1.Enabled W, SL ad b.1.Raised X, SL ae b.1.Cpus Y]) 12 [SL ab b.1.Routes V, SL ac b.1.Enabled W, SL ad b.1.Raised X, SL ae b.1.Cpus Y] hj rfl fun dx bt => MW 2 (NB (wV (.agg #[SL H c.1.Routes C, SL I c.1.Enabled D, SL J c.1.Raised F, SL K c.1.Cpus G]) dx (eL true 4 0 (bt.blk 5 rfl)) (wV (.agg #[iv c.2.Kind, iv c.2.Irq, iv c.2.Cpu, iv c.2.Value]) dx (eL true 4 0 (bt.blk 6 rfl)) (GD hm fun n j2 hm => WC ((c_s_StepMachine dx c.1 H C (c4.r bt 0) I D (c5.r bt 1) J F (c6.r bt 2) K G (c7.r2 bt 3 4) c.2 j2).mono ?_))))))
 rintro e_ lq ⟨co, cb, mf, cp, cc, mg, cq, cd, mh, cr, ce, mi, mj, rfl, i1, i2, i3, i4, gr⟩
 have hk := bt.call gr
 refine ⟨_, rfl, ?_⟩
 refine MW 4 (wN (CE 32 [SN, SN, SN, SN]) hk fun d9 ng hl => wS true 4 0 (.agg #[SL co n.1.Routes cb, SL cp n.1.Enabled cc, SL cq n.1.Raised cd, SL cr n.1.Cpus ce]) 18 [SL co n.1.Routes cb, SL cp n.1.Enabled cc, SL cq n.1.Raised cd, SL cr n.1.Cpus ce] hl rfl fun lr hn => wR 2 [(0, SL g d f), (3, pB x 0), (4, pB o 0), (5, pB u 0), (6, iv b.2.1), (7, .bool b.2.2), (8, pB d9 0), (9, iv n.2.1), (10, .bool n.2.2)] lr (NE (GD hm fun ks i5 it => G_meet (fun a w' => Mem [] w w' [f8, f9, ga, gb, gc, (BK x 32 [SL H c.1.Routes C, SL I c.1.Enabled D, SL J c.1.Raised F, SL K c.1.Cpus G]), (BK o 51 [iv c.2.Kind, iv c.2.Irq, iv c.2.Cpu, iv c.2.Value]), gd, ge, gf, gg, gh, (BK u 32 [SL ab b.1.Routes V, SL ac b.1.Enabled W, SL ad b.1.Raised X, SL ae b.1.Cpus Y])] ∧ Sat Tryz.f10.ntmps [(0, SL g d f), (3, pB x 0), (4, pB o 0), (5, pB u 0), (6, iv b.2.1), (7, .bool b.2.2), (93, .bool ks)] a) ?_ ?_)))
 ·have hm := i5
  refine G_quiet (by kernel_rfl) (by kernel_rfl) hn (MS 4 [(0, SL g d f), (3, pB x 0), (4, pB o 0), (5, pB u 0), (6, iv b.2.1), (7, .bool b.2.2), (8, pB d9 0), (9, iv n.2.1), (68, .bool (!(b.2.2 == n.2.2)))] ?_)
  rcases gx_bif hm with ⟨ec, hm⟩ | ⟨ec, hm⟩
  ·refine zK 68 true ec (MS 25 [(0, SL g d f), (3, pB x 0), (4, pB o 0), (5, pB u 0), (6, iv b.2.1), (7, .bool b.2.2), (93, .bool true)] (Z_end fun nh ho => ?_))
   obtain rfl := HS hm
   exact NM fun a ha => ⟨ho.pk [0, 1, 2, 3, 4, 5, 6, 7, 8, 9, 10, 11, 12], ha.s⟩
  refine zK 68 false ec (MS 5 [(0, SL g d f), (3, pB x 0), (4, pB o 0), (5, pB u 0), (6, iv b.2.1), (7, .bool b.2.2), (8, pB d9 0), (73, .bool (b.2.1 != n.2.1))] ?_)
  rcases gx_bif hm with ⟨ed, hm⟩ | ⟨ed, hm⟩
  ·refine zK 73 true ed (MS 20 [(0, SL g d f), (3, pB x 0), (4, pB o 0), (5, pB u 0), (6, iv b.2.1), (7, .bool b.2.2), (93, .bool true)] (Z_end fun ni hp => ?_))
   obtain rfl := HS hm
   exact NM fun a ha => ⟨hp.pk [0, 1, 2, 3, 4, 5, 6, 7, 8, 9, 10, 11, 12], ha.s⟩
  refine zK 73 false ed (zV (.agg #[SL ab b.1.Routes V, SL ac b.1.Enabled W, SL ad b.1.Raised X, SL ae b.1.Cpus Y]) (fun w_ M_ => (eL true 4 0 (M_.blk 12 rfl))) (zV (.agg #[SL co n.1.Routes cb, SL cp n.1.Enabled cc, SL cq n.1.Raised cd, SL cr n.1.Cpus ce]) (fun w_ M_ => (eL true 4 0 (M_.blk 18 rfl))) (GD hm fun c8 j3 hm => ZC (.bool c8) (fun w_ M_ => c_l_vMachine w_ b.1 ab V (dn.r M_ 7) ac W (dp.r M_ 8) ad X (dq.r M_ 9) ae Y (dr.r2 M_ 10 11) n.1 co cb (i1.r M_ 13) cp cc (i2.r M_ 14) cq cd (i3.r M_ 15) cr ce (i4.r2 M_ 16 17) j3) (MS 3 [(0, SL g d f), (3, pB x 0), (4, pB o 0), (5, pB u 0), (6, iv b.2.1), (7, .bool b.2.2), (79, .bool (!c8))] ?_))))
  rcases gx_bif hm with ⟨ee, hm⟩ | ⟨ee, hm⟩
  ·refine zK 79 true ee (MZ 14 (Z_end fun nj hq => ?_))
   obtain rfl := HS hm
   exact NM fun a ha => ⟨hq.pk [0, 1, 2, 3, 4, 5, 6, 7, 8, 9, 10, 11, 12], ha.s⟩
  refine zK 79 false ee (zV (.agg #[SL H c.1.Routes C, SL I c.1.Enabled D, SL J c.1.Raised F, SL K c.1.Cpus G]) (fun w_ M_ => (eL true 4 0 (M_.blk 5 rfl))) (GD hm fun c9 j4 hm => ZC (.bool c9) (fun w_ M_ => c_i_IsMachine w_ c.1 H C (c4.r M_ 0) I D (c5.r M_ 1) J F (c6.r M_ 2) K G (c7.r2 M_ 3 4) j4) (zV (.agg #[SL H c.1.Routes C, SL I c.1.Enabled D, SL J c.1.Raised F, SL K c.1.Cpus G]) (fun w_ M_ => (eL true 4 0 (M_.blk 5 rfl))) (GD hm fun da j5 hm => ZC (.bool da) (fun w_ M_ => c_s_IsMachine w_ c.1 H C (c4.r M_ 0) I D (c5.r M_ 1) J F (c6.r M_ 2) K G (c7.r2 M_ 3 4) j5) (MS 3 [(0, SL g d f), (3, pB x 0), (4, pB o 0), (5, pB u 0), (6, iv b.2.1), (7, .bool b.2.2), (86, .bool (!(c9 == da)))] ?_)))))
  rcases gx_bif hm with ⟨ef, hm⟩ | ⟨ef, hm⟩
  ·refine zK 86 true ef (MZ 7 (Z_end fun nk hr => ?_))
   obtain rfl := HS hm
   exact NM fun a ha => ⟨hr.pk [0, 1, 2, 3, 4, 5, 6, 7, 8, 9, 10, 11, 12], ha.s⟩
  refine zK 86 false ef (MS 2 [(0, SL g d f), (3, pB x 0), (4, pB o 0), (5, pB u 0), (6, iv b.2.1), (7, .bool b.2.2), (86, .bool false), (88, .bool b.2.2)] ?_)
  rcases gx_bif hm with ⟨eg, hm⟩ | ⟨eg, hm⟩
  ·refine zK 88 true eg (zV (.agg #[SL ab b.1.Routes V, SL ac b.1.Enabled W, SL ad b.1.Raised X, SL ae b.1.Cpus Y]) (fun w_ M_ => (eL true 4 0 (M_.blk 12 rfl))) (GD hm fun db j6 hm => ZC (.bool db) (fun w_ M_ => c_i_IsMachine w_ b.1 ab V (dn.r M_ 7) ac W (dp.r M_ 8) ad X (dq.r M_ 9) ae Y (dr.r2 M_ 10 11) j6) (MZ 3 (Z_end fun nl hs => ?_))))
   obtain rfl := HS hm
   exact NM fun a ha => ⟨hs.pk [0, 1, 2, 3, 4, 5, 6, 7, 8, 9, 10, 11, 12], ha.s⟩
  refine zK 88 false eg (MZ 5 (Z_end fun nm ht => ?_))
  obtain rfl := HS hm
  exact NM fun a ha => ⟨ht.pk [0, 1, 2, 3, 4, 5, 6, 7, 8, 9, 10, 11, 12], ha.s⟩
 intro l5 c1 ⟨dj, ig⟩
 refine N_use ig ?_
 have hm := it
 refine TN (GT hm (fun eh hm => ?_) fun eh hm => ?_)
 ·refine QA (MW 1 (ND ?_))
  obtain rfl := HS hm
  exact RA [.bool false] (⟨rfl, dj.pk []⟩)
 refine GK (TN (GS (GS (GD hm fun kt i6 iu => G_meet (fun a w' => Mem [] w w' [f8, f9, ga, gb, gc, (BK x 32 [SL H c.1.Routes C, SL I c.1.Enabled D, SL J c.1.Raised F, SL K c.1.Cpus G]), (BK o 51 [iv c.2.Kind, iv c.2.Irq, iv c.2.Cpu, iv c.2.Value]), gd, ge, gf, gg, gh, (BK u 32 [SL ab b.1.Routes V, SL ac b.1.Enabled W, SL ad b.1.Raised X, SL ae b.1.Cpus Y])] ∧ Sat Tryz.f10.ntmps [(0, SL g d f), (3, pB x 0), (4, pB o 0), (5, pB u 0), (6, iv b.2.1), (99, .bool kt)] a) ?_ ?_))))
 ·have hm := i6
  refine GR (wR 2 [(0, SL g d f), (3, pB x 0), (4, pB o 0), (5, pB u 0), (6, iv b.2.1), (95, .bool b.2.2)] c1 ?_)
  rcases gx_bif hm with ⟨ei, hm⟩ | ⟨ei, hm⟩
  ·refine wK 95 true ei (MW 1 (wV (iv c.2.Kind) c1 (eL false 1 0 (dj.blk 6 rfl)) (MW 2 (WN ?_))))
   obtain rfl := HS hm
   exact NM fun a ha => ⟨dj.pk [0, 1, 2, 3, 4, 5, 6, 7, 8, 9, 10, 11, 12], ha.s⟩
  refine wK 95 false ei (MW 4 (WN ?_))
  obtain rfl := HS hm
  exact NM fun a ha => ⟨dj.pk [0, 1, 2, 3, 4, 5, 6, 7, 8, 9, 10, 11, 12], ha.s⟩
 intro l6 dy ⟨bn, ih⟩
 refine N_use ih ?_
 have hm := iu
 refine TN (GD hm fun ky i7 ft => G_meet (fun a w' => ∃ (f5 : Unit), ky = .inl f5 ∧ Mem [] w w' [] ∧ Sat Tryz.f10.ntmps [(0, SL g d f)] a) ?_ ?_)
 ·have hm := i7
  refine GT hm (fun ej hm => ?_) fun ej hm => ?_
  ·refine QA (wV (.agg #[SL H c.1.Routes C, SL I c.1.Enabled D, SL J c.1.Raised F, SL K c.1.Cpus G]) dy (eL true 4 0 (bn.blk 5 rfl)) (MW 1 (wV (iv c.2.Cpu) dy (eL false 1 2 (bn.blk 6 rfl)) (GD hm fun A j7 hm => WC ((c_i_PendingOn dy c.1 H C (c4.r bn 0) I D (c5.r bn 1) J F (c6.r bn 2) K G (c7.r2 bn 3 4) c.2.Cpu j7).mono ?_)))))
   rintro e_ dd ⟨ai, Z, mk, rfl, ds, gs⟩
   have bu := bn.call gs
   refine ⟨_, rfl, ?_⟩
   refine MW 5 (NA (wV (.agg #[SL ab b.1.Routes V, SL ac b.1.Enabled W, SL ad b.1.Raised X, SL ae b.1.Cpus Y]) dd (eL true 4 0 (bu.blk 12 rfl)) (MW 1 (wV (iv c.2.Cpu) dd (eL false 1 2 (bu.blk 6 rfl)) (GD hm fun aj j8 hm => WC ((c_i_PendingOn dd b.1 ab V (dn.r bu 7) ac W (dp.r bu 8) ad X (dq.r bu 9) ae Y (dr.r2 bu 10 11) c.2.Cpu j8).mono ?_))))))
   rintro e_ de ⟨a4, a3, ml, rfl, i8, gt⟩
   have bv := bu.call gt
   refine ⟨_, rfl, ?_⟩
   refine MW 5 (NA (wV (.agg #[SL ab b.1.Routes V, SL ac b.1.Enabled W, SL ad b.1.Raised X, SL ae b.1.Cpus Y]) de (eL true 4 0 (bv.blk 12 rfl)) (wR 1 [(0, SL g d f), (6, iv b.2.1), (11, SL ai A.1 Z), (12, .bool A.2), (13, SL a4 aj.1 a3), (14, .bool aj.2), (115, .agg #[SL ab b.1.Routes V, SL ac b.1.Enabled W, SL ad b.1.Raised X, SL ae b.1.Cpus Y]), (116, pB o 2)] de (wV (iv c.2.Cpu) de (eL false 1 2 (bv.blk 6 rfl)) (GD hm fun ag j9 hm => WC ((c_i_RunningOn de b.1 ab V (dn.r bv 7) ac W (dp.r bv 8) ad X (dq.r bv 9) ae Y (dr.r2 bv 10 11) c.2.Cpu j9).mono ?_))))))
   rintro e_ ak ⟨a5, a7, mm, rfl, fv, gu⟩
   have a6 := bv.call gu
   refine ⟨_, rfl, ?_⟩
   refine MW 5 (NE (GD hm fun ku i9 iw => G_meet (fun a w' => Mem [] w w' [] ∧ Sat Tryz.f10.ntmps [(0, SL g d f), (164, .bool ku)] a) ?_ ?_))
   ·have hm := i9
    refine GR (wR 3 [(0, SL g d f), (6, iv b.2.1), (11, SL ai A.1 Z), (13, SL a4 aj.1 a3), (14, .bool aj.2), (15, SL a5 ag.1 a7), (16, .bool ag.2), (123, .bool (!A.2))] ak ?_)
    rcases gx_bif hm with ⟨ek, hm⟩ | ⟨ek, hm⟩
    ·refine wK 123 true ek (wR 41 [(0, SL g d f), (164, .bool true)] ak (WN ?_))
     obtain rfl := HS hm
     exact NM fun a ha => ⟨a6.pk [], ha.s⟩
    refine wK 123 false ek (wR 4 [(0, SL g d f), (6, iv b.2.1), (11, SL ai A.1 Z), (13, SL a4 aj.1 a3), (15, SL a5 ag.1 a7), (16, .bool ag.2), (127, .bool (!aj.2))] ak ?_)
    rcases gx_bif hm with ⟨el, hm⟩ | ⟨el, hm⟩
    ·refine wK 127 true el (wR 37 [(0, SL g d f), (164, .bool true)] ak (WN ?_))
     obtain rfl := HS hm
     exact NM fun a ha => ⟨a6.pk [], ha.s⟩
    refine wK 127 false el (wR 4 [(0, SL g d f), (6, iv b.2.1), (11, SL ai A.1 Z), (13, SL a4 aj.1 a3), (15, SL a5 ag.1 a7), (131, .bool (!ag.2))] ak ?_)
    rcases gx_bif hm with ⟨em, hm⟩ | ⟨em, hm⟩
    ·refine wK 131 true em (wR 33 [(0, SL g d f), (164, .bool true)] ak (WN ?_))
     obtain rfl := HS hm
     exact NM fun a ha => ⟨a6.pk [], ha.s⟩
    refine wK 131 false em (wR 5 [(0, SL g d f), (6, iv b.2.1), (11, SL ai A.1 Z), (13, SL a4 aj.1 a3), (15, SL a5 ag.1 a7), (136, .bool ((A.1.length : Int) == 0))] ak ?_)
    rcases gx_bif hm with ⟨en, hm⟩ | ⟨en, hm⟩
    ·refine wK 136 true en (wR 28 [(0, SL g d f), (164, .bool true)] ak (WN ?_))
     obtain rfl := HS hm
     exact NM fun a ha => ⟨a6.pk [], ha.s⟩
    refine wK 136 false en (MW 1 (GD hm fun gm f2 hm => wV (elemP ai ((0 : Int).toNat * 1)) ak (eI (ds.r a6 13) rfl f2) (wV (iv gm) ak (eE false 1 0 ((0 : Int).toNat * 1) (ds.r a6 13) f2) (wR 4 [(0, SL g d f), (6, iv b.2.1), (11, SL ai A.1 Z), (13, SL a4 aj.1 a3), (15, SL a5 ag.1 a7), (143, .bool (gm != b.2.1))] ak ?_))))
    rcases gx_bif hm with ⟨eo, hm⟩ | ⟨eo, hm⟩
    ·refine wK 143 true eo (wR 21 [(0, SL g d f), (164, .bool true)] ak (WN ?_))
     obtain rfl := HS hm
     exact NM fun a ha => ⟨a6.pk [], ha.s⟩
    refine wK 143 false eo (MW 2 (GD hm fun fh f4 hm => wV (SL (subP ai (1 : Int).toNat Z 1) fh (Z - (1 : Int).toNat)) ak (E_slice (E := Gx.encI) _ _ _ _ A.1.length 1 (A.1.length : Int) rfl (by kernel_rfl) (Or.inr ⟨_, rfl, by kernel_rfl⟩) (Or.inl ⟨rfl, rfl⟩) (by kernel_rfl) (ds.r a6 13) rfl f4) (GD hm fun k2 ka hm => WD (c_l_vInts ak aj.1 a4 a3 (i8.r a6 14) fh (subP ai (1 : Int).toNat Z 1) (Z - (1 : Int).toNat) ((ds.r a6 13).sliceM f4) ka) a6 fun br c3 => wR 3 [(0, SL g d f), (6, iv b.2.1), (15, SL a5 ag.1 a7), (150, .bool (!k2))] br ?_)))
    rcases gx_bif hm with ⟨ep, hm⟩ | ⟨ep, hm⟩
    ·refine wK 150 true ep (MW 14 (WN ?_))
     obtain rfl := HS hm
     exact NM fun a ha => ⟨c3.pk [], ha.s⟩
    refine wK 150 false ep (wR 5 [(0, SL g d f), (6, iv b.2.1), (15, SL a5 ag.1 a7), (155, .bool ((ag.1.length : Int) == 0))] br ?_)
    rcases gx_bif hm with ⟨er, hm⟩ | ⟨er, hm⟩
    ·refine wK 155 true er (MW 9 (WN ?_))
     obtain rfl := HS hm
     exact NM fun a ha => ⟨c3.pk [], ha.s⟩
    refine wK 155 false er (MW 4 (GD hm fun gn f3 hm => wV (elemP a5 ((w64 ((ag.1.length : Int) - 1)).toNat * 1)) br (eI (fv.r c3 15) rfl f3) (wV (iv gn) br (eE false 1 0 ((w64 ((ag.1.length : Int) - 1)).toNat * 1) (fv.r c3 15) f3) (wR 3 [(0, SL g d f), (164, .bool (gn != b.2.1))] br (WN ?_)))))
    obtain rfl := HS hm
    exact NM fun a ha => ⟨c3.pk [], ha.s⟩
   intro l7 ls ⟨fi, ii⟩
   refine N_use ii ?_
   have hm := iw
   refine TN (GT hm (fun es hm => ?_) fun es hm => ?_)
   ·refine QA (MW 1 (NC (N_meet_ret ?_)))
    obtain rfl := HS hm
    have hm := ft
    simp only [Sum.elim_inr] at hm
    refine TR ?_
    obtain rfl := HS hm
    exact RA [.bool false] (⟨rfl, fi.pk []⟩)
   refine GK ?_
   obtain rfl := HS hm
   exact NM fun a ha => ⟨_, rfl, fi.pk [], ha.s⟩
  refine GK ?_
  obtain rfl := HS hm
  exact NM fun a ha => ⟨_, rfl, bn.pk [], ha.s⟩
 intro l8 gi ⟨f5, hout_, fj, ij⟩
 refine N_use ij ?_
 subst hout_
 have hm := ft
 simp only [Sum.elim_inl] at hm
 refine NF (MW 1 (GD hm fun h kb hm => WC ((c_s_DrawDrainCpu gi d g f (dm.mem0 fj) kb).mono ?_)))
 rintro e_ lt ⟨Q, L, k8, R, N, k9, S, O, la, T, P, lb, lc, rfl, dt, du, dv, dw, gw⟩
 have hu := fj.call gw
 refine ⟨_, rfl, ?_⟩
 refine MW 3 (wN (CE 32 [SN, SN, SN, SN]) hu fun y nn hv => wS true 4 0 (.agg #[SL Q h.1.Routes L, SL R h.1.Enabled N, SL S h.1.Raised O, SL T h.1.Cpus P]) 5 [SL Q h.1.Routes L, SL R h.1.Enabled N, SL S h.1.Raised O, SL T h.1.Cpus P] hv rfl fun dz b5 => MW 1 (NA (wV (.agg #[SL Q h.1.Routes L, SL R h.1.Enabled N, SL S h.1.Raised O, SL T h.1.Cpus P]) dz (eL true 4 0 (b5.blk 5 rfl)) (MW 1 (GD hm fun i kc hm => WC ((c_i_DrainCpu dz h.1 Q L (dt.r b5 0) R N (du.r b5 1) S O (dv.r b5 2) T P (dw.r2 b5 3 4) h.2 kc).mono ?_))))))
 rintro e_ lu ⟨ap, al, ld, aq, am, le, ar, an, lf, au, ao, lg, lh, m, l, li, rfl, e8, e9, fa, fb, fw, gx⟩
 have hw := b5.call gx
 refine ⟨_, rfl, ?_⟩
 refine MW 4 (wN (CE 32 [SN, SN, SN, SN]) hw fun z no hx => wS true 4 0 (.agg #[SL ap i.1.Routes al, SL aq i.1.Enabled am, SL ar i.1.Raised an, SL au i.1.Cpus ao]) 12 [SL ap i.1.Routes al, SL aq i.1.Enabled am, SL ar i.1.Raised an, SL au i.1.Cpus ao] hx rfl fun d0 b6 => MW 2 (NB (wV (.agg #[SL Q h.1.Routes L, SL R h.1.Enabled N, SL S h.1.Raised O, SL T h.1.Cpus P]) d0 (eL true 4 0 (b6.blk 5 rfl)) (MW 1 (GD hm fun q kd hm => WC ((c_s_DrainCpu d0 h.1 Q L (dt.r b6 0) R N (du.r b6 1) S O (dv.r b6 2) T P (dw.r2 b6 3 4) h.2 kd).mono ?_))))))
 rintro e_ lv ⟨cs, cf, mn, ct, cg, mo, cu, ch, mp, cv, ci, mq, mr, cw, cj, ms, rfl, ja, jb, jc, jd, je, gy⟩
 have hy := b6.call gy
 refine ⟨_, rfl, ?_⟩
 refine MW 4 (wN (CE 32 [SN, SN, SN, SN]) hy fun dl np hz => wS true 4 0 (.agg #[SL cs q.1.Routes cf, SL ct q.1.Enabled cg, SL cu q.1.Raised ch, SL cv q.1.Cpus ci]) 19 [SL cs q.1.Routes cf, SL ct q.1.Enabled cg, SL cu q.1.Raised ch, SL cv q.1.Cpus ci] hz rfl fun df dk => wR 2 [(0, SL g d f), (17, pB y 0), (18, iv h.2), (19, pB z 0), (20, SL m i.2.1 l), (21, .bool i.2.2), (22, pB dl 0), (23, SL cw q.2.1 cj), (24, .bool q.2.2)] df (NE (GD hm fun kv jf ix => G_meet (fun a w' => Mem [] w w' [k8, k9, la, lb, lc, (BK y 32 [SL Q h.1.Routes L, SL R h.1.Enabled N, SL S h.1.Raised O, SL T h.1.Cpus P]), ld, le, lf, lg, lh, li, (BK z 32 [SL ap i.1.Routes al, SL aq i.1.Enabled am, SL ar i.1.Raised an, SL au i.1.Cpus ao])] ∧ Sat Tryz.f10.ntmps [(0, SL g d f), (17, pB y 0), (18, iv h.2), (19, pB z 0), (20, SL m i.2.1 l), (21, .bool i.2.2), (198, .bool kv)] a) ?_ ?_)))
 ·have hm := jf
  refine GR (wR 4 [(0, SL g d f), (17, pB y 0), (18, iv h.2), (19, pB z 0), (20, SL m i.2.1 l), (21, .bool i.2.2), (22, pB dl 0), (23, SL cw q.2.1 cj), (187, .bool (!(i.2.2 == q.2.2)))] df ?_)
  rcases gx_bif hm with ⟨et, hm⟩ | ⟨et, hm⟩
  ·refine wK 187 true et (MW 11 (WN ?_))
   obtain rfl := HS hm
   exact NM fun a ha => ⟨dk.pk [0, 1, 2, 3, 4, 5, 6, 7, 8, 9, 10, 11, 12], ha.s⟩
  refine wK 187 false et (MW 2 (GD hm fun k3 ke hm => WD (c_l_vInts df i.2.1 m l (fw.r dk 11) q.2.1 cw cj (je.r dk 18) ke) dk fun dg az => wR 3 [(0, SL g d f), (17, pB y 0), (18, iv h.2), (19, pB z 0), (20, SL m i.2.1 l), (21, .bool i.2.2), (22, pB dl 0), (193, .bool (!k3))] dg ?_))
  rcases gx_bif hm with ⟨eu, hm⟩ | ⟨eu, hm⟩
  ·refine wK 193 true eu (MW 5 (WN ?_))
   obtain rfl := HS hm
   exact NM fun a ha => ⟨az.pk [0, 1, 2, 3, 4, 5, 6, 7, 8, 9, 10, 11, 12], ha.s⟩
  refine wK 193 false eu (wV (.agg #[SL ap i.1.Routes al, SL aq i.1.Enabled am, SL ar i.1.Raised an, SL au i.1.Cpus ao]) dg (eL true 4 0 (az.blk 12 rfl)) (wV (.agg #[SL cs q.1.Routes cf, SL ct q.1.Enabled cg, SL cu q.1.Raised ch, SL cv q.1.Cpus ci]) dg (eL true 4 0 (az.blk 19 rfl)) (GD hm fun k4 kf hm => WD (c_l_vMachine dg i.1 ap al (e8.r az 6) aq am (e9.r az 7) ar an (fa.r az 8) au ao (fb.r2 az 9 10) q.1 cs cf (ja.r az 13) ct cg (jb.r az 14) cu ch (jc.r az 15) cv ci (jd.r2 az 16 17) kf) az fun lw h0 => MW 2 (WN ?_))))
  obtain rfl := HS hm
  exact NM fun a ha => ⟨h0.pk [0, 1, 2, 3, 4, 5, 6, 7, 8, 9, 10, 11, 12], ha.s⟩
 intro l9 dh ⟨bo, ik⟩
 refine N_use ik ?_
 have hm := ix
 refine TN (GT hm (fun ev hm => ?_) fun ev hm => ?_)
 ·refine QA (MW 1 (ND ?_))
  obtain rfl := HS hm
  exact RA [.bool false] (⟨rfl, bo.pk []⟩)
 refine KB (MW 1 (NO (GD hm fun kz jg fu => G_meet (fun a w' => ∃ (f6 : Unit), kz = .inl f6 ∧ Mem [] w w' [] ∧ Sat Tryz.f10.ntmps [(0, SL g d f)] a) ?_ ?_)))
 ·have hm := jg
  refine GT hm (fun ew hm => ?_) fun ew hm => ?_
  ·refine QA (wV (.agg #[SL Q h.1.Routes L, SL R h.1.Enabled N, SL S h.1.Raised O, SL T h.1.Cpus P]) dh (eL true 4 0 (bo.blk 5 rfl)) (MW 1 (GD hm fun k kg hm => WC ((c_i_StepMachine dh h.1 Q L (dt.r bo 0) R N (du.r bo 1) S O (dv.r bo 2) T P (dw.r2 bo 3 4) (⟨2, 0, 0, 0⟩ : MachStep) kg).mono ?_))))
   rintro e_ lx ⟨b1, bw, mt, b2, bx, mu, b3, bz, mv, b4, b0, mw, mx, rfl, jh, ji, jj, jk, g1⟩
   have h1 := bo.call g1
   refine ⟨_, rfl, ?_⟩
   refine MW 4 (wN (CE 32 [SN, SN, SN, SN]) h1 fun ib nq h2 => wS true 4 0 (.agg #[SL b1 k.1.Routes bw, SL b2 k.1.Enabled bx, SL b3 k.1.Raised bz, SL b4 k.1.Cpus b0]) 18 [SL b1 k.1.Routes bw, SL b2 k.1.Enabled bx, SL b3 k.1.Raised bz, SL b4 k.1.Cpus b0] h2 rfl fun d1 b7 => MW 2 (NA (wV (.agg #[SL b1 k.1.Routes bw, SL b2 k.1.Enabled bx, SL b3 k.1.Raised bz, SL b4 k.1.Cpus b0]) d1 (eL true 4 0 (b7.blk 18 rfl)) (wR 1 [(0, SL g d f), (17, pB y 0), (18, iv h.2), (19, pB z 0), (20, SL m i.2.1 l), (27, .bool k.2.2), (208, .agg #[SL b1 k.1.Routes bw, SL b2 k.1.Enabled bx, SL b3 k.1.Raised bz, SL b4 k.1.Cpus b0]), (209, iv h.2)] d1 (GD hm fun t kh hm => WC ((c_i_PendingOn d1 k.1 b1 bw (jh.r b7 13) b2 bx (ji.r b7 14) b3 bz (jj.r b7 15) b4 b0 (jk.r2 b7 16 17) h.2 kh).mono ?_))))))
   rintro e_ d2 ⟨af, aa, my, rfl, jl, g2⟩
   have b8 := b7.call g2
   refine ⟨_, rfl, ?_⟩
   refine MW 5 (NA (wV (.agg #[SL ap i.1.Routes al, SL aq i.1.Enabled am, SL ar i.1.Raised an, SL au i.1.Cpus ao]) d2 (eL true 4 0 (b8.blk 12 rfl)) (MW 1 (GD hm fun B ki hm => WC ((c_i_PendingOn d2 i.1 ap al (e8.r b8 6) aq am (e9.r b8 7) ar an (fa.r b8 8) au ao (fb.r2 b8 9 10) h.2 ki).mono ?_)))))
   rintro e_ d3 ⟨ax, aw, mz, rfl, jm, g3⟩
   have b9 := b8.call g3
   refine ⟨_, rfl, ?_⟩
   refine MW 5 (NA (wV (.agg #[SL Q h.1.Routes L, SL R h.1.Enabled N, SL S h.1.Raised O, SL T h.1.Cpus P]) d3 (eL true 4 0 (b9.blk 5 rfl)) (MW 1 (GD hm fun ah kj hm => WC ((c_i_RunningOn d3 h.1 Q L (dt.r b9 0) R N (du.r b9 1) S O (dv.r b9 2) T P (dw.r2 b9 3 4) h.2 kj).mono ?_)))))
   rintro e_ d4 ⟨a9, a8, m0, rfl, jn, g4⟩
   have ca := b9.call g4
   refine ⟨_, rfl, ?_⟩
   refine MW 5 (NA (wV (.agg #[SL ap i.1.Routes al, SL aq i.1.Enabled am, SL ar i.1.Raised an, SL au i.1.Cpus ao]) d4 (eL true 4 0 (ca.blk 12 rfl)) (wR 1 [(0, SL g d f), (20, SL m i.2.1 l), (27, .bool k.2.2), (28, SL af t.1 aa), (29, .bool t.2), (30, SL ax B.1 aw), (31, .bool B.2), (32, SL a9 ah.1 a8), (33, .bool ah.2), (226, .agg #[SL ap i.1.Routes al, SL aq i.1.Enabled am, SL ar i.1.Raised an, SL au i.1.Cpus ao]), (227, iv h.2)] d4 (GD hm fun av kk hm => WC ((c_i_RunningOn d4 i.1 ap al (e8.r ca 6) aq am (e9.r ca 7) ar an (fa.r ca 8) au ao (fb.r2 ca 9 10) h.2 kk).mono ?_)))))
   rintro e_ ay ⟨bm, bl, m1, rfl, jo, g5⟩
   have bp := ca.call g5
   refine ⟨_, rfl, ?_⟩
   refine MW 5 (NE (GD hm fun kw jp iy => G_meet (fun a w' => Mem [] w w' [] ∧ Sat Tryz.f10.ntmps [(0, SL g d f), (264, .bool kw)] a) ?_ ?_))
   ·have hm := jp
    refine GR (wR 3 [(0, SL g d f), (20, SL m i.2.1 l), (28, SL af t.1 aa), (29, .bool t.2), (30, SL ax B.1 aw), (31, .bool B.2), (32, SL a9 ah.1 a8), (33, .bool ah.2), (34, SL bm av.1 bl), (35, .bool av.2), (233, .bool (!k.2.2))] ay ?_)
    rcases gx_bif hm with ⟨ex, hm⟩ | ⟨ex, hm⟩
    ·refine wK 233 true ex (wR 31 [(0, SL g d f), (264, .bool true)] ay (WN ?_))
     obtain rfl := HS hm
     exact NM fun a ha => ⟨bp.pk [], ha.s⟩
    refine wK 233 false ex (wR 4 [(0, SL g d f), (20, SL m i.2.1 l), (28, SL af t.1 aa), (30, SL ax B.1 aw), (31, .bool B.2), (32, SL a9 ah.1 a8), (33, .bool ah.2), (34, SL bm av.1 bl), (35, .bool av.2), (237, .bool (!t.2))] ay ?_)
    rcases gx_bif hm with ⟨ey, hm⟩ | ⟨ey, hm⟩
    ·refine wK 237 true ey (wR 27 [(0, SL g d f), (264, .bool true)] ay (WN ?_))
     obtain rfl := HS hm
     exact NM fun a ha => ⟨bp.pk [], ha.s⟩
    refine wK 237 false ey (wR 4 [(0, SL g d f), (20, SL m i.2.1 l), (28, SL af t.1 aa), (30, SL ax B.1 aw), (32, SL a9 ah.1 a8), (33, .bool ah.2), (34, SL bm av.1 bl), (35, .bool av.2), (241, .bool (!B.2))] ay ?_)
    rcases gx_bif hm with ⟨ez, hm⟩ | ⟨ez, hm⟩
    ·refine wK 241 true ez (wR 23 [(0, SL g d f), (264, .bool true)] ay (WN ?_))
     obtain rfl := HS hm
     exact NM fun a ha => ⟨bp.pk [], ha.s⟩
    refine wK 241 false ez (wR 4 [(0, SL g d f), (20, SL m i.2.1 l), (28, SL af t.1 aa), (30, SL ax B.1 aw), (32, SL a9 ah.1 a8), (34, SL bm av.1 bl), (35, .bool av.2), (245, .bool (!ah.2))] ay ?_)
    rcases gx_bif hm with ⟨e0, hm⟩ | ⟨e0, hm⟩
    ·refine wK 245 true e0 (wR 19 [(0, SL g d f), (264, .bool true)] ay (WN ?_))
     obtain rfl := HS hm
     exact NM fun a ha => ⟨bp.pk [], ha.s⟩
    refine wK 245 false e0 (wR 4 [(0, SL g d f), (20, SL m i.2.1 l), (28, SL af t.1 aa), (30, SL ax B.1 aw), (32, SL a9 ah.1 a8), (34, SL bm av.1 bl), (249, .bool (!av.2))] ay ?_)
    rcases gx_bif hm with ⟨e1, hm⟩ | ⟨e1, hm⟩
    ·refine wK 249 true e1 (MW 15 (WN ?_))
     obtain rfl := HS hm
     exact NM fun a ha => ⟨bp.pk [], ha.s⟩
    refine wK 249 false e1 (MW 2 (GD hm fun k5 kl hm => WD (c_l_vInts ay ah.1 a9 a8 (jn.r bp 21) av.1 bm bl (jo.r bp 22) kl) bp fun gj fk => wR 3 [(0, SL g d f), (20, SL m i.2.1 l), (28, SL af t.1 aa), (30, SL ax B.1 aw), (255, .bool (!k5))] gj ?_))
    rcases gx_bif hm with ⟨e2, hm⟩ | ⟨e2, hm⟩
    ·refine wK 255 true e2 (MW 9 (WN ?_))
     obtain rfl := HS hm
     exact NM fun a ha => ⟨fk.pk [], ha.s⟩
    refine wK 255 false e2 (wL (E := Gx.encI) ([] : List Int) 0 [] 3 fk fun k0 ic m2 ly jq fl => MW 1 (GD hm fun ia iq hm => wA 8 [iv 0] 23 fl jq (fw.r fl 11) iq fun k1 ie m3 lz jr fm => MW 1 (GD hm fun d8 ir hm => wA 8 [iv 0] 23 fm jr (jm.r fm 20) ir fun fc ea m4 gk js d7 => MW 1 (GD hm fun k6 km hm => WD (c_l_vInts gk d8 fc ea (js.r d7 23) t.1 af aa (jl.r d7 19) km) d7 fun l0 h3 => MW 2 (WN ?_)))))
    obtain rfl := HS hm
    exact NM fun a ha => ⟨h3.pk [], ha.s⟩
   intro ma l1 ⟨fn, il⟩
   refine N_use il ?_
   have hm := iy
   refine TN (GT hm (fun e3 hm => ?_) fun e3 hm => ?_)
   ·refine QA (MW 1 (NC (N_meet_ret ?_)))
    obtain rfl := HS hm
    have hm := fu
    simp only [Sum.elim_inr] at hm
    refine TR ?_
    obtain rfl := HS hm
    exact RA [.bool false] (⟨rfl, fn.pk []⟩)
   refine GK ?_
   obtain rfl := HS hm
   exact NM fun a ha => ⟨_, rfl, fn.pk [], ha.s⟩
  refine GK ?_
  obtain rfl := HS hm
  exact NM fun a ha => ⟨_, rfl, bo.pk [], ha.s⟩
 intro mb gl ⟨f6, hout_, fo, im⟩
 refine N_use im ?_
 subst hout_
 have hm := fu
 simp only [Sum.elim_inl] at hm
 refine NF (wR 1 [(266, SL g d f)] gl (GD hm fun U kn hm => WC ((c_s_DrawNewMachine gl d g f (dm.mem0 fo) kn).mono ?_)))
 rintro e_ ff ⟨bg, bb, m5, rfl, fx, g8⟩
 have fp := fo.call g8
 refine ⟨_, rfl, ?_⟩
 refine MW 5 (NA (MW 2 (GD hm fun j ko hm => WC ((c_i_NewMachine ff U.1 bg bb (fx.r fp 0) U.2 ko).mono ?_))))
 rintro e_ l2 ⟨bh, bc, lj, bi, bd, lk, bj, be, ll, bk, bf, lm, ln, rfl, fy, fz, f0, f1, g9⟩
 have h4 := fp.call g9
 refine ⟨_, rfl, ?_⟩
 refine MW 3 (wN (CE 32 [SN, SN, SN, SN]) h4 fun ba nr h5 => wS true 4 0 (.agg #[SL bh j.1.Routes bc, SL bi j.1.Enabled bd, SL bj j.1.Raised be, SL bk j.1.Cpus bf]) 6 [SL bh j.1.Routes bc, SL bi j.1.Enabled bd, SL bj j.1.Raised be, SL bk j.1.Cpus bf] h5 rfl fun fg fq => MW 1 (NB (MW 2 (GD hm fun v kp hm => WC ((c_s_NewMachine fg U.1 bg bb (fx.r fq 0) U.2 kp).mono ?_)))))
 rintro e_ l3 ⟨cx, ck, m6, cy, cl, m7, cz, cm, m8, c0, cn, m9, na, rfl, jt, ju, jv, jw, hb⟩
 have h6 := fq.call hb
 refine ⟨_, rfl, ?_⟩
 refine MW 3 (wN (CE 32 [SN, SN, SN, SN]) h6 fun fs ns h7 => wS true 4 0 (.agg #[SL cx v.1.Routes ck, SL cy v.1.Enabled cl, SL cz v.1.Raised cm, SL c0 v.1.Cpus cn]) 12 [SL cx v.1.Routes ck, SL cy v.1.Enabled cl, SL cz v.1.Raised cm, SL c0 v.1.Cpus cn] h7 rfl fun c2 a0 => wR 1 [(38, pB ba 0), (39, .bool j.2), (40, pB fs 0), (41, .bool v.2)] c2 (NE (GD hm fun kx jx iz => G_meet (fun a w' => Mem [] w w' [lj, lk, ll, lm, ln, (BK ba 32 [SL bh j.1.Routes bc, SL bi j.1.Enabled bd, SL bj j.1.Raised be, SL bk j.1.Cpus bf])] ∧ Sat Tryz.f10.ntmps [(38, pB ba 0), (39, .bool j.2), (290, .bool kx)] a) ?_ ?_)))
 ·have hm := jx
  refine GR (wR 4 [(38, pB ba 0), (39, .bool j.2), (40, pB fs 0), (285, .bool (!(j.2 == v.2)))] c2 ?_)
  rcases gx_bif hm with ⟨e4, hm⟩ | ⟨e4, hm⟩
  ·refine wK 285 true e4 (MW 5 (WN ?_))
   obtain rfl := HS hm
   exact NM fun a ha => ⟨a0.pk [1, 2, 3, 4, 5, 6], ha.s⟩
  refine wK 285 false e4 (wV (.agg #[SL bh j.1.Routes bc, SL bi j.1.Enabled bd, SL bj j.1.Raised be, SL bk j.1.Cpus bf]) c2 (eL true 4 0 (a0.blk 6 rfl)) (wV (.agg #[SL cx v.1.Routes ck, SL cy v.1.Enabled cl, SL cz v.1.Raised cm, SL c0 v.1.Cpus cn]) c2 (eL true 4 0 (a0.blk 12 rfl)) (GD hm fun k7 kq hm => WD (c_l_vMachine c2 j.1 bh bc (fy.r a0 1) bi bd (fz.r a0 2) bj be (f0.r a0 3) bk bf (f1.r2 a0 4 5) v.1 cx ck (jt.r a0 7) cy cl (ju.r a0 8) cz cm (jv.r a0 9) c0 cn (jw.r2 a0 10 11) kq) a0 fun l4 h8 => MW 2 (WN ?_))))
  obtain rfl := HS hm
  exact NM fun a ha => ⟨h8.pk [1, 2, 3, 4, 5, 6], ha.s⟩
 intro mc di ⟨bq, io⟩
 refine N_use io ?_
 have hm := iz
 refine TN (GT hm (fun e5 hm => ?_) fun e5 hm => ?_)
 ·refine QA (MW 1 (ND ?_))
  obtain rfl := HS hm
  exact RA [.bool false] (⟨rfl, bq.pk []⟩)
 refine KB (MW 1 (NO (GT hm (fun e6 hm => ?_) fun e6 hm => ?_)))
 ·refine QA (wV (.agg #[SL bh j.1.Routes bc, SL bi j.1.Enabled bd, SL bj j.1.Raised be, SL bk j.1.Cpus bf]) di (eL true 4 0 (bq.blk 5 rfl)) (GD hm fun dc kr hm => WD (c_i_IsIdle di j.1 bh bc (fy.r bq 0) bi bd (fz.r bq 1) bj be (f0.r bq 2) bk bf (f1.r2 bq 3 4) kr) bq fun d5 fr => MW 5 (NE (GD hm fun f7 jy i0 => G_meet (fun a w' => Mem [] w w' [] ∧ Sat Tryz.f10.ntmps [(2, .bool f7)] a) ?_ ?_))))
  ·have hm := jy
   refine GR (wR 2 [(42, .bool dc.1), (298, .bool dc.2)] d5 ?_)
   rcases gx_bif hm with ⟨e7, hm⟩ | ⟨e7, hm⟩
   ·refine wK 298 true e7 (MW 3 (WN ?_))
    obtain rfl := HS hm
    exact NM fun a ha => ⟨fr.pk [], ha.s⟩
   refine wK 298 false e7 (MW 3 (WN ?_))
   obtain rfl := HS hm
   exact NM fun a ha => ⟨fr.pk [], ha.s⟩
  intro md nt ⟨h9, ip⟩
  refine N_use ip ?_
  have hm := i0
  refine TN (G_ret (TR ?_))
  obtain rfl := HS hm
  exact RA [.bool f7] (⟨rfl, h9.pk []⟩)
 refine KA (MW 1 (NC ?_))
 obtain rfl := HS hm
 exact RA [.bool true] (⟨rfl, bq.pk []⟩)
end Go.Proofs.YtllhajkgkghhdaaGreat
set_option linter.unusedVariables false
set_option linter.unusedSimpArgs false
namespace Go.Gx
theorem w64_id {z : Int} (h1 : -9223372036854775808 ≤ z) (h2 : z ≤ 9223372036854775807) : w64 z = z := by
  unfold w64
  simp [IntKind.wrap, IntKind.bits, IntKind.signed, Int.bmod]
  omega
theorem while_for {σ ρ : Type} {body : σ → Option (σ ⊕ ρ)} (st : Nat → σ) (r : ρ) : ∀ (n k fuel : Nat), (∀ i, k ≤ i → i < k + n → body (st i) = some (.inl (st (i + 1)))) → body (st (k + n)) = some (.inr r) → n < fuel → whileM body fuel (st k) = some r
  | 0, k, fuel, _, he, hf => by
    obtain ⟨m, rfl⟩ : ∃ m, fuel = m + 1 := ⟨fuel - 1, by omega⟩
    rw [Nat.add_zero] at he
    simp only [whileM, he]
  | n + 1, k, fuel, h, he, hf => by
    obtain ⟨m, rfl⟩ : ∃ m, fuel = m + 1 := ⟨fuel - 1, by omega⟩
    simp only [whileM, h k (Nat.le_refl _) (by omega)]
    exact while_for st r n (k + 1) m (fun i h1 h2 => h i (by omega) (by omega)) (by rw [show k + 1 + n = k + (n + 1) by omega]; exact he) (by omega)
theorem while_run {σ ρ : Type} {body : σ → Option (σ ⊕ ρ)} {s0 : σ} (st : Nat → σ) (r : ρ) (n : Nat) (h0 : s0 = st 0) (hn : n ≤ 4611686018427387904) (h : ∀ i, i < n → body (st i) = some (.inl (st (i + 1)))) (he : body (st n) = some (.inr r)) : whileM body gxFuel s0 = some r := by
  rw [h0]
  exact while_for st r n 0 gxFuel (fun i _ h2 => h i (by omega)) (by rw [Nat.zero_add]; exact he) (by unfold gxFuel; omega)
theorem gxIdx_nat {α : Type} {xs : List α} {i : Nat} (h : i < xs.length) : gxIdx xs (i : Int) = some xs[i] := by
  unfold gxIdx
  rw [if_pos (by omega), Int.toNat_natCast, List.getElem?_eq_getElem h]
theorem w64_succ {i : Nat} (h : i ≤ 4611686018427387904) : w64 ((i : Int) + 1) = ((i + 1 : Nat) : Int) := by
  rw [w64_id (by omega) (by omega)]; omega
theorem gxApp_ok {α : Type} {B : Nat} {xs ys : List α} (h : (xs.length + ys.length) * B ≤ 140737488355328) : gxApp B xs ys = some (xs ++ ys) := by
  unfold gxApp
  rw [if_pos h]
def okU (n : Int) : Prop := (Lit.int .u8 n).wf = true
def okS (s : ByteArray) : Prop := s.size ≤ maxLen
def okL {α : Type} (ok : α → Prop) (xs : List α) : Prop := xs.length ≤ 9223372036854775807 ∧ ∀ x ∈ xs, ok x
end Go.Gx
set_option linter.unusedVariables false
set_option linter.unusedSimpArgs false
set_option maxHeartbeats 4000000
namespace Go.Proofs.YtllhajkgkghhdaaGreat
open Go.Gx
theorem s_in (x a b : Int) : M.s_l1In x a b = some (decide (a ≤ x) && decide (x ≤ b)) := by
  unfold M.s_l1In
  by_cases h : x ≥ a <;> simp [h]
theorem i_in (x a b : Int) : M.i_inside x a b = some (decide (a ≤ x) && decide (x ≤ b)) := by
  unfold M.i_inside
  by_cases h : x ≥ a <;> simp [h]
theorem while_first {σ ρ : Type} {body : σ → Option (σ ⊕ ρ)} {s0 : σ} (st : Nat → σ) (p : Nat → Bool) (hit : Nat → ρ) (r : ρ) (n : Nat) (h0 : s0 = st 0) (hn : n ≤ 4611686018427387904) (h : ∀ i, i < n → body (st i) = some (bif p i then .inr (hit i) else .inl (st (i + 1)))) (he : body (st n) = some (.inr r)) :
    whileM body gxFuel s0 = some (match (List.range n).find? p with
      | some i => hit i
      | none => r) := by
  cases hf : (List.range n).find? p with
  | none =>
    rw [List.find?_eq_none] at hf
    refine while_run st r n h0 hn (fun i hi => ?_) he
    have : p i = false := by
      have := hf i (List.mem_range.2 hi)
      simpa using this
    rw [h i hi, this]
    rfl
  | some i =>
    rw [List.find?_range_eq_some] at hf
    obtain ⟨h1, h2, h3⟩ := hf
    have hi : i < n := List.mem_range.1 h2
    refine while_run st (hit i) i h0 (by omega) (fun j hj => ?_) (by rw [h i hi, h1]; rfl)
    have : p j = false := by
      have := h3 j hj
      simpa using this
    rw [h j (by omega), this]
    rfl
theorem while_all {σ ρ : Type} {body : σ → Option (σ ⊕ ρ)} {s0 : σ} (st : Nat → σ) (ok : Nat → Bool) (bad r : ρ) (n : Nat) (h0 : s0 = st 0) (hn : n ≤ 4611686018427387904) (h : ∀ i, i < n → body (st i) = some (bif ok i then .inl (st (i + 1)) else .inr bad)) (he : body (st n) = some (.inr r)) :
    whileM body gxFuel s0 = some (bif (List.range n).all ok then r else bad) := by
  rw [while_first st (fun i => !(ok i)) (fun _ => bad) r n h0 hn (fun i hi => by rw [h i hi]; cases ok i <;> rfl) he]
  cases hf : (List.range n).find? (fun i => !(ok i)) with
  | none =>
    rw [List.find?_eq_none] at hf
    have : (List.range n).all ok = true := List.all_eq_true.2 fun i hi => by simpa using hf i hi
    rw [this]
    rfl
  | some i =>
    have h1 := List.find?_some hf
    have h2 := List.mem_of_find?_eq_some hf
    have : (List.range n).all ok = false := by
      rw [List.all_eq_false]
      exact ⟨i, h2, by simpa using h1⟩
    rw [this]
    rfl
theorem getD_at {α : Type} {xs : List α} {i : Nat} {z : α} (h : i < xs.length) : xs.getD i z = xs[i] := by
  rw [List.getD_eq_getElem?_getD, List.getElem?_eq_getElem h]; rfl
def fitIf (x : Interface) : Prop := x.Stack.length ≤ 1048576 ∧ x.Queue.Slots.length ≤ 1048576 ∧ x.Queue.Waiting.length ≤ 1048576
def wIf (x : Interface) : Nat := 1 + x.Stack.length + 3 * x.Queue.Slots.length + 2 * x.Queue.Waiting.length
def wIfs (xs : List Interface) : Nat := (xs.map wIf).sum
def fitM (m : Machine) : Prop := m.Routes.length ≤ 1048576 ∧ m.Enabled.length ≤ 1048576 ∧ m.Raised.length ≤ 1048576 ∧ m.Cpus.length ≤ 1048576 ∧ (∀ x ∈ m.Cpus, fitIf x) ∧ wIfs m.Cpus ≤ 1099500000000
def okRt (c : Int) (r : Route) : Bool := (decide (0 ≤ r.Priority) && decide (r.Priority ≤ 15)) && (decide (0 ≤ r.Target) && decide (r.Target ≤ w64 (c - 1)))
def okRts (xs : List Route) (c : Int) : Bool := (decide (1 ≤ c) && decide (c ≤ 2)) && (((xs.length : Int) == 8) && (List.range xs.length).all (fun i => okRt c (xs.getD i ⟨0, 0⟩)))
theorem s_routes (xs : List Route) (c : Int) (h : xs.length ≤ 1048576) : M.s_l21Routes xs c = some (okRts xs c) := by
  unfold M.s_l21Routes okRts
  rw [while_all (fun i => (i : Int)) (fun i => okRt c (xs.getD i ⟨0, 0⟩)) (.inr false) (.inl ()) xs.length (by simp) (by omega)]
  · cases (List.range xs.length).all (fun i => okRt c (xs.getD i ⟨0, 0⟩)) with
    | false => simp
    | true =>
      simp only [cond_true, Option.bind_some, Sum.elim_inl, s_in, Bool.and_true]
      cases (decide (1 ≤ c) && decide (c ≤ 2)) <;> rfl
  · intro i hi
    have e0 : ((i : Int) < (xs.length : Int)) := by omega
    simp only [e0, decide_true, cond_true, gxIdx_nat hi, Option.bind_some, M.s_l6Prio, s_in, getD_at hi, w64_succ (show i ≤ 4611686018427387904 by omega)]
    unfold okRt
    cases (decide (0 ≤ xs[i].Priority) && decide (xs[i].Priority ≤ 15)) with
    | false => rfl
    | true =>
      simp only [Bool.not_true, cond_false, Option.bind_some, Bool.true_and]
      cases (decide (0 ≤ xs[i].Target) && decide (xs[i].Target ≤ w64 (c - 1))) <;> rfl
  · simp
def freshIf : Interface := ⟨16, [], ⟨[⟨0, 0, 0⟩, ⟨0, 0, 0⟩, ⟨0, 0, 0⟩, ⟨0, 0, 0⟩], []⟩⟩
end Go.Proofs.YtllhajkgkghhdaaGreat
set_option linter.unusedVariables false
set_option linter.unusedSimpArgs false
set_option maxHeartbeats 4000000
namespace Go.Proofs.YtllhajkgkghhdaaGreat
open Go.Gx
theorem while_upto {σ ρ : Type} {body : σ → Option (σ ⊕ ρ)} {s0 : σ} (st : Nat → σ) (ok : Nat → Bool) (bad r : ρ) (n : Nat) (h0 : s0 = st 0) (hn : n ≤ 4611686018427387904) (h : ∀ i, i < n → (∀ j, j < i → ok j = true) → body (st i) = some (bif ok i then .inl (st (i + 1)) else .inr bad)) (he : (∀ j, j < n → ok j = true) → body (st n) = some (.inr r)) :
    whileM body gxFuel s0 = some (bif (List.range n).all ok then r else bad) := by
  cases hf : (List.range n).find? (fun i => !(ok i)) with
  | none =>
    have hall : ∀ j, j < n → ok j = true := fun j hj => by
      have := List.find?_eq_none.1 hf j (List.mem_range.2 hj)
      simpa using this
    have : (List.range n).all ok = true := List.all_eq_true.2 fun j hj => hall j (List.mem_range.1 hj)
    rw [this]
    refine while_run st _ n h0 hn (fun i hi => ?_) (he hall)
    rw [h i hi (fun j hj => hall j (by omega)), hall i hi]
    rfl
  | some i =>
    obtain ⟨h1, h2, h3⟩ := List.find?_range_eq_some.1 hf
    have h2 := List.mem_range.1 h2
    have hb : ∀ j, j < i → ok j = true := fun j hj => by simpa using h3 j hj
    have hi : ok i = false := by simpa using h1
    have : (List.range n).all ok = false := List.all_eq_false.2 ⟨i, List.mem_range.2 h2, by simp [hi]⟩
    rw [this]
    refine while_run st _ i h0 (by omega) (fun j hj => ?_) ?_
    · rw [h j (by omega) (fun k hk => hb k (by omega)), hb j hj]
      rfl
    · rw [h i h2 hb, hi]
      rfl
theorem nodup_bound : ∀ (n : Nat) (l : List Nat), l.Nodup → (∀ x ∈ l, x < n) → l.length ≤ n
  | 0, [], _, _ => Nat.le_refl _
  | 0, x :: r, _, h => absurd (h x List.mem_cons_self) (Nat.not_lt_zero _)
  | n + 1, l, hd, h => by
    by_cases hn : n ∈ l
    · have hp := List.perm_cons_erase hn
      have hd2 := hp.nodup_iff.1 hd
      rw [List.nodup_cons] at hd2
      have hl := hp.length_eq
      have := nodup_bound n (l.erase n) hd2.2 fun x hx => by
        have h1 := h x (List.mem_of_mem_erase hx)
        have h2 : x ≠ n := fun e => hd2.1 (e ▸ hx)
        omega
      rw [List.length_cons] at hl
      omega
    · have := nodup_bound n l hd fun x hx => by
        have h1 := h x hx
        have h2 : x ≠ n := fun e => hn (e ▸ hx)
        omega
      omega
theorem nodup_perm {α : Type} [BEq α] [LawfulBEq α] : ∀ {a b : List α}, a.Nodup → (∀ x ∈ a, x ∈ b) → b.length ≤ a.length → a.Perm b
  | [], b, _, _, hl => by
    have : b = [] := List.length_eq_zero_iff.1 (by simpa using hl)
    rw [this]
  | x :: t, b, hd, h, hl => by
    rw [List.nodup_cons] at hd
    have hp := List.perm_cons_erase (h x List.mem_cons_self)
    have hlen := hp.length_eq
    have := nodup_perm (a := t) (b := b.erase x) hd.2 (fun y hy => by
      have h1 := hp.mem_iff.1 (h y (List.mem_cons_of_mem _ hy))
      rcases List.mem_cons.1 h1 with e | e
      · exact absurd (e ▸ hy) hd.1
      · exact e) (by simp at hl hlen; omega)
    exact (this.cons x).trans hp.symm
theorem first_lt {n : Nat} {p : Nat → Bool} : (match (List.range n).find? p with | some i => (i : Int) | none => -1) < 0 ↔ ∀ i, i < n → p i = false := by
  cases hf : (List.range n).find? p with
  | none =>
    simp only
    refine ⟨fun _ i hi => ?_, fun _ => by omega⟩
    have := List.find?_eq_none.1 hf i (List.mem_range.2 hi)
    simpa using this
  | some i =>
    obtain ⟨h1, h2, _⟩ := List.find?_range_eq_some.1 hf
    simp only
    refine ⟨fun h => by omega, fun h => ?_⟩
    rw [h i (List.mem_range.1 h2)] at h1
    cases h1
def gS : Slot := ⟨0, 0, 0⟩
def mtS (q : Int) (s : Slot) : Bool := s.State != 0 && s.Irq == q
def fndS (xs : List Slot) (q : Int) : Int := match (List.range xs.length).find? (fun i => mtS q (xs.getD i gS)) with
  | some i => (i : Int)
  | none => -1
theorem s_find (xs : List Slot) (q : Int) (h : xs.length ≤ 1048576) : M.s_l8Find xs q = some (fndS xs q) := by
  unfold M.s_l8Find fndS
  rw [while_first (fun i => (i : Int)) (fun i => mtS q (xs.getD i gS)) (fun i => (Sum.inr (i : Int) : Unit ⊕ Int)) (Sum.inl ()) xs.length (by simp) (by omega)]
  · cases (List.range xs.length).find? (fun i => mtS q (xs.getD i gS)) <;> rfl
  · intro i hi
    have e0 : ((i : Int) < (xs.length : Int)) := by omega
    simp only [e0, decide_true, cond_true, gxIdx_nat hi, Option.bind_some, getD_at hi, w64_succ (show i ≤ 4611686018427387904 by omega), mtS]
    cases (xs[i].State != 0) with
    | false => rfl
    | true => cases (xs[i].Irq == q) <;> rfl
  · simp
theorem i_find (xs : List Slot) (q : Int) (h : xs.length ≤ 1048576) : M.i_findSlot xs q = some (fndS xs q) := by
  unfold M.i_findSlot M.slices_IndexFunc_210__i_findSlot_1 fndS
  rw [while_first (fun i => (i : Int)) (fun i => mtS q (xs.getD i gS)) (fun i => (Sum.inr (i : Int) : Unit ⊕ Int)) (Sum.inl ()) xs.length (by simp) (by omega)]
  · cases (List.range xs.length).find? (fun i => mtS q (xs.getD i gS)) <;> rfl
  · intro i hi
    have e0 : ((i : Int) < (xs.length : Int)) := by omega
    simp only [e0, decide_true, cond_true, gxIdx_nat hi, Option.bind_some, getD_at hi, w64_succ (show i ≤ 4611686018427387904 by omega), mtS, M.i_findSlot_1]
    cases (xs[i].State != 0) with
    | false => rfl
    | true => cases (xs[i].Irq == q) <;> rfl
  · simp
theorem fndS_neg {xs : List Slot} {q : Int} : fndS xs q < 0 ↔ ∀ i, (hi : i < xs.length) → mtS q xs[i] = false := by
  unfold fndS
  rw [first_lt]
  exact ⟨fun h i hi => by have := h i hi; rwa [getD_at hi] at this, fun h i hi => by rw [getD_at hi]; exact h i hi⟩
theorem fndS_at {xs : List Slot} {q : Int} (h : ¬ fndS xs q < 0) : ∃ i, ∃ hi : i < xs.length, fndS xs q = (i : Int) ∧ mtS q xs[i] = true ∧ ∀ j, (hj : j < i) → mtS q (xs[j]'(by omega)) = false := by
  unfold fndS at h ⊢
  cases hf : (List.range xs.length).find? (fun i => mtS q (xs.getD i gS)) with
  | none => rw [hf] at h; simp at h
  | some i =>
    obtain ⟨h1, h2, h3⟩ := List.find?_range_eq_some.1 hf
    have h2 := List.mem_range.1 h2
    rw [getD_at h2] at h1
    refine ⟨i, h2, rfl, h1, fun j hj => ?_⟩
    have := h3 j hj
    rw [getD_at (show j < xs.length by omega)] at this
    simpa using this
def inR (x a b : Int) : Bool := decide (a ≤ x) && decide (x ≤ b)
def freshS (xs : List Slot) (i : Nat) : Bool := (List.range i).all fun j => !(mtS (xs.getD i gS).Irq (xs.getD j gS))
def okSl (xs : List Slot) (i : Nat) : Bool := inR (xs.getD i gS).State 0 3 && (inR (xs.getD i gS).Irq 0 7 && (inR (xs.getD i gS).Priority 0 15 && (bif (xs.getD i gS).State == 0 then (xs.getD i gS).Irq == 0 && (xs.getD i gS).Priority == 0 else freshS xs i)))
def goodS (xs : List Slot) : Bool := (xs.length : Int) == 4 && (List.range xs.length).all (okSl xs)
theorem fresh_find {xs : List Slot} {i : Nat} (hi : i < xs.length) (hs : (xs[i].State == 0) = false) : (fndS xs xs[i].Irq != (i : Int)) = !(freshS xs i) := by
  have hm : mtS xs[i].Irq xs[i] = true := by unfold mtS; simp [bne, hs]
  have hnn : ¬ fndS xs xs[i].Irq < 0 := fun h => by rw [fndS_neg.1 h i hi] at hm; cases hm
  obtain ⟨k, hk, he, h1, h2⟩ := fndS_at hnn
  cases hf : freshS xs i with
  | true =>
    unfold freshS at hf
    rw [List.all_eq_true] at hf
    have hki : k = i := by
      rcases Nat.lt_trichotomy k i with h | h | h
      · have := hf k (List.mem_range.2 h)
        rw [getD_at hi, getD_at hk, h1] at this
        cases this
      · exact h
      · have := h2 i h
        rw [hm] at this
        cases this
    rw [he, hki]
    simp
  | false =>
    unfold freshS at hf
    rw [List.all_eq_false] at hf
    obtain ⟨j, hj, hjf⟩ := hf
    have hj := List.mem_range.1 hj
    rw [getD_at hi, getD_at (show j < xs.length by omega)] at hjf
    have hkj : k ≠ i := fun e => by
      have := h2 j (by omega)
      rw [this] at hjf
      simp at hjf
    rw [he]
    simp
    omega
theorem fresh_take {xs : List Slot} {i : Nat} (hi : i < xs.length) : decide (fndS (xs.take i) xs[i].Irq ≥ 0) = !(freshS xs i) := by
  have hl : (xs.take i).length = i := by simp; omega
  cases hf : freshS xs i with
  | true =>
    unfold freshS at hf
    rw [List.all_eq_true] at hf
    have : fndS (xs.take i) xs[i].Irq < 0 := fndS_neg.2 fun j hj => by
      have hji : j < i := by omega
      have := hf j (List.mem_range.2 hji)
      rw [getD_at hi, getD_at (show j < xs.length by omega)] at this
      rw [List.getElem_take]
      simpa using this
    have : ¬ (fndS (xs.take i) xs[i].Irq ≥ 0) := by omega
    simp [this]
  | false =>
    unfold freshS at hf
    rw [List.all_eq_false] at hf
    obtain ⟨j, hj, hjf⟩ := hf
    have hj := List.mem_range.1 hj
    rw [getD_at hi, getD_at (show j < xs.length by omega)] at hjf
    have : ¬ fndS (xs.take i) xs[i].Irq < 0 := fun h => by
      have := fndS_neg.1 h j (by omega)
      rw [List.getElem_take] at this
      rw [this] at hjf
      simp at hjf
    have : fndS (xs.take i) xs[i].Irq ≥ 0 := by omega
    simp [this]
theorem s_goodS (xs : List Slot) (h : xs.length ≤ 1048576) : M.s_l8Good xs = some (goodS xs) := by
  unfold M.s_l8Good goodS
  rw [while_all (fun i => (i : Int)) (okSl xs) (Sum.inr false : Unit ⊕ Bool) (Sum.inl ()) xs.length (by simp) (by omega)]
  · cases (List.range xs.length).all (okSl xs) <;> simp
  · intro i hi
    have e0 : ((i : Int) < (xs.length : Int)) := by omega
    simp only [e0, decide_true, cond_true, gxIdx_nat hi, Option.bind_some, M.s_l6Irq, M.s_l6Prio, s_in, w64_succ (show i ≤ 4611686018427387904 by omega)]
    unfold okSl inR
    rw [getD_at hi]
    cases (decide (0 ≤ xs[i].State) && decide (xs[i].State ≤ 3)) with
    | false => rfl
    | true => cases (decide (0 ≤ xs[i].Irq) && decide (xs[i].Irq ≤ 7)) with
      | false => rfl
      | true => cases (decide (0 ≤ xs[i].Priority) && decide (xs[i].Priority ≤ 15)) with
        | false => rfl
        | true =>
          cases hs : (xs[i].State == 0) with
          | true =>
            simp only [Bool.not_true, cond_false, cond_true, Option.bind_some, Bool.true_and, bne, hs]
            cases (xs[i].Irq == 0) with
            | false => rfl
            | true => cases (xs[i].Priority == 0) <;> rfl
          | false =>
            have := fresh_find hi hs
            simp only [Bool.not_true, Bool.not_false, cond_false, cond_true, Option.bind_some, Bool.true_and, bne, hs, s_find xs _ h] at this ⊢
            rw [this]
            cases freshS xs i <;> rfl
  · simp
theorem i_goodS (xs : List Slot) (h : xs.length ≤ 1048576) : M.i_AreSlots xs = some (goodS xs) := by
  unfold M.i_AreSlots goodS
  cases h4 : ((xs.length : Int) == 4) with
  | false => simp only [bne, h4, Bool.not_false, cond_true, Bool.false_and]
  | true =>
    simp only [bne, h4, Bool.not_true, cond_false, Bool.true_and]
    rw [while_all (fun i => (i : Int)) (okSl xs) (Sum.inr false : Unit ⊕ Bool) (Sum.inl ()) xs.length (by simp) (by omega)]
    · cases (List.range xs.length).all (okSl xs) <;> simp
    · intro i hi
      have e0 : ((i : Int) < (xs.length : Int)) := by omega
      have hsl : gxSlice xs 0 (i : Int) = some (xs.take i) := by
        unfold gxSlice
        rw [if_pos ⟨by omega, by omega, by omega⟩]
        simp
      have hfd := i_find (xs.take i) xs[i].Irq (by simp; omega)
      simp only [e0, decide_true, cond_true, gxIdx_nat hi, Option.bind_some, M.i_isIrq, M.i_isPriority, i_in, w64_succ (show i ≤ 4611686018427387904 by omega), hsl, hfd, fresh_take hi]
      unfold okSl inR
      rw [getD_at hi]
      cases hs : (xs[i].State == 0) with
      | true =>
        have hs0 : xs[i].State = 0 := by simpa using hs
        simp only [cond_true, hs, Bool.true_and, Bool.and_true, hs0]
        cases h1 : (xs[i].Irq == 0) with
        | false => simp
        | true => cases h2 : (xs[i].Priority == 0) with
          | false => simp
          | true =>
            have h1 : xs[i].Irq = 0 := by simpa using h1
            have h2 : xs[i].Priority = 0 := by simpa using h2
            simp [h1, h2]
      | false =>
        have hs0 : xs[i].State ≠ 0 := by simpa using hs
        have e1 : (decide (1 ≤ xs[i].State) && decide (xs[i].State ≤ 3)) = (decide (0 ≤ xs[i].State) && decide (xs[i].State ≤ 3)) := by
          rw [Bool.eq_iff_iff]
          simp only [Bool.and_eq_true, decide_eq_true_eq]
          omega
        simp only [cond_false, e1]
        cases (decide (0 ≤ xs[i].State) && decide (xs[i].State ≤ 3)) with
        | false => rfl
        | true => cases (decide (0 ≤ xs[i].Irq) && decide (xs[i].Irq ≤ 7)) with
          | false => rfl
          | true => cases (decide (0 ≤ xs[i].Priority) && decide (xs[i].Priority ≤ 15)) with
            | false => rfl
            | true =>
              simp only [Bool.not_true, cond_false, Option.bind_some, Bool.true_and]
              cases freshS xs i <;> rfl
    · simp
def lessU (p q r s : Int) : Bool := decide (p < r) || (p == r && decide (q < s))
theorem s_less (p q r s : Int) : M.s_l8Less p q r s = some (lessU p q r s) := by
  unfold M.s_l8Less lessU
  by_cases h : p < r
  · simp [h]
  · simp only [h, decide_false, cond_false, Bool.false_or]
    cases (p == r) <;> rfl
def cmpI (a b : Int) : Int := if a < b then -1 else if a > b then 1 else 0
theorem i_cmp (a b : Int) : M.cmp_Compare_170 a b = some (cmpI a b) := by
  unfold M.cmp_Compare_170 M.cmp_isNaN_222 cmpI
  simp only [bne_self_eq_false, Option.bind_some, cond_false]
  by_cases h : a < b
  · simp [h]
  · by_cases h2 : a > b
    · simp [h, h2]
    · simp [h, h2]
def cmpU (a b : Waiter) : Int := if cmpI a.Priority b.Priority ≠ 0 then cmpI a.Priority b.Priority else cmpI a.Irq b.Irq
theorem i_cmpU (a b : Waiter) : M.i_compareUrgency a b = some (cmpU a b) := by
  unfold M.i_compareUrgency M.cmp_Or_169 cmpU
  simp only [i_cmp, Option.bind_some]
  by_cases h1 : cmpI a.Priority b.Priority = 0
  · by_cases h2 : cmpI a.Irq b.Irq = 0
    · rw [while_run (fun i => (i : Int)) (Sum.inl ()) 2 (by simp) (by omega)]
      · simp [h1, h2]
      · intro i hi
        have hi' : i = 0 ∨ i = 1 := by omega
        rcases hi' with rfl | rfl <;> simp [gxIdx, h1, h2] <;> rfl
      · rfl
    · rw [while_run (fun i => (i : Int)) (Sum.inr (cmpI a.Irq b.Irq)) 1 (by simp) (by omega)]
      · simp [h1]
      · intro i hi
        have hi' : i = 0 := by omega
        subst hi'
        simp [gxIdx, h1]
        rfl
      · simp [gxIdx, bne_iff_ne.2 h2]
  · rw [while_run (fun i => (i : Int)) (Sum.inr (cmpI a.Priority b.Priority)) 0 (by simp) (by omega)]
    · simp [h1]
    · intro i hi; omega
    · simp [gxIdx, bne_iff_ne.2 h1]
theorem cmpU_lt (a b : Waiter) : decide (cmpU a b < 0) = lessU a.Priority a.Irq b.Priority b.Irq := by
  unfold cmpU cmpI lessU
  rw [Bool.eq_iff_iff]
  simp only [decide_eq_true_eq, Bool.or_eq_true, Bool.and_eq_true, beq_iff_eq]
  by_cases h1 : a.Priority < b.Priority <;> by_cases h2 : a.Priority > b.Priority <;> by_cases h3 : a.Irq < b.Irq <;> by_cases h4 : a.Irq > b.Irq <;> simp [h1, h2, h3, h4] <;> omega
theorem cmpU_gt (a b : Waiter) : decide (cmpU a b > 0) = lessU b.Priority b.Irq a.Priority a.Irq := by
  unfold cmpU cmpI lessU
  rw [Bool.eq_iff_iff]
  simp only [decide_eq_true_eq, Bool.or_eq_true, Bool.and_eq_true, beq_iff_eq]
  by_cases h1 : a.Priority < b.Priority <;> by_cases h2 : a.Priority > b.Priority <;> by_cases h3 : a.Irq < b.Irq <;> by_cases h4 : a.Irq > b.Irq <;> simp [h1, h2, h3, h4] <;> omega
theorem cmpU_ge (a b : Waiter) : decide (cmpU a b ≥ 0) = !(lessU a.Priority a.Irq b.Priority b.Irq) := by
  rw [← cmpU_lt, ← decide_not]
  congr 1
  rw [eq_iff_iff]
  omega
end Go.Proofs.YtllhajkgkghhdaaGreat
set_option linter.unusedVariables false
set_option linter.unusedSimpArgs false
set_option maxHeartbeats 4000000
namespace Go.Proofs.YtllhajkgkghhdaaGreat
open Go.Gx
def gW : Waiter := ⟨0, 0⟩
def freshW (ws : List Waiter) (i : Nat) : Bool := (List.range i).all fun j => !((ws.getD j gW).Irq == (ws.getD i gW).Irq)
def okW (xs : List Slot) (ws : List Waiter) (i : Nat) : Bool := inR (ws.getD i gW).Irq 0 7 && (inR (ws.getD i gW).Priority 0 15 && (decide (fndS xs (ws.getD i gW).Irq < 0) && (freshW ws i && (decide (i = 0) || lessU (ws.getD (i - 1) gW).Priority (ws.getD (i - 1) gW).Irq (ws.getD i gW).Priority (ws.getD i gW).Irq))))
def goodP (xs : List Slot) (ws : List Waiter) : Bool := goodS xs && (List.range ws.length).all (okW xs ws)
theorem okW_irq {xs : List Slot} {ws : List Waiter} {i : Nat} (h : okW xs ws i = true) : (0 ≤ (ws.getD i gW).Irq ∧ (ws.getD i gW).Irq ≤ 7) ∧ ∀ j, j < i → (ws.getD j gW).Irq ≠ (ws.getD i gW).Irq := by
  unfold okW inR freshW at h
  simp only [Bool.and_eq_true, decide_eq_true_eq, List.all_eq_true] at h
  refine ⟨h.1, fun j hj => ?_⟩
  have := h.2.2.2.1 j (List.mem_range.2 hj)
  simpa using this
theorem w_len {xs : List Slot} {ws : List Waiter} (h : ∀ i, i < 9 → i < ws.length → okW xs ws i = true) : ws.length ≤ 8 := by
  by_cases hl : ws.length ≤ 8
  · exact hl
  · exfalso
    have h9 : ∀ i, i < 9 → okW xs ws i = true := fun i hi => h i hi (by omega)
    have := nodup_bound 8 ((List.range 9).map fun i => (ws.getD i gW).Irq.toNat) (by
      rw [List.Nodup, List.pairwise_map]
      refine List.Pairwise.imp_of_mem (fun {a b} ha hb hab => ?_) List.pairwise_lt_range
      have h1 := okW_irq (h9 a (List.mem_range.1 ha))
      have h2 := okW_irq (h9 b (List.mem_range.1 hb))
      have h3 := h2.2 a hab
      omega) (fun x hx => by
      obtain ⟨i, hi, rfl⟩ := List.mem_map.1 hx
      have h1 := okW_irq (h9 i (List.mem_range.1 hi))
      omega)
    simp at this
theorem gxIdx_prevZ {α : Type} {xs : List α} {i : Nat} {z : α} (h : i < xs.length) (h0 : 0 < i) (hl : i ≤ 4611686018427387904) : gxIdx xs (w64 ((i : Int) - 1)) = some (xs.getD (i - 1) z) := by
  rw [w64_id (by omega) (by omega)]
  obtain ⟨k, rfl⟩ : ∃ k, i = k + 1 := ⟨i - 1, by omega⟩
  have e : ((k + 1 : Nat) : Int) - 1 = (k : Int) := by omega
  rw [e, gxIdx_nat (by omega), Nat.add_sub_cancel, getD_at (by omega)]
theorem s_waiting (xs : List Slot) (ws : List Waiter) (hx : xs.length ≤ 1048576) (hw : ws.length ≤ 1048576) : M.s_l9Waiting xs ws = some (goodP xs ws) := by
  unfold M.s_l9Waiting
  rw [while_all (fun i => (i : Int)) (okW xs ws) (Sum.inr false : Unit ⊕ Bool) (Sum.inl ()) (min ws.length 9) (by simp) (by omega)]
  · have hval : (bif (List.range (min ws.length 9)).all (okW xs ws) then (goodS xs && decide ((ws.length : Int) ≤ 8)) else false) = goodP xs ws := by
      unfold goodP
      cases ha : (List.range (min ws.length 9)).all (okW xs ws) with
      | true =>
        rw [List.all_eq_true] at ha
        have h8 := w_len (xs := xs) (ws := ws) fun i h9 hi => ha i (List.mem_range.2 (by omega))
        have hall : (List.range ws.length).all (okW xs ws) = true := List.all_eq_true.2 fun i hi => ha i (List.mem_range.2 (by have := List.mem_range.1 hi; omega))
        have h8' : ((ws.length : Int) ≤ 8) := by omega
        simp [hall, h8']
      | false =>
        rw [List.all_eq_false] at ha
        obtain ⟨i, hi, hf⟩ := ha
        have hall : (List.range ws.length).all (okW xs ws) = false := List.all_eq_false.2 ⟨i, List.mem_range.2 (by have := List.mem_range.1 hi; omega), hf⟩
        simp [hall]
    rw [← hval]
    cases (List.range (min ws.length 9)).all (okW xs ws) with
    | false => simp
    | true =>
      simp only [cond_true, Option.bind_some, Sum.elim_inl, s_goodS xs hx]
      cases goodS xs <;> rfl
  · intro i hi
    have hi' : i < ws.length := by omega
    have e0 : ((i : Int) < (ws.length : Int)) := by omega
    have e8 : ((i : Int) ≤ 8) := by omega
    simp only [e0, e8, decide_true, cond_true, gxIdx_nat hi', Option.bind_some, M.s_l6Irq, M.s_l6Prio, s_in, s_find xs _ hx, s_less]
    unfold okW inR
    rw [getD_at hi']
    cases (decide (0 ≤ ws[i].Irq) && decide (ws[i].Irq ≤ 7)) with
    | false => rfl
    | true => cases (decide (0 ≤ ws[i].Priority) && decide (ws[i].Priority ≤ 15)) with
      | false => rfl
      | true =>
        by_cases hf : fndS xs ws[i].Irq < 0
        · have hf2 : ¬ (fndS xs ws[i].Irq ≥ 0) := by omega
          simp only [hf, hf2, decide_true, decide_false, Bool.not_true, cond_false, Option.bind_some, Bool.true_and]
          have hin : whileM (σ := Int) (ρ := (Unit) ⊕ (Bool)) (fun s1770 =>
              bif decide (s1770 < (i : Int)) then (Option.bind (gxIdx ws s1770) fun y1782 =>
              bif y1782.Irq == ws[i].Irq then some (.inr (.inr false))
              else some (.inl (w64 (s1770 + 1))))
              else some (.inr (.inl ()))) gxFuel 0 = some (bif freshW ws i then .inl () else .inr false) := by
            unfold freshW
            refine while_all (fun j => (j : Int)) (fun j => !((ws.getD j gW).Irq == (ws.getD i gW).Irq)) (Sum.inr false : Unit ⊕ Bool) (Sum.inl ()) i (by simp) (by omega) (fun j hj => ?_) ?_
            · have e1 : ((j : Int) < (i : Int)) := by omega
              simp only [e1, decide_true, cond_true, gxIdx_nat (show j < ws.length by omega), Option.bind_some, getD_at hi', getD_at (show j < ws.length by omega), w64_succ (show j ≤ 4611686018427387904 by omega)]
              cases (ws[j].Irq == ws[i].Irq) <;> rfl
            · simp
          by_cases h0 : i = 0
          · subst h0
            have hz : ¬ (((0 : Nat) : Int) > 0) := by omega
            simp only [hz, decide_false, cond_false, Option.bind_some, decide_true, Bool.true_or, Bool.and_true]
            rw [hin]
            cases freshW ws 0 <;> rfl
          · have hz : ((i : Int) > 0) := by omega
            simp only [hz, h0, decide_true, decide_false, cond_true, Option.bind_some, Bool.false_or, gxIdx_prevZ (z := gW) hi' (show 0 < i by omega) (by omega)]
            cases lessU (ws.getD (i - 1) gW).Priority (ws.getD (i - 1) gW).Irq ws[i].Priority ws[i].Irq with
            | false => simp
            | true =>
              simp only [Bool.not_true, cond_false, Bool.and_true]
              rw [hin, Option.bind_some]
              cases freshW ws i with
              | false => rfl
              | true =>
                simp only [cond_true, Sum.elim_inl, w64_succ (show i ≤ 4611686018427387904 by omega)]
        · have hf2 : (fndS xs ws[i].Irq ≥ 0) := by omega
          simp [hf, hf2]
  · by_cases hl : ws.length ≤ 9
    · have e1 : min ws.length 9 = ws.length := by omega
      rw [e1]
      simp
    · have e1 : min ws.length 9 = 9 := by omega
      have e2 : (((9 : Nat) : Int) < (ws.length : Int)) := by omega
      rw [e1]
      simp only [e2, decide_true, cond_true]
      rfl
theorem i_windex (ws : List Waiter) (i : Nat) (hi : i < ws.length) (hw : ws.length ≤ 1048576) : ∃ r, M.i_waiterIndex (ws.take i) ws[i].Irq = some r ∧ decide (r ≥ 0) = !(freshW ws i) := by
  unfold M.i_waiterIndex M.slices_IndexFunc_166__i_waiterIndex_1
  have hl : (ws.take i).length = i := by simp; omega
  rw [while_first (fun j => (j : Int)) (fun j => (ws.getD j gW).Irq == (ws.getD i gW).Irq) (fun j => (Sum.inr (j : Int) : Unit ⊕ Int)) (Sum.inl ()) i (by simp) (by omega)]
  · unfold freshW
    cases hf : (List.range i).find? (fun j => (ws.getD j gW).Irq == (ws.getD i gW).Irq) with
    | none =>
      have hall : (List.range i).all (fun j => !((ws.getD j gW).Irq == (ws.getD i gW).Irq)) = true := List.all_eq_true.2 fun j hj => by
        have := List.find?_eq_none.1 hf j hj
        simpa using this
      rw [hall]
      exact ⟨_, rfl, rfl⟩
    | some j =>
      obtain ⟨h1, h2, _⟩ := List.find?_range_eq_some.1 hf
      have hall : (List.range i).all (fun j => !((ws.getD j gW).Irq == (ws.getD i gW).Irq)) = false := List.all_eq_false.2 ⟨j, h2, by simpa using h1⟩
      rw [hall]
      have : ((j : Int) ≥ 0) := by omega
      exact ⟨_, rfl, by simp [this]⟩
  · intro j hj
    have e0 : ((j : Int) < ((ws.take i).length : Int)) := by omega
    have hj' : j < (ws.take i).length := by omega
    simp only [e0, decide_true, cond_true, gxIdx_nat hj', List.getElem_take, Option.bind_some, M.i_waiterIndex_1, getD_at hi, getD_at (show j < ws.length by omega), w64_succ (show j ≤ 4611686018427387904 by omega)]
    cases (ws[j].Irq == ws[i].Irq) <;> rfl
  · rw [hl]
    simp
theorem i_parts (xs : List Slot) (ws : List Waiter) (hx : xs.length ≤ 1048576) (hw : ws.length ≤ 1048576) : M.i_areParts xs ws = some (goodP xs ws) := by
  unfold M.i_areParts goodP
  rw [i_goodS xs hx, Option.bind_some]
  cases goodS xs with
  | false => rfl
  | true =>
    simp only [Bool.not_true, cond_false, Bool.true_and]
    rw [while_all (fun i => (i : Int)) (okW xs ws) (Sum.inr false : Unit ⊕ Bool) (Sum.inl ()) ws.length (by simp) (by omega)]
    · cases (List.range ws.length).all (okW xs ws) <;> simp
    · intro i hi
      have e0 : ((i : Int) < (ws.length : Int)) := by omega
      have hsl : gxSlice ws 0 (i : Int) = some (ws.take i) := by
        unfold gxSlice
        rw [if_pos ⟨by omega, by omega, by omega⟩]
        simp
      obtain ⟨r, hr, hr2⟩ := i_windex ws i hi hw
      simp only [e0, decide_true, cond_true, gxIdx_nat hi, Option.bind_some, M.i_isIrq, M.i_isPriority, i_in, i_find xs _ hx, hsl, hr, hr2, i_cmpU, cmpU_ge, w64_succ (show i ≤ 4611686018427387904 by omega)]
      unfold okW inR
      rw [getD_at hi]
      cases (decide (0 ≤ ws[i].Irq) && decide (ws[i].Irq ≤ 7)) with
      | false => rfl
      | true => cases (decide (0 ≤ ws[i].Priority) && decide (ws[i].Priority ≤ 15)) with
        | false => rfl
        | true =>
          by_cases hf : fndS xs ws[i].Irq < 0
          · have hf2 : ¬ (fndS xs ws[i].Irq ≥ 0) := by omega
            simp only [hf, hf2, decide_true, decide_false, Bool.not_true, cond_false, Option.bind_some, Bool.true_and]
            cases freshW ws i with
            | false => rfl
            | true =>
              by_cases h0 : i = 0
              · subst h0
                have hz : ¬ (((0 : Nat) : Int) > 0) := by omega
                simp [hz]
              · have hz : ((i : Int) > 0) := by omega
                simp only [hz, h0, decide_true, decide_false, Bool.not_true, cond_false, cond_true, Option.bind_some, Bool.false_or, Bool.true_and, gxIdx_prevZ (z := gW) hi (show 0 < i by omega) (by omega)]
                cases lessU (ws.getD (i - 1) gW).Priority (ws.getD (i - 1) gW).Irq ws[i].Priority ws[i].Irq <;> rfl
          · have hf2 : (fndS xs ws[i].Irq ≥ 0) := by omega
            simp [hf, hf2]
    · simp
def frS (xs : List Slot) : Int := match (List.range xs.length).find? (fun i => (xs.getD i gS).State == 0) with
  | some i => (i : Int)
  | none => -1
theorem s_free (xs : List Slot) (h : xs.length ≤ 1048576) : M.s_l8Free xs = some (frS xs) := by
  unfold M.s_l8Free frS
  rw [while_first (fun i => (i : Int)) (fun i => (xs.getD i gS).State == 0) (fun i => (Sum.inr (i : Int) : Unit ⊕ Int)) (Sum.inl ()) xs.length (by simp) (by omega)]
  · cases (List.range xs.length).find? (fun i => (xs.getD i gS).State == 0) <;> rfl
  · intro i hi
    have e0 : ((i : Int) < (xs.length : Int)) := by omega
    simp only [e0, decide_true, cond_true, gxIdx_nat hi, Option.bind_some, getD_at hi, w64_succ (show i ≤ 4611686018427387904 by omega)]
    cases (xs[i].State == 0) <;> rfl
  · simp
theorem i_free (xs : List Slot) (h : xs.length ≤ 1048576) : M.i_firstEmpty xs = some (frS xs) := by
  unfold M.i_firstEmpty M.slices_IndexFunc_210__i_firstEmpty_1 frS
  rw [while_first (fun i => (i : Int)) (fun i => (xs.getD i gS).State == 0) (fun i => (Sum.inr (i : Int) : Unit ⊕ Int)) (Sum.inl ()) xs.length (by simp) (by omega)]
  · cases (List.range xs.length).find? (fun i => (xs.getD i gS).State == 0) <;> rfl
  · intro i hi
    have e0 : ((i : Int) < (xs.length : Int)) := by omega
    simp only [e0, decide_true, cond_true, gxIdx_nat hi, Option.bind_some, M.i_firstEmpty_1, getD_at hi, w64_succ (show i ≤ 4611686018427387904 by omega)]
    cases (xs[i].State == 0) <;> rfl
  · simp
def bestF (xs : List Slot) : Nat → Int
  | 0 => -1
  | i + 1 => bif (xs.getD i gS).State == 1 then (bif decide (bestF xs i < 0) || lessU (xs.getD (bestF xs i).toNat gS).Priority (xs.getD (bestF xs i).toNat gS).Irq (xs.getD i gS).Priority (xs.getD i gS).Irq then (i : Int) else bestF xs i) else bestF xs i
theorem bestF_at (xs : List Slot) : ∀ i, bestF xs i < 0 ∨ ∃ k, k < i ∧ bestF xs i = (k : Int) ∧ (xs.getD k gS).State = 1
  | 0 => Or.inl (by simp [bestF])
  | i + 1 => by
    have ih := bestF_at xs i
    have hih : bestF xs i < 0 ∨ ∃ k, k < i + 1 ∧ bestF xs i = (k : Int) ∧ (xs.getD k gS).State = 1 := by
      rcases ih with h | ⟨k, h1, h2, h3⟩
      · exact Or.inl h
      · exact Or.inr ⟨k, by omega, h2, h3⟩
    unfold bestF
    cases hs : ((xs.getD i gS).State == 1) with
    | false => exact hih
    | true =>
      simp only [cond_true]
      cases (decide (bestF xs i < 0) || lessU (xs.getD (bestF xs i).toNat gS).Priority (xs.getD (bestF xs i).toNat gS).Irq (xs.getD i gS).Priority (xs.getD i gS).Irq) with
      | false => exact hih
      | true => exact Or.inr ⟨i, by omega, rfl, by simpa using hs⟩
theorem s_best (xs : List Slot) (h : xs.length ≤ 1048576) : M.s_l8Best xs false = some (bestF xs xs.length) := by
  unfold M.s_l8Best
  rw [while_run (fun i => (bestF xs i, (i : Int))) (bestF xs xs.length) xs.length (by simp [bestF]) (by omega)]
  · rfl
  · intro i hi
    have e0 : ((i : Int) < (xs.length : Int)) := by omega
    simp only [e0, decide_true, cond_true, gxIdx_nat hi, Option.bind_some, s_less, w64_succ (show i ≤ 4611686018427387904 by omega)]
    have hb : bestF xs (i + 1) = bif xs[i].State == 1 then (bif decide (bestF xs i < 0) || lessU (xs.getD (bestF xs i).toNat gS).Priority (xs.getD (bestF xs i).toNat gS).Irq xs[i].Priority xs[i].Irq then (i : Int) else bestF xs i) else bestF xs i := by
      rw [bestF, getD_at hi]
    rw [hb]
    cases hs : (xs[i].State == 1) with
    | false => simp [bne, hs]
    | true =>
      simp only [bne, hs, Bool.not_true, cond_false, cond_true]
      rcases bestF_at xs i with hn | ⟨k, hk, he, _⟩
      · simp [hn]
      · have hkl : k < xs.length := by omega
        have hnn : ¬ ((k : Int) < 0) := by omega
        simp only [he, hnn, decide_false, cond_false, Bool.not_false, cond_true, gxIdx_nat hkl, Option.bind_some, Int.toNat_natCast, getD_at hkl, Bool.false_or]
        cases lessU xs[k].Priority xs[k].Irq xs[i].Priority xs[i].Irq <;> rfl
  · simp
theorem lessU_not {p q r s : Int} (h : q ≠ s) : (!(lessU p q r s)) = lessU r s p q := by
  unfold lessU
  rw [Bool.eq_iff_iff]
  simp only [Bool.not_eq_true', Bool.or_eq_false_iff, Bool.and_eq_false_iff, decide_eq_false_iff_not, Bool.or_eq_true, Bool.and_eq_true, decide_eq_true_eq, beq_iff_eq, beq_eq_false_iff_ne]
  omega
theorem irq_ne {xs : List Slot} (hg : goodS xs = true) {k i : Nat} (hk : k < i) (hi : i < xs.length) (hs : (xs[i].State == 0) = false) (hs2 : ((xs[k]'(by omega)).State == 0) = false) : (xs[k]'(by omega)).Irq ≠ xs[i].Irq := by
  unfold goodS at hg
  rw [Bool.and_eq_true, List.all_eq_true] at hg
  have := hg.2 i (List.mem_range.2 hi)
  unfold okSl freshS at this
  rw [getD_at hi, hs] at this
  simp only [Bool.and_eq_true, cond_false, List.all_eq_true] at this
  have h2 := this.2.2.2 k (List.mem_range.2 hk)
  rw [getD_at (show k < xs.length by omega)] at h2
  unfold mtS at h2
  simp only [bne, hs2, Bool.not_false, Bool.true_and, Bool.not_eq_true', beq_eq_false_iff_ne] at h2
  exact h2
theorem i_best (xs : List Slot) (h : xs.length ≤ 1048576) (hg : goodS xs = true) : M.i_pendingSlot xs false = some (bestF xs xs.length) := by
  unfold M.i_pendingSlot
  rw [while_run (fun i => (bestF xs i, (i : Int))) (bestF xs xs.length) xs.length (by simp [bestF]) (by omega)]
  · rfl
  · intro i hi
    have e0 : ((i : Int) < (xs.length : Int)) := by omega
    simp only [e0, decide_true, cond_true, gxIdx_nat hi, Option.bind_some, M.i_waiterOf, i_cmpU, w64_succ (show i ≤ 4611686018427387904 by omega)]
    have hb : bestF xs (i + 1) = bif xs[i].State == 1 then (bif decide (bestF xs i < 0) || lessU (xs.getD (bestF xs i).toNat gS).Priority (xs.getD (bestF xs i).toNat gS).Irq xs[i].Priority xs[i].Irq then (i : Int) else bestF xs i) else bestF xs i := by
      rw [bestF, getD_at hi]
    rw [hb]
    cases hs : (xs[i].State == 1) with
    | false => simp
    | true =>
      simp only [cond_true]
      rcases bestF_at xs i with hn | ⟨k, hk, he, hk1⟩
      · simp [hn]
      · have hkl : k < xs.length := by omega
        have hnn : ¬ ((k : Int) < 0) := by omega
        rw [getD_at hkl] at hk1
        have hs1 : xs[i].State = 1 := by simpa using hs
        have hne := irq_ne hg hk hi (by simp [hs1]) (by simp [hk1])
        have hl := lessU_not (p := xs[i].Priority) (r := xs[k].Priority) (q := xs[i].Irq) (s := xs[k].Irq) (fun e => hne e.symm)
        simp only [he, hnn, decide_false, cond_false, gxIdx_nat hkl, Option.bind_some, Int.toNat_natCast, getD_at hkl, Bool.false_or, cmpU_lt, beq_false, hl]
        cases lessU xs[k].Priority xs[k].Irq xs[i].Priority xs[i].Irq <;> rfl
  · simp
def setQ (q : Queue) : Bool := bif (q.Waiting.length : Int) == 0 then true else (bif decide (frS q.Slots ≥ 0) then false else (bif decide (bestF q.Slots q.Slots.length < 0) then true else lessU (q.Slots.getD (bestF q.Slots q.Slots.length).toNat gS).Priority (q.Slots.getD (bestF q.Slots q.Slots.length).toNat gS).Irq (q.Waiting.getD 0 gW).Priority (q.Waiting.getD 0 gW).Irq))
theorem s_settled (q : Queue) (h : q.Slots.length ≤ 1048576) : M.s_l9Settled q = some (setQ q) := by
  unfold M.s_l9Settled setQ
  cases hw : ((q.Waiting.length : Int) == 0) with
  | true => rfl
  | false =>
    have hw' : 0 < q.Waiting.length := by
      have : ¬ ((q.Waiting.length : Int) = 0) := by simpa using hw
      omega
    have h0 : gxIdx q.Waiting 0 = some (q.Waiting.getD 0 gW) := by rw [getD_at hw']; exact gxIdx_nat hw'
    simp only [cond_false, s_free _ h, Option.bind_some, s_best _ h, s_less, h0]
    cases decide (frS q.Slots ≥ 0) with
    | true => rfl
    | false =>
      simp only [cond_false]
      rcases bestF_at q.Slots q.Slots.length with hn | ⟨k, hk, he, _⟩
      · simp [hn]
      · have hnn : ¬ ((k : Int) < 0) := by omega
        simp only [he, hnn, decide_false, cond_false, gxIdx_nat hk, Option.bind_some, Int.toNat_natCast, getD_at hk]
theorem i_settled (q : Queue) (h : q.Slots.length ≤ 1048576) (hg : goodS q.Slots = true) : M.i_isSettled q = some (setQ q) := by
  unfold M.i_isSettled setQ
  cases hw : ((q.Waiting.length : Int) == 0) with
  | true => rfl
  | false =>
    have hw' : 0 < q.Waiting.length := by
      have : ¬ ((q.Waiting.length : Int) = 0) := by simpa using hw
      omega
    have h0 : gxIdx q.Waiting 0 = some (q.Waiting.getD 0 gW) := by rw [getD_at hw']; exact gxIdx_nat hw'
    simp only [cond_false, i_free _ h, Option.bind_some, i_best _ h hg, i_cmpU, h0, M.i_waiterOf, cmpU_gt]
    by_cases hf : frS q.Slots < 0
    · have hf2 : ¬ (frS q.Slots ≥ 0) := by omega
      simp only [hf, hf2, decide_true, decide_false, cond_true, cond_false]
      rcases bestF_at q.Slots q.Slots.length with hn | ⟨k, hk, he, _⟩
      · simp [hn]
      · have hnn : ¬ ((k : Int) < 0) := by omega
        simp only [he, hnn, decide_false, cond_false, gxIdx_nat hk, Option.bind_some, Int.toNat_natCast, getD_at hk]
    · have hf2 : (frS q.Slots ≥ 0) := by omega
      simp [hf, hf2]
def goodQ (q : Queue) : Bool := goodP q.Slots q.Waiting && setQ q
theorem s_goodQ (q : Queue) (h : q.Slots.length ≤ 1048576 ∧ q.Waiting.length ≤ 1048576) : M.s_l9Good q = some (goodQ q) := by
  unfold M.s_l9Good goodQ
  rw [s_waiting _ _ h.1 h.2, Option.bind_some, s_settled q h.1]
  cases goodP q.Slots q.Waiting <;> rfl
theorem i_goodQ (q : Queue) (h : q.Slots.length ≤ 1048576 ∧ q.Waiting.length ≤ 1048576) : M.i_IsQueue q = some (goodQ q) := by
  unfold M.i_IsQueue goodQ
  rw [i_parts _ _ h.1 h.2, Option.bind_some]
  cases hg : goodP q.Slots q.Waiting with
  | false => rfl
  | true =>
    unfold goodP at hg
    rw [Bool.and_eq_true] at hg
    rw [cond_true, i_settled q h.1 hg.1]
    rfl
end Go.Proofs.YtllhajkgkghhdaaGreat
set_option linter.unusedVariables false
set_option linter.unusedSimpArgs false
set_option maxHeartbeats 4000000
namespace Go.Proofs.YtllhajkgkghhdaaGreat
open Go.Gx
theorem while_filter {α β : Type} {xs : List α} (p : α → Bool) (f : α → β) {body : List β × Int → Option ((List β × Int) ⊕ List β)} (hl : xs.length ≤ 1099511627776)
    (h : ∀ (i : Nat) (hi : i < xs.length) (acc : List β), acc.length ≤ i → body (acc, (i : Int)) = some (.inl (bif p xs[i] then acc ++ [f xs[i]] else acc, w64 ((i : Int) + 1))))
    (he : ∀ acc, body (acc, (xs.length : Int)) = some (.inr acc)) : whileM body gxFuel ([], 0) = some ((xs.filter p).map f) := by
  refine while_run (fun i => (((xs.take i).filter p).map f, (i : Int))) _ xs.length (by simp) (by omega) (fun i hi => ?_) ?_
  · have hle : (((xs.take i).filter p).map f).length ≤ i := by
      rw [List.length_map]
      exact Nat.le_trans (List.length_filter_le _ _) (by simp; omega)
    rw [h i hi _ hle, w64_succ (by omega), List.take_add_one, List.getElem?_eq_getElem hi, Option.toList_some, List.filter_append, List.map_append]
    cases hp : p xs[i] <;> simp [hp]
  · rw [he, List.take_length]
theorem while_place {α : Type} {xs : List α} (p : α → Bool) {body : Int → Option (Int ⊕ Int)} (hl : xs.length ≤ 1099511627776)
    (h : ∀ (i : Nat) (hi : i < xs.length), body (i : Int) = some (bif p xs[i] then .inl (w64 ((i : Int) + 1)) else .inr (i : Int)))
    (he : body (xs.length : Int) = some (.inr (xs.length : Int))) : whileM body gxFuel 0 = some ((xs.takeWhile p).length : Int) := by
  have hk : (xs.takeWhile p).length ≤ xs.length := (List.takeWhile_prefix p).length_le
  refine while_run (fun i => (i : Int)) _ (xs.takeWhile p).length (by simp) (by omega) (fun i hi => ?_) ?_
  · have hi' : i < xs.length := by omega
    have hp : p xs[i] = true := by
      have h1 : (xs.takeWhile p)[i] = xs[i] := (List.takeWhile_prefix p).getElem hi
      have h2 := List.all_takeWhile (p := p) (l := xs)
      rw [List.all_eq_true] at h2
      rw [← h1]
      exact h2 _ (List.getElem_mem hi)
    rw [h i hi', hp, w64_succ (by omega)]
    rfl
  · by_cases hlt : (xs.takeWhile p).length < xs.length
    · have hp : p xs[(xs.takeWhile p).length] = false := by
        have h1 : xs = xs.takeWhile p ++ xs.dropWhile p := (List.takeWhile_append_dropWhile).symm
        cases hd : xs.dropWhile p with
        | nil => rw [hd, List.append_nil] at h1; rw [← h1] at hlt; omega
        | cons y r =>
          have h2 : p y = false := by
            have := List.head_dropWhile_not p (l := xs) (by rw [hd]; simp)
            simpa [hd] using this
          have h3 : xs[(xs.takeWhile p).length]? = some y := by
            conv => lhs; arg 1; rw [h1]
            rw [List.getElem?_append_right (Nat.le_refl _), Nat.sub_self, hd]
            rfl
          rw [List.getElem?_eq_getElem hlt] at h3
          rw [Option.some.inj h3]
          exact h2
      rw [h _ hlt, hp]
      rfl
    · rw [show (xs.takeWhile p).length = xs.length by omega, he]
theorem while_more {σ ρ : Type} {body : σ → Option (σ ⊕ ρ)} {r : ρ} : ∀ (n m : Nat) (s : σ), n ≤ m → whileM body n s = some r → whileM body m s = some r
  | 0, _, s, _, h => by simp [whileM] at h
  | n + 1, 0, s, hm, _ => by omega
  | n + 1, m + 1, s, hm, h => by
    simp only [whileM] at h ⊢
    split at h
    · exact h
    · rename_i hb
      first
        | exact while_more n m _ (by omega) h
        | exact h
    · exact h
theorem while_small {σ ρ : Type} {body : σ → Option (σ ⊕ ρ)} {r : ρ} {s : σ} (n : Nat) (hn : n ≤ 1000000) (h : whileM body n s = some r) : whileM body gxFuel s = some r :=
  while_more n gxFuel s (by unfold gxFuel; omega) h
theorem gxSlice_take {α : Type} {xs : List α} {k : Nat} (h : k ≤ xs.length) : gxSlice xs 0 (k : Int) = some (xs.take k) := by
  unfold gxSlice
  rw [if_pos ⟨by omega, by omega, by omega⟩]
  simp
theorem gxSlice_drop {α : Type} {xs : List α} {k : Nat} (h : k ≤ xs.length) : gxSlice xs (k : Int) (xs.length : Int) = some (xs.drop k) := by
  unfold gxSlice
  rw [if_pos ⟨by omega, by omega, by omega⟩]
  simp
def insRev {α : Type} (lt : α → α → Bool) (x : α) : List α → List α
  | [] => [x]
  | y :: r => bif lt x y then y :: insRev lt x r else x :: y :: r
def insR {α : Type} (lt : α → α → Bool) (pre : List α) (x : α) : List α := (insRev lt x pre.reverse).reverse
def isortL {α : Type} (lt : α → α → Bool) (xs : List α) : List α := xs.foldl (insR lt) []
theorem inner_run {α : Type} (lt : α → α → Bool) {body : Int × List α → Option ((Int × List α) ⊕ List α)}
    (hstep : ∀ (j : Nat) (L : List α) (h1 : j + 1 < L.length), j ≤ 1099511627776 → body (((j + 1 : Nat) : Int), L) = some (bif lt L[j + 1] (L[j]'(by omega)) then .inl ((j : Int), (L.set (j + 1) (L[j]'(by omega))).set j L[j + 1]) else .inr L))
    (h0 : ∀ L, body (0, L) = some (.inr L)) (x : α) : ∀ (rp post : List α) (fuel : Nat), rp.length < fuel → rp.length ≤ 1099511627776 → whileM body fuel ((rp.length : Int), rp.reverse ++ x :: post) = some ((insRev lt x rp).reverse ++ post)
  | [], post, fuel + 1, _, _ => by
    have := h0 ([].reverse ++ x :: post)
    simp only [List.length_nil] at this ⊢
    simp only [whileM, show ((0 : Nat) : Int) = 0 from rfl, this]
    rfl
  | y :: r, post, fuel + 1, hf, hb => by
    have hl : r.length + 1 < ((y :: r).reverse ++ x :: post).length := by simp
    have e1 : ((y :: r).reverse ++ x :: post)[r.length + 1] = x := by
      rw [List.getElem_append_right (by simp)]
      simp
    have e0 : ((y :: r).reverse ++ x :: post)[r.length]'(by omega) = y := by
      rw [List.getElem_append_left (by simp)]
      simp
    have := hstep r.length _ hl (by simp at hb; omega)
    rw [e1, e0] at this
    simp only [whileM, List.length_cons, this]
    cases hxy : lt x y with
    | false =>
      simp only [cond_false, insRev, hxy]
      simp
    | true =>
      simp only [cond_true, insRev, hxy]
      have e2 : (((y :: r).reverse ++ x :: post).set (r.length + 1) y).set r.length x = r.reverse ++ x :: (y :: post) := by
        simp only [List.reverse_cons, List.append_assoc, List.cons_append, List.nil_append]
        rw [List.set_append_right _ _ (by simp), List.set_append_right _ _ (by simp)]
        simp
      rw [e2]
      have ih := inner_run lt hstep h0 x r (y :: post) fuel (by simp at hf; omega) (by simp at hb; omega)
      rw [ih]
      simp
theorem insRev_len {α : Type} (lt : α → α → Bool) (x : α) : ∀ l : List α, (insRev lt x l).length = l.length + 1
  | [] => rfl
  | y :: r => by
    simp only [insRev]
    cases lt x y <;> simp [insRev_len lt x r]
theorem insR_len {α : Type} (lt : α → α → Bool) (pre : List α) (x : α) : (insR lt pre x).length = pre.length + 1 := by simp [insR, insRev_len]
theorem isortL_snoc {α : Type} (lt : α → α → Bool) (xs : List α) (x : α) : isortL lt (xs ++ [x]) = insR lt (isortL lt xs) x := by simp [isortL]
theorem isortL_len {α : Type} (lt : α → α → Bool) (xs : List α) : (isortL lt xs).length = xs.length := by
  have : ∀ (ys acc : List α), (ys.foldl (insR lt) acc).length = acc.length + ys.length := by
    intro ys
    induction ys with
    | nil => intro acc; simp
    | cons y r ih => intro acc; rw [List.foldl_cons, ih, insR_len, List.length_cons]; omega
  simpa [isortL] using this xs []
theorem insRev_perm {α : Type} (lt : α → α → Bool) (x : α) : ∀ l : List α, (insRev lt x l).Perm (x :: l)
  | [] => List.Perm.refl _
  | y :: r => by
    simp only [insRev]
    cases lt x y with
    | false => exact List.Perm.refl _
    | true => exact ((insRev_perm lt x r).cons y).trans (List.Perm.swap x y r)
theorem insR_perm {α : Type} (lt : α → α → Bool) (pre : List α) (x : α) : (insR lt pre x).Perm (x :: pre) :=
  (List.reverse_perm _).trans ((insRev_perm lt x _).trans ((List.reverse_perm pre).cons x))
theorem isortL_perm {α : Type} (lt : α → α → Bool) (xs : List α) : (isortL lt xs).Perm xs := by
  have : ∀ (ys acc : List α), (ys.foldl (insR lt) acc).Perm (acc ++ ys) := by
    intro ys
    induction ys with
    | nil => intro acc; simp
    | cons y r ih =>
      intro acc
      rw [List.foldl_cons]
      refine (ih _).trans ?_
      refine ((insR_perm lt acc y).append_right r).trans ?_
      exact (List.perm_middle (l₁ := acc) (a := y) (l₂ := r)).symm
  simpa [isortL] using this xs []
def ordered {α : Type} (key : α → Int) (l : List α) : Prop := l.Pairwise fun a b => key a ≤ key b
theorem insRev_ord {α : Type} (key : α → Int) (x : α) : ∀ l : List α, (l.Pairwise fun a b => key b ≤ key a) → (insRev (fun a b => decide (key a < key b)) x l).Pairwise fun a b => key b ≤ key a
  | [], _ => by simp [insRev]
  | y :: r, h => by
    rw [List.pairwise_cons] at h
    simp only [insRev]
    by_cases hxy : key x < key y
    · simp only [hxy, decide_true, cond_true, List.pairwise_cons]
      refine ⟨fun a ha => ?_, insRev_ord key x r h.2⟩
      rcases List.mem_cons.1 ((insRev_perm _ x r).mem_iff.1 ha) with rfl | ha
      · omega
      · exact h.1 a ha
    · simp only [hxy, decide_false, cond_false, List.pairwise_cons]
      refine ⟨fun a ha => ?_, h.1, h.2⟩
      rcases List.mem_cons.1 ha with rfl | ha
      · omega
      · have := h.1 a ha; omega
theorem insR_ord {α : Type} (key : α → Int) {pre : List α} (h : ordered key pre) (x : α) : ordered key (insR (fun a b => decide (key a < key b)) pre x) := by
  unfold ordered insR
  rw [List.pairwise_reverse]
  exact insRev_ord key x _ (by rw [List.pairwise_reverse]; exact h)
theorem isortL_ord {α : Type} (key : α → Int) (xs : List α) : ordered key (isortL (fun a b => decide (key a < key b)) xs) := by
  have : ∀ (ys acc : List α), ordered key acc → ordered key (ys.foldl (insR (fun a b => decide (key a < key b))) acc) := by
    intro ys
    induction ys with
    | nil => intro acc h; exact h
    | cons y r ih => intro acc h; exact ih _ (insR_ord key h y)
  exact this xs [] (by simp [ordered])
theorem ordered_uniq {α : Type} (key : α → Int) : ∀ {A B : List α}, (A.Pairwise fun a b => key a < key b) → ordered key B → A.Perm B → A = B
  | [], B, _, _, hp => (List.Perm.nil_eq hp)
  | a :: A, [], _, _, hp => by have := hp.length_eq; simp at this
  | a :: A, b :: B, hA, hB, hp => by
    unfold ordered at hB
    rw [List.pairwise_cons] at hA hB
    have hab : a = b := by
      have h1 : a ∈ b :: B := hp.mem_iff.1 (by simp)
      have h2 : b ∈ a :: A := hp.mem_iff.2 (by simp)
      rcases List.mem_cons.1 h1 with h1 | h1
      · exact h1
      · rcases List.mem_cons.1 h2 with h2 | h2
        · exact h2.symm
        · have := hA.1 b h2
          have := hB.1 a h1
          omega
    subst hab
    rw [ordered_uniq key hA.2 hB.2 (List.Perm.cons_inv hp)]
theorem outer_run {α : Type} (lt : α → α → Bool) {xs : List α} {body : Int × List α → Option ((Int × List α) ⊕ List α)} (hl : xs.length ≤ 1099511627776)
    (h : ∀ (i : Nat) (pre post : List α) (x : α), pre.length = i → i < xs.length → body ((i : Int), pre ++ x :: post) = some (.inl (w64 ((i : Int) + 1), insR lt pre x ++ post)))
    (he : ∀ (i : Int) (L : List α), (xs.length : Int) ≤ i → body (i, L) = some (.inr L)) : whileM body gxFuel (1, xs) = some (isortL lt xs) := by
  cases xs with
  | nil =>
    refine while_small 1 (by omega) ?_
    simp only [whileM, he 1 [] (by simp)]
    rfl
  | cons x0 r =>
    refine while_run (fun i => (((i + 1 : Nat) : Int), isortL lt ((x0 :: r).take (i + 1)) ++ (x0 :: r).drop (i + 1))) _ r.length (by simp [isortL, insR, insRev]) (by simp at hl; omega) (fun i hi => ?_) ?_
    · have hi' : i + 1 < (x0 :: r).length := by simp; omega
      have hlen : (isortL lt ((x0 :: r).take (i + 1))).length = i + 1 := by rw [isortL_len]; simp; omega
      rw [List.drop_eq_getElem_cons hi', h (i + 1) _ _ _ hlen hi', w64_succ (by simp at hl; omega), ← isortL_snoc]
      congr 4
      conv => rhs; rw [List.take_add_one, List.getElem?_eq_getElem hi', Option.toList_some]
    · have := he ((r.length + 1 : Nat) : Int) (isortL lt ((x0 :: r).take (r.length + 1)) ++ (x0 :: r).drop (r.length + 1)) (by simp)
      rw [this]
      simp
theorem while_inv_fuel {σ ρ : Type} {body : σ → Option (σ ⊕ ρ)} (R : Nat → σ → Prop) (Q : ρ → Prop) (n : Nat) (hstep : ∀ i s, i < n → R i s → (∃ s', body s = some (.inl s') ∧ R (i + 1) s') ∨ (∃ r, body s = some (.inr r) ∧ Q r)) (hend : ∀ s, R n s → ∃ r, body s = some (.inr r) ∧ Q r) : ∀ (k i fuel : Nat) (s : σ), i + k = n → k < fuel → R i s → ∃ r, whileM body fuel s = some r ∧ Q r
  | 0, i, fuel, s, hi, hf, hR => by
    obtain ⟨m, rfl⟩ : ∃ m, fuel = m + 1 := ⟨fuel - 1, by omega⟩
    obtain ⟨r, hr, hq⟩ := hend s (by rw [← hi]; exact hR)
    exact ⟨r, by simp only [whileM, hr], hq⟩
  | k + 1, i, fuel, s, hi, hf, hR => by
    obtain ⟨m, rfl⟩ : ∃ m, fuel = m + 1 := ⟨fuel - 1, by omega⟩
    rcases hstep i s (by omega) hR with ⟨s', hs, hR'⟩ | ⟨r, hr, hq⟩
    · obtain ⟨r, hr, hq⟩ := while_inv_fuel R Q n hstep hend k (i + 1) m s' (by omega) (by omega) hR'
      exact ⟨r, by simp only [whileM, hs]; exact hr, hq⟩
    · exact ⟨r, by simp only [whileM, hr], hq⟩
theorem while_inv {σ ρ : Type} {body : σ → Option (σ ⊕ ρ)} {s0 : σ} (R : Nat → σ → Prop) (Q : ρ → Prop) (n : Nat) (hn : n ≤ 4611686018427387904) (h0 : R 0 s0) (hstep : ∀ i s, i < n → R i s → (∃ s', body s = some (.inl s') ∧ R (i + 1) s') ∨ (∃ r, body s = some (.inr r) ∧ Q r)) (hend : ∀ s, R n s → ∃ r, body s = some (.inr r) ∧ Q r) : ∃ r, whileM body gxFuel s0 = some r ∧ Q r :=
  while_inv_fuel R Q n hstep hend n 0 gxFuel s0 (by omega) (by unfold gxFuel; omega) h0
def isAct (s : Slot) : Bool := s.State == 2 || s.State == 3
def actS (xs : List Slot) : List Int := (xs.filter isAct).map (·.Irq)
theorem actS_snoc (xs : List Slot) (s : Slot) : actS (xs ++ [s]) = actS xs ++ (bif isAct s then [s.Irq] else []) := by
  unfold actS
  rw [List.filter_append, List.map_append]
  cases h : isAct s <;> simp [h]
theorem isAct_ne {s : Slot} (h : isAct s = true) : (s.State == 0) = false := by
  unfold isAct at h
  simp only [Bool.or_eq_true, beq_iff_eq] at h
  have : s.State ≠ 0 := by omega
  simp [this]
theorem actS_new {xs : List Slot} (hg : goodS xs = true) {i : Nat} (hi : i < xs.length) (ha : isAct xs[i] = true) : xs[i].Irq ∉ actS (xs.take i) := by
  intro hc
  obtain ⟨s, hs, he⟩ := List.mem_map.1 hc
  obtain ⟨hm, hs2⟩ := List.mem_filter.1 hs
  obtain ⟨k, hk, hk2⟩ := List.getElem_of_mem hm
  have hki : k < i := by simp at hk; omega
  rw [List.getElem_take] at hk2
  exact irq_ne hg hki hi (isAct_ne ha) (by rw [hk2]; exact isAct_ne hs2) (by rw [hk2, he])
theorem actS_nodup {xs : List Slot} (hg : goodS xs = true) : ∀ i, i ≤ xs.length → (actS (xs.take i)).Nodup
  | 0, _ => by simp [actS]
  | i + 1, hi => by
    have ih := actS_nodup hg i (by omega)
    rw [List.take_add_one, List.getElem?_eq_getElem (show i < xs.length by omega), Option.toList_some, actS_snoc]
    cases ha : isAct (xs[i]'(by omega)) with
    | false => simpa using ih
    | true =>
      have hn := actS_new hg (show i < xs.length by omega) ha
      simp only [cond_true]
      rw [List.nodup_append]
      refine ⟨ih, by simp, fun a ha2 b hb => ?_⟩
      rw [List.mem_singleton.1 hb]
      exact fun e => hn (e ▸ ha2)
theorem s_put (l : List Int) (x : Int) (hl : l.length ≤ 1048576) (hx : x ∉ l) : ∃ r, M.s_l1Put l x = some r ∧ r.Perm (x :: l) := by
  unfold M.s_l1Put
  have hk : (l.takeWhile (fun y => decide (y < x))).length ≤ l.length := (List.takeWhile_prefix _).length_le
  rw [while_place (xs := l) (fun y => decide (y < x)) (by omega)]
  · have hno : (bif decide (((l.takeWhile (fun y => decide (y < x))).length : Int) < (l.length : Int)) then (Option.bind (gxIdx l ((l.takeWhile (fun y => decide (y < x))).length : Int)) fun y2907 => some (y2907 == x)) else some false) = some false := by
      by_cases hlt : (l.takeWhile (fun y => decide (y < x))).length < l.length
      · have e1 : (((l.takeWhile (fun y => decide (y < x))).length : Int) < (l.length : Int)) := by omega
        simp only [e1, decide_true, cond_true, gxIdx_nat hlt, Option.bind_some]
        have : (l[(l.takeWhile (fun y => decide (y < x))).length] == x) = false := by
          rw [beq_eq_false_iff_ne]
          exact fun e => hx (e ▸ List.getElem_mem hlt)
        rw [this]
      · have e1 : ¬ (((l.takeWhile (fun y => decide (y < x))).length : Int) < (l.length : Int)) := by omega
        simp only [e1, decide_false, cond_false]
    simp only [Option.bind_some]
    rw [hno]
    simp only [Option.bind_some, cond_false, gxSlice_take hk, gxSlice_drop hk]
    rw [gxApp_ok (by simp; omega), Option.bind_some, gxApp_ok (by simp; omega), Option.bind_some, gxApp_ok (by simp; omega), Option.bind_some]
    refine ⟨_, rfl, ?_⟩
    rw [List.nil_append, List.append_assoc, List.singleton_append]
    refine List.perm_middle.trans ?_
    rw [List.take_append_drop]
  · intro i hi
    have e0 : ((i : Int) < (l.length : Int)) := by omega
    simp only [e0, decide_true, cond_true, gxIdx_nat hi, Option.bind_some]
    cases decide (l[i] < x) <;> rfl
  · simp
theorem s_active (xs : List Slot) (hg : goodS xs = true) : ∃ A, M.s_l8Active xs = some A ∧ A.Perm (actS xs) := by
  have h4 : xs.length = 4 := by
    unfold goodS at hg
    simp only [Bool.and_eq_true, beq_iff_eq] at hg
    omega
  unfold M.s_l8Active
  obtain ⟨A, hA, hp⟩ := while_inv (body := fun s3081 : List Int × Int =>
    bif decide (s3081.2 < (xs.length : Int)) then (Option.bind (α := Bool) (Option.bind (gxIdx xs s3081.2) fun y3109 =>
    bif y3109.State == 2 then some true
    else (Option.bind (gxIdx xs s3081.2) fun y3111 =>
    some (y3111.State == 3))) fun o3106 =>
    Option.bind (α := List Int) (bif o3106 then (Option.bind (gxIdx xs s3081.2) fun y3136 =>
    Option.bind (M.s_l1Put s3081.1 y3136.Irq) fun r3137 =>
    some r3137)
    else some s3081.1) fun o3127 =>
    some (Sum.inl (β := List Int) (o3127, w64 (s3081.2 + 1))))
    else some (.inr s3081.1)) (s0 := (([] : List Int), 0)) (fun i s => s.2 = (i : Int) ∧ s.1.Perm (actS (xs.take i))) (fun A => A.Perm (actS xs)) xs.length (by omega) ⟨rfl, by simp [actS]⟩ (fun i s hi hR => by
      obtain ⟨l, j⟩ := s
      obtain ⟨hj, hp⟩ := hR
      simp only at hj hp
      subst hj
      have e0 : ((i : Int) < (xs.length : Int)) := by omega
      have hact : (Option.bind (some xs[i]) fun (y3109 : Slot) => bif y3109.State == 2 then some true else (Option.bind (some xs[i]) fun (y3111 : Slot) => some (y3111.State == 3))) = some (isAct xs[i]) := by
        unfold isAct
        simp only [Option.bind_some]
        cases (xs[i].State == 2) <;> rfl
      simp only [e0, decide_true, cond_true, gxIdx_nat hi]
      rw [hact]
      simp only [Option.bind_some, w64_succ (show i ≤ 4611686018427387904 by omega)]
      have hsn : actS (xs.take (i + 1)) = actS (xs.take i) ++ (bif isAct xs[i] then [xs[i].Irq] else []) := by
        rw [List.take_add_one, List.getElem?_eq_getElem hi, Option.toList_some, actS_snoc]
      have hll : l.length ≤ 4 := by
        rw [hp.length_eq]
        unfold actS
        rw [List.length_map]
        have := List.length_filter_le isAct (xs.take i)
        have h2 : (xs.take i).length ≤ 4 := by simp; omega
        omega
      cases ha : isAct xs[i] with
      | false =>
        rw [ha] at hsn
        simp only [cond_false, List.append_nil] at hsn
        simp only [cond_false, Option.bind_some]
        exact Or.inl ⟨_, rfl, rfl, by simp only; rw [hsn]; exact hp⟩
      | true =>
        rw [ha] at hsn
        simp only [cond_true] at hsn
        have hn := actS_new hg hi ha
        obtain ⟨r, hr, hrp⟩ := s_put l xs[i].Irq (by omega) (fun hc => hn (hp.mem_iff.1 hc))
        simp only [cond_true, hr, Option.bind_some]
        refine Or.inl ⟨_, rfl, rfl, ?_⟩
        simp only
        rw [hsn]
        exact (hrp.trans (hp.cons _)).trans (List.perm_append_comm (l₁ := [xs[i].Irq])) ) (fun s hR => by
      obtain ⟨l, j⟩ := s
      obtain ⟨hj, hp⟩ := hR
      simp only at hj hp
      subst hj
      simp only [Int.lt_irrefl, decide_false, cond_false]
      rw [List.take_length] at hp
      exact ⟨_, rfl, hp⟩)
  rw [hA]
  exact ⟨A, rfl, hp⟩
theorem i_active (xs : List Slot) (h : xs.length ≤ 1048576) : M.i_activeIrqs xs = some (gxSortI (actS xs)) := by
  unfold M.i_activeIrqs
  rw [while_filter (xs := xs) isAct (·.Irq) (by omega)]
  · have hl : (actS xs).length < 4611686018427387904 := by
      unfold actS
      rw [List.length_map]
      have := List.length_filter_le isAct xs
      omega
    simp only [Option.bind_some]
    unfold M.slices_Sort_114
    have hl' : decide (((xs.filter isAct).map (·.Irq)).length < 4611686018427387904) = true := decide_eq_true hl
    rw [hl']
    rfl
  · intro i hi acc hacc
    have e0 : ((i : Int) < (xs.length : Int)) := by omega
    have hact : M.i_isActive xs[i] = some (isAct xs[i]) := by
      unfold M.i_isActive isAct
      cases (xs[i].State == 2) <;> rfl
    simp only [e0, decide_true, cond_true, gxIdx_nat hi, Option.bind_some, hact]
    cases isAct xs[i] with
    | false => rfl
    | true =>
      simp only [cond_true]
      rw [gxApp_ok (by simp; omega)]
      rfl
  · intro acc
    simp
theorem s_has (l : List Int) (x : Int) (h : l.length ≤ 1048576) : M.s_l1Has l x = some (decide (x ∈ l)) := by
  unfold M.s_l1Has
  rw [while_first (fun i => (i : Int)) (fun i => l.getD i 0 == x) (fun _ => (Sum.inr true : Unit ⊕ Bool)) (Sum.inl ()) l.length (by simp) (by omega)]
  · cases hf : (List.range l.length).find? (fun i => l.getD i 0 == x) with
    | none =>
      have : x ∉ l := fun hx => by
        obtain ⟨i, hi, he⟩ := List.getElem_of_mem hx
        have := List.find?_eq_none.1 hf i (List.mem_range.2 hi)
        rw [getD_at hi, he] at this
        simp at this
      simp [this]
    | some i =>
      obtain ⟨h1, h2, _⟩ := List.find?_range_eq_some.1 hf
      have h2 := List.mem_range.1 h2
      rw [getD_at h2, beq_iff_eq] at h1
      have : x ∈ l := h1 ▸ List.getElem_mem h2
      simp [this]
  · intro i hi
    have e0 : ((i : Int) < (l.length : Int)) := by omega
    simp only [e0, decide_true, cond_true, gxIdx_nat hi, Option.bind_some, getD_at hi, w64_succ (show i ≤ 4611686018427387904 by omega)]
    cases (l[i] == x) <;> rfl
  · simp
theorem i_equal (a b : List Int) (h : a.length ≤ 1048576) : M.slices_Equal_115 a b = some (decide (a = b)) := by
  unfold M.slices_Equal_115
  by_cases hl : a.length = b.length
  · have hlI : ((a.length : Int) != (b.length : Int)) = false := by simp [hl]
    rw [hlI, cond_false, while_all (fun i => (i : Int)) (fun i => a.getD i 0 == b.getD i 0) (Sum.inr false : Unit ⊕ Bool) (Sum.inl ()) a.length (by simp) (by omega)]
    · cases ha : (List.range a.length).all (fun i => a.getD i 0 == b.getD i 0) with
      | true =>
        have : a = b := by
          apply List.ext_getElem hl
          intro i h1 h2
          have := List.all_eq_true.1 ha i (List.mem_range.2 h1)
          rw [getD_at h1, getD_at h2] at this
          simpa using this
        simp [this]
      | false =>
        have : a ≠ b := fun e => by
          subst e
          rw [List.all_eq_false] at ha
          obtain ⟨i, _, hi⟩ := ha
          simp at hi
        simp [this]
    · intro i hi
      have e0 : ((i : Int) < (a.length : Int)) := by omega
      simp only [e0, decide_true, cond_true, gxIdx_nat hi, gxIdx_nat (show i < b.length by omega), Option.bind_some, getD_at hi, getD_at (show i < b.length by omega), bne, w64_succ (show i ≤ 4611686018427387904 by omega)]
      cases (a[i] == b[i]) <;> rfl
    · simp
  · have hlI : ((a.length : Int) != (b.length : Int)) = true := by simp; omega
    have : a ≠ b := fun e => hl (by rw [e])
    rw [hlI, cond_true]
    simp [this]
theorem sort_eq_iff (a b : List Int) : gxSortI a = gxSortI b ↔ a.Perm b := by
  unfold gxSortI
  constructor
  · intro h
    have h1 := (List.mergeSort_perm a (fun x y => decide (x ≤ y))).symm
    rw [h] at h1
    exact h1.trans (List.mergeSort_perm b _)
  · intro h
    have hs : ∀ l : List Int, (l.mergeSort fun x y => decide (x ≤ y)).Pairwise fun x y => decide (x ≤ y) = true := fun l => List.pairwise_mergeSort (fun a b c h1 h2 => by
      rw [decide_eq_true_eq] at *
      omega) (fun a b => by
      rw [Bool.or_eq_true, decide_eq_true_eq, decide_eq_true_eq]
      omega) l
    refine List.Perm.eq_of_pairwise (le := fun x y => decide (x ≤ y) = true) (fun x y _ _ h1 h2 => by
      rw [decide_eq_true_eq] at *
      omega) (hs a) (hs b) ?_
    exact ((List.mergeSort_perm a _).trans h).trans (List.mergeSort_perm b _).symm
def levS (xs : List Slot) (q : Int) : Int := (xs.getD (fndS xs q).toNat gS).Priority
theorem act_find {xs : List Slot} {q : Int} (h : q ∈ actS xs) : ¬ fndS xs q < 0 := by
  intro hn
  obtain ⟨s, hs, rfl⟩ := List.mem_map.1 h
  obtain ⟨hm, ha⟩ := List.mem_filter.1 hs
  obtain ⟨i, hi, rfl⟩ := List.getElem_of_mem hm
  have := fndS_neg.1 hn i hi
  unfold mtS at this
  simp [bne, isAct_ne ha] at this
theorem s_level (q : Queue) (irq : Int) (h : q.Slots.length ≤ 1048576) (hf : ¬ fndS q.Slots irq < 0) : M.s_l10Level q irq = some (levS q.Slots irq) := by
  unfold M.s_l10Level levS
  obtain ⟨i, hi, he, _⟩ := fndS_at hf
  rw [s_find _ _ h, Option.bind_some, he, gxIdx_nat hi, Option.bind_some, Int.toNat_natCast, getD_at hi]
theorem i_level (xs : List Slot) (irq : Int) (h : xs.length ≤ 1048576) (hf : ¬ fndS xs irq < 0) : M.i_priorityIn xs irq = some (levS xs irq) := by
  unfold M.i_priorityIn levS
  obtain ⟨i, hi, he, _⟩ := fndS_at hf
  rw [i_find _ _ h, Option.bind_some, he, gxIdx_nat hi, Option.bind_some, Int.toNat_natCast, getD_at hi]
def levsOk (xs : List Slot) (st : List Int) : Bool := (List.range st.length).all fun i => decide (i = 0) || decide (levS xs (st.getD (i - 1) 0) > levS xs (st.getD i 0))
def goodI (x : Interface) : Bool := inR x.Mask 0 16 && (goodQ x.Queue && (decide (gxSortI x.Stack = gxSortI (actS x.Queue.Slots)) && levsOk x.Queue.Slots x.Stack))
theorem goodQ_slots {q : Queue} (h : goodQ q = true) : goodS q.Slots = true := by
  unfold goodQ goodP at h
  simp only [Bool.and_eq_true] at h
  exact h.1.1
theorem s_goodI (x : Interface) (h : fitIf x) : M.s_l10Good x = some (goodI x) := by
  have hx := h.1
  have hq := h.2
  unfold M.s_l10Good goodI inR
  have hgq : M.s_l9Good (⟨x.Queue.Slots, x.Queue.Waiting⟩ : Queue) = some (goodQ x.Queue) := s_goodQ x.Queue hq
  simp only [s_in, hgq, Option.bind_some]
  cases (decide (0 ≤ x.Mask) && decide (x.Mask ≤ 16)) with
  | false => rfl
  | true => cases hg : goodQ x.Queue with
    | false => rfl
    | true =>
      have hs := goodQ_slots hg
      obtain ⟨A, hA, hp⟩ := s_active x.Queue.Slots hs
      have hnd : A.Nodup := hp.nodup_iff.2 (by have := actS_nodup hs x.Queue.Slots.length (Nat.le_refl _); rwa [List.take_length] at this)
      have hAl : A.length ≤ 1048576 := by
        rw [hp.length_eq]
        unfold actS
        rw [List.length_map]
        have := List.length_filter_le isAct x.Queue.Slots
        omega
      simp only [hA, Bool.not_true, cond_false, Option.bind_some, Bool.true_and]
      rw [while_upto (fun i => (i : Int)) (fun i => (decide (x.Stack.getD i 0 ∈ A) && !(decide (x.Stack.getD i 0 ∈ x.Stack.take i))) && (decide (i = 0) || decide (levS x.Queue.Slots (x.Stack.getD (i - 1) 0) > levS x.Queue.Slots (x.Stack.getD i 0)))) (Sum.inr false : Unit ⊕ Bool) (Sum.inl ()) x.Stack.length (by simp) (by omega)]
      · by_cases hperm : x.Stack.Perm A
        · have hsort : gxSortI x.Stack = gxSortI (actS x.Queue.Slots) := (sort_eq_iff _ _).2 (hperm.trans hp)
          have hndS : x.Stack.Nodup := hperm.nodup_iff.2 hnd
          have hlen : ((x.Stack.length : Int) == (A.length : Int)) = true := by rw [hperm.length_eq]; simp
          have hall : (List.range x.Stack.length).all (fun i => (decide (x.Stack.getD i 0 ∈ A) && !(decide (x.Stack.getD i 0 ∈ x.Stack.take i))) && (decide (i = 0) || decide (levS x.Queue.Slots (x.Stack.getD (i - 1) 0) > levS x.Queue.Slots (x.Stack.getD i 0)))) = levsOk x.Queue.Slots x.Stack := by
            unfold levsOk
            rw [Bool.eq_iff_iff, List.all_eq_true, List.all_eq_true]
            have hin : ∀ i, i < x.Stack.length → (decide (x.Stack.getD i 0 ∈ A) && !(decide (x.Stack.getD i 0 ∈ x.Stack.take i))) = true := fun i hi => by
              rw [getD_at hi]
              have h1 : x.Stack[i] ∈ A := hperm.mem_iff.1 (List.getElem_mem hi)
              have h2 : x.Stack[i] ∉ x.Stack.take i := fun hc => by
                obtain ⟨k, hk, hk2⟩ := List.getElem_of_mem hc
                have hki : k < i := by simp at hk; omega
                rw [List.getElem_take] at hk2
                have := (List.pairwise_iff_getElem.1 hndS) k i (by omega) hi hki
                exact this hk2
              simp [h1, h2]
            exact ⟨fun hh i hi => by have := hh i hi; rw [hin i (List.mem_range.1 hi)] at this; simpa using this, fun hh i hi => by rw [hin i (List.mem_range.1 hi)]; simpa using hh i hi⟩
          rw [hall, decide_eq_true hsort, Bool.true_and]
          cases levsOk x.Queue.Slots x.Stack with
          | false => rfl
          | true => simp only [cond_true, Option.bind_some, Sum.elim_inl, hlen]
        · have hsort : ¬ (gxSortI x.Stack = gxSortI (actS x.Queue.Slots)) := fun e => hperm (((sort_eq_iff _ _).1 e).trans hp.symm)
          rw [decide_eq_false hsort, Bool.false_and]
          cases hall : (List.range x.Stack.length).all (fun i => (decide (x.Stack.getD i 0 ∈ A) && !(decide (x.Stack.getD i 0 ∈ x.Stack.take i))) && (decide (i = 0) || decide (levS x.Queue.Slots (x.Stack.getD (i - 1) 0) > levS x.Queue.Slots (x.Stack.getD i 0)))) with
          | false => rfl
          | true =>
            rw [List.all_eq_true] at hall
            have hlen : ((x.Stack.length : Int) == (A.length : Int)) = false := by
              rw [beq_eq_false_iff_ne]
              intro hl
              refine hperm (nodup_perm ?_ (fun y hy => ?_) (by omega))
              · rw [List.Nodup, List.pairwise_iff_getElem]
                intro i j hi hj hij he
                have := hall j (List.mem_range.2 hj)
                simp only [Bool.and_eq_true, Bool.not_eq_true', decide_eq_false_iff_not] at this
                rw [getD_at hj] at this
                refine this.1.2 ?_
                rw [← he]
                have : x.Stack[i] = (x.Stack.take j)[i]'(by simp; omega) := by rw [List.getElem_take]
                rw [this]
                exact List.getElem_mem _
              · obtain ⟨i, hi, rfl⟩ := List.getElem_of_mem hy
                have := hall i (List.mem_range.2 hi)
                simp only [Bool.and_eq_true, decide_eq_true_eq] at this
                rw [getD_at hi] at this
                exact this.1.1
            simp only [cond_true, Option.bind_some, Sum.elim_inl, hlen]
      · intro i hi hprev
        have e0 : ((i : Int) < (x.Stack.length : Int)) := by omega
        have hsl : gxSlice x.Stack 0 (i : Int) = some (x.Stack.take i) := by
          unfold gxSlice
          rw [if_pos ⟨by omega, by omega, by omega⟩]
          simp
        simp only [e0, decide_true, cond_true, gxIdx_nat hi, Option.bind_some, s_has A _ hAl, hsl, s_has (x.Stack.take i) _ (show (x.Stack.take i).length ≤ 1048576 by simp; omega), getD_at hi, w64_succ (show i ≤ 4611686018427387904 by omega)]
        by_cases hin : x.Stack[i] ∈ A
        · by_cases hdup : x.Stack[i] ∈ x.Stack.take i
          · simp [hin, hdup]
          · by_cases h0 : i = 0
            · subst h0
              have hz : ¬ (((0 : Nat) : Int) > 0) := by omega
              simp [hin, hdup, hz]
            · have hz : ((i : Int) > 0) := by omega
              have hpl : i - 1 < x.Stack.length := by omega
              have hp1 := hprev (i - 1) (by omega)
              simp only [Bool.and_eq_true, decide_eq_true_eq] at hp1
              have hpa : x.Stack.getD (i - 1) 0 ∈ A := hp1.1.1
              have hl1 := s_level (⟨x.Queue.Slots, x.Queue.Waiting⟩ : Queue) (x.Stack.getD (i - 1) 0) hq.1 (act_find (hp.mem_iff.1 hpa))
              have hl2 := s_level (⟨x.Queue.Slots, x.Queue.Waiting⟩ : Queue) x.Stack[i] hq.1 (act_find (hp.mem_iff.1 hin))
              simp only [hin, hdup, hz, h0, decide_true, decide_false, Bool.not_true, Bool.not_false, cond_true, cond_false, Option.bind_some, Bool.true_and, Bool.false_or, gxIdx_prevZ (z := (0 : Int)) hi (show 0 < i by omega) (by omega), hl1, hl2]
              by_cases hlev : levS x.Queue.Slots (x.Stack.getD (i - 1) 0) ≤ levS x.Queue.Slots x.Stack[i]
              · have : ¬ (levS x.Queue.Slots (x.Stack.getD (i - 1) 0) > levS x.Queue.Slots x.Stack[i]) := by omega
                simp only [hlev, this, decide_true, decide_false, cond_true, cond_false]
              · have : (levS x.Queue.Slots (x.Stack.getD (i - 1) 0) > levS x.Queue.Slots x.Stack[i]) := by omega
                simp only [hlev, this, decide_true, decide_false, cond_true, cond_false]
        · simp [hin]
      · intro _
        simp
theorem i_goodI (x : Interface) (h : fitIf x) : M.i_IsInterface x = some (goodI x) := by
  have hx := h.1
  have hq := h.2
  unfold M.i_IsInterface goodI inR
  have hgq : M.i_IsQueue (⟨x.Queue.Slots, x.Queue.Waiting⟩ : Queue) = some (goodQ x.Queue) := i_goodQ x.Queue hq
  simp only [M.i_isMask, i_in, hgq, Option.bind_some]
  cases (decide (0 ≤ x.Mask) && decide (x.Mask ≤ 16)) with
  | false => rfl
  | true => cases hg : goodQ x.Queue with
    | false => rfl
    | true =>
      have hcp : M.i_copyInts x.Stack = some x.Stack := by
        unfold M.i_copyInts
        rw [gxApp_ok (by simp; omega)]
        rfl
      have hso : M.slices_Sort_114 x.Stack = some (gxSortI x.Stack) := by
        unfold M.slices_Sort_114
        rw [decide_eq_true (show x.Stack.length < 4611686018427387904 by omega)]
        rfl
      have hsl : (gxSortI x.Stack).length ≤ 1048576 := by simp [gxSortI]; omega
      simp only [Bool.not_true, cond_false, Bool.true_and, hcp, hso, i_active _ hq.1, i_equal _ _ hsl, Option.bind_some]
      by_cases hsort : gxSortI x.Stack = gxSortI (actS x.Queue.Slots)
      · have hperm := (sort_eq_iff _ _).1 hsort
        rw [decide_eq_true hsort]
        simp only [Bool.not_true, cond_false, Bool.true_and]
        have hin : ∀ i, (hi : i < x.Stack.length) → ¬ fndS x.Queue.Slots x.Stack[i] < 0 := fun i hi => act_find (hperm.mem_iff.1 (List.getElem_mem hi))
        rw [while_all (fun j => ((j + 1 : Nat) : Int)) (fun j => decide (levS x.Queue.Slots (x.Stack.getD j 0) > levS x.Queue.Slots (x.Stack.getD (j + 1) 0))) (Sum.inr false : Unit ⊕ Bool) (Sum.inl ()) (x.Stack.length - 1) (by simp) (by omega)]
        · have hlev : (List.range (x.Stack.length - 1)).all (fun j => decide (levS x.Queue.Slots (x.Stack.getD j 0) > levS x.Queue.Slots (x.Stack.getD (j + 1) 0))) = levsOk x.Queue.Slots x.Stack := by
            unfold levsOk
            rw [Bool.eq_iff_iff, List.all_eq_true, List.all_eq_true]
            constructor
            · intro hh i hi
              have hi := List.mem_range.1 hi
              by_cases h0 : i = 0
              · simp [h0]
              · have := hh (i - 1) (List.mem_range.2 (by omega))
                rw [Nat.sub_add_cancel (by omega)] at this
                simp only [h0, decide_false, Bool.false_or]
                exact this
            · intro hh j hj
              have := hh (j + 1) (List.mem_range.2 (by have := List.mem_range.1 hj; omega))
              simpa using this
          rw [hlev]
          cases levsOk x.Queue.Slots x.Stack <;> simp
        · intro j hj
          have hj1 : j + 1 < x.Stack.length := by omega
          have e0 : (((j + 1 : Nat) : Int) < (x.Stack.length : Int)) := by omega
          have hpr : gxIdx x.Stack (w64 (((j + 1 : Nat) : Int) - 1)) = some (x.Stack[j]'(by omega)) := by
            rw [w64_id (by omega) (by omega)]
            have e : ((j + 1 : Nat) : Int) - 1 = (j : Int) := by omega
            rw [e, gxIdx_nat (by omega)]
          simp only [e0, decide_true, cond_true, gxIdx_nat hj1, Option.bind_some, i_level _ _ hq.1 (hin (j + 1) hj1), hpr, i_level _ _ hq.1 (hin j (by omega)), getD_at hj1, getD_at (show j < x.Stack.length by omega), w64_succ (show j + 1 ≤ 4611686018427387904 by omega)]
          by_cases hlev : levS x.Queue.Slots x.Stack[j + 1] ≥ levS x.Queue.Slots (x.Stack[j]'(by omega))
          · have : ¬ (levS x.Queue.Slots (x.Stack[j]'(by omega)) > levS x.Queue.Slots x.Stack[j + 1]) := by omega
            simp only [hlev, this, decide_true, decide_false, cond_true, cond_false]
          · have : (levS x.Queue.Slots (x.Stack[j]'(by omega)) > levS x.Queue.Slots x.Stack[j + 1]) := by omega
            simp only [hlev, this, decide_true, decide_false, cond_true, cond_false]
        · have e0 : ¬ ((((x.Stack.length - 1) + 1 : Nat) : Int) < (x.Stack.length : Int)) := by omega
          simp only [e0, decide_false, cond_false]
      · rw [decide_eq_false hsort]
        rfl
end Go.Proofs.YtllhajkgkghhdaaGreat
set_option linter.unusedVariables false
set_option linter.unusedSimpArgs false
set_option maxHeartbeats 4000000
namespace Go.Proofs.YtllhajkgkghhdaaGreat
open Go.Gx
theorem i_routesZ (xs : List Route) (c : Int) (h : xs.length ≤ 1048576) : M.i_areRoutes xs c = some (okRts xs c) := by
  unfold M.i_areRoutes M.slices_ContainsFunc_109__i_areRoutes_1 M.slices_IndexFunc_159__i_areRoutes_1 okRts
  simp only [i_in, Option.bind_some]
  cases (decide (1 ≤ c) && decide (c ≤ 2)) with
  | false => rfl
  | true => cases ((xs.length : Int) == 8) with
    | false => rfl
    | true =>
      simp only [cond_true, Bool.true_and]
      rw [while_first (fun i => (i : Int)) (fun i => !(okRt c (xs.getD i ⟨0, 0⟩))) (fun i => (Sum.inr (i : Int) : Unit ⊕ Int)) (Sum.inl ()) xs.length (by simp) (by omega)]
      · cases hf : (List.range xs.length).find? (fun i => !(okRt c (xs.getD i ⟨0, 0⟩))) with
        | none =>
          have : (List.range xs.length).all (fun i => okRt c (xs.getD i ⟨0, 0⟩)) = true := by
            rw [List.all_eq_true]
            intro i hi
            have := List.find?_eq_none.1 hf i hi
            simpa using this
          rw [this]
          rfl
        | some i =>
          have h1 := List.find?_some hf
          have h2 := List.mem_of_find?_eq_some hf
          have : (List.range xs.length).all (fun i => okRt c (xs.getD i ⟨0, 0⟩)) = false := by
            rw [List.all_eq_false]
            exact ⟨i, h2, by simpa using h1⟩
          have hge : ((i : Int) ≥ 0) := by omega
          rw [this]
          simp only [Option.bind_some, Sum.elim_inr, hge, decide_true, Bool.not_true]
      · intro i hi
        have e0 : ((i : Int) < (xs.length : Int)) := by omega
        simp only [e0, decide_true, cond_true, gxIdx_nat hi, Option.bind_some, M.i_areRoutes_1, M.i_isPriority, i_in, getD_at hi, w64_succ (show i ≤ 4611686018427387904 by omega)]
        unfold okRt
        cases (decide (0 ≤ xs[i].Priority) && decide (xs[i].Priority ≤ 15)) with
        | false => rfl
        | true =>
          simp only [Bool.not_true, cond_false, Option.bind_some, Bool.true_and]
          cases (decide (0 ≤ xs[i].Target) && decide (xs[i].Target ≤ w64 (c - 1))) <;> rfl
      · simp
def gR : Route := ⟨0, 0⟩
def rtOk (rs : List Route) (k q p : Int) : Bool := (rs.getD q.toNat gR).Target == k && (rs.getD q.toNat gR).Priority == p
def fitOk (rs : List Route) (k : Int) (x : Interface) : Bool := (x.Queue.Slots.all fun s => !(s.State == 3)) && ((x.Queue.Slots.all fun s => (s.State == 0) || rtOk rs k s.Irq s.Priority) && (x.Queue.Waiting.all fun w => rtOk rs k w.Irq w.Priority))
theorem goodI_irqs {x : Interface} (h : goodI x = true) : (∀ s ∈ x.Queue.Slots, 0 ≤ s.Irq ∧ s.Irq ≤ 7) ∧ ∀ w ∈ x.Queue.Waiting, 0 ≤ w.Irq ∧ w.Irq ≤ 7 := by
  unfold goodI goodQ goodP goodS at h
  simp only [Bool.and_eq_true, List.all_eq_true] at h
  constructor
  · intro s hs
    obtain ⟨i, hi, rfl⟩ := List.getElem_of_mem hs
    have := h.2.1.1.1.2 i (List.mem_range.2 hi)
    unfold okSl inR at this
    rw [getD_at hi] at this
    simp only [Bool.and_eq_true, decide_eq_true_eq] at this
    exact this.2.1
  · intro w hw
    obtain ⟨i, hi, rfl⟩ := List.getElem_of_mem hw
    have := h.2.1.1.2 i (List.mem_range.2 hi)
    unfold okW inR at this
    rw [getD_at hi] at this
    simp only [Bool.and_eq_true, decide_eq_true_eq] at this
    exact this.1
theorem gxIdx_irq {rs : List Route} (hr : rs.length = 8) {q : Int} (hq : 0 ≤ q ∧ q ≤ 7) : gxIdx rs q = some (rs.getD q.toNat gR) := by
  obtain ⟨n, rfl⟩ : ∃ n : Nat, q = n := ⟨q.toNat, by omega⟩
  rw [gxIdx_nat (by omega), Int.toNat_natCast, getD_at (by omega)]
theorem range_all {α : Type} (xs : List α) (z : α) (p : α → Bool) : (List.range xs.length).all (fun i => p (xs.getD i z)) = xs.all p := by
  rw [Bool.eq_iff_iff, List.all_eq_true, List.all_eq_true]
  constructor
  · intro h x hx
    obtain ⟨i, hi, rfl⟩ := List.getElem_of_mem hx
    have := h i (List.mem_range.2 hi)
    rwa [getD_at hi] at this
  · intro h i hi
    have hi := List.mem_range.1 hi
    rw [getD_at hi]
    exact h _ (List.getElem_mem hi)
theorem s_fit (rs : List Route) (k : Int) (x : Interface) (hr : rs.length = 8) (h : fitIf x) (hg : goodI x = true) : M.s_l21Queue rs x.Queue k = some (fitOk rs k x) := by
  obtain ⟨g1, g2⟩ := goodI_irqs hg
  have hs := h.2.1
  have hw := h.2.2
  unfold M.s_l21Queue
  rw [while_all (fun i => (i : Int)) (fun i => (fun s : Slot => !(s.State == 3) && ((s.State == 0) || rtOk rs k s.Irq s.Priority)) (x.Queue.Slots.getD i gS)) (Sum.inr false : Unit ⊕ Bool) (Sum.inl ()) x.Queue.Slots.length (by simp) (by omega)]
  · rw [range_all x.Queue.Slots gS (fun s : Slot => !(s.State == 3) && ((s.State == 0) || rtOk rs k s.Irq s.Priority)), while_all (fun i => (i : Int)) (fun i => (fun w : Waiter => rtOk rs k w.Irq w.Priority) (x.Queue.Waiting.getD i gW)) (Sum.inr false : Unit ⊕ Bool) (Sum.inl ()) x.Queue.Waiting.length (by simp) (by omega)]
    · rw [range_all x.Queue.Waiting gW (fun w : Waiter => rtOk rs k w.Irq w.Priority)]
      unfold fitOk
      have : (x.Queue.Slots.all fun s : Slot => !(s.State == 3) && ((s.State == 0) || rtOk rs k s.Irq s.Priority)) = ((x.Queue.Slots.all fun s => !(s.State == 3)) && (x.Queue.Slots.all fun s => (s.State == 0) || rtOk rs k s.Irq s.Priority)) := by
        rw [Bool.eq_iff_iff]
        simp only [Bool.and_eq_true, List.all_eq_true]
        exact ⟨fun hh => ⟨fun s hs => (hh s hs).1, fun s hs => (hh s hs).2⟩, fun hh s hs => ⟨hh.1 s hs, hh.2 s hs⟩⟩
      rw [this, ← Bool.and_assoc]
      cases ((x.Queue.Slots.all fun s => !(s.State == 3)) && (x.Queue.Slots.all fun s => (s.State == 0) || rtOk rs k s.Irq s.Priority)) with
      | false => rfl
      | true => cases (x.Queue.Waiting.all fun w : Waiter => rtOk rs k w.Irq w.Priority) <;> rfl
    · intro i hi
      have e0 : ((i : Int) < (x.Queue.Waiting.length : Int)) := by omega
      simp only [e0, decide_true, cond_true, gxIdx_nat hi, Option.bind_some, gxIdx_irq hr (g2 _ (List.getElem_mem hi)), getD_at hi, w64_succ (show i ≤ 4611686018427387904 by omega), rtOk, bne]
      cases ((rs.getD x.Queue.Waiting[i].Irq.toNat gR).Target == k) with
      | false => rfl
      | true => cases ((rs.getD x.Queue.Waiting[i].Irq.toNat gR).Priority == x.Queue.Waiting[i].Priority) <;> rfl
    · simp
  · intro i hi
    have e0 : ((i : Int) < (x.Queue.Slots.length : Int)) := by omega
    simp only [e0, decide_true, cond_true, gxIdx_nat hi, Option.bind_some, gxIdx_irq hr (g1 _ (List.getElem_mem hi)), getD_at hi, w64_succ (show i ≤ 4611686018427387904 by omega), rtOk, bne]
    cases (x.Queue.Slots[i].State == 3) with
    | true => rfl
    | false => cases (x.Queue.Slots[i].State == 0) with
      | true => rfl
      | false => cases ((rs.getD x.Queue.Slots[i].Irq.toNat gR).Target == k) with
        | false => rfl
        | true => cases ((rs.getD x.Queue.Slots[i].Irq.toNat gR).Priority == x.Queue.Slots[i].Priority) <;> rfl
  · simp
theorem i_fit (rs : List Route) (k : Int) (x : Interface) (hr : rs.length = 8) (h : fitIf x) (hg : goodI x = true) : M.i_fitsRoutes rs k x = some (fitOk rs k x) := by
  obtain ⟨g1, g2⟩ := goodI_irqs hg
  have hs := h.2.1
  have hw := h.2.2
  unfold M.i_fitsRoutes
  have hcl : M.slices_Clone_118 x.Queue.Waiting = some x.Queue.Waiting := by
    unfold M.slices_Clone_118
    rw [gxApp_ok (by simp; omega)]
    rfl
  rw [hcl, Option.bind_some]
  rw [while_upto (fun i => (x.Queue.Waiting ++ ((x.Queue.Slots.take i).filter (fun s => s.State != 0)).map (fun s => (⟨s.Irq, s.Priority⟩ : Waiter)), (i : Int))) (fun i => !((x.Queue.Slots.getD i gS).State == 3)) (Sum.inr false : List Waiter ⊕ Bool) (Sum.inl (x.Queue.Waiting ++ (x.Queue.Slots.filter (fun s => s.State != 0)).map (fun s => (⟨s.Irq, s.Priority⟩ : Waiter)))) x.Queue.Slots.length (by simp) (by omega)]
  · rw [range_all x.Queue.Slots gS (fun s => !(s.State == 3))]
    unfold fitOk
    cases (x.Queue.Slots.all fun s => !(s.State == 3)) with
    | false => rfl
    | true =>
      simp only [cond_true, Option.bind_some, Sum.elim_inl, Bool.true_and]
      unfold M.slices_ContainsFunc_120__i_fitsRoutes_1 M.slices_IndexFunc_166__i_fitsRoutes_1
      generalize hL : x.Queue.Waiting ++ (x.Queue.Slots.filter (fun s => s.State != 0)).map (fun s => (⟨s.Irq, s.Priority⟩ : Waiter)) = L
      have hLl : L.length ≤ 4194304 := by
        rw [← hL, List.length_append, List.length_map]
        have := List.length_filter_le (fun s : Slot => s.State != 0) x.Queue.Slots
        omega
      have hLi : ∀ w ∈ L, 0 ≤ w.Irq ∧ w.Irq ≤ 7 := fun w hwm => by
        rw [← hL, List.mem_append] at hwm
        rcases hwm with h1 | h1
        · exact g2 w h1
        · obtain ⟨s, hs1, rfl⟩ := List.mem_map.1 h1
          exact g1 s (List.mem_filter.1 hs1).1
      have hval : (L.all fun w => rtOk rs k w.Irq w.Priority) = ((x.Queue.Slots.all fun s => (s.State == 0) || rtOk rs k s.Irq s.Priority) && (x.Queue.Waiting.all fun w => rtOk rs k w.Irq w.Priority)) := by
        rw [← hL, List.all_append, Bool.and_comm]
        congr 1
        rw [Bool.eq_iff_iff]
        simp only [List.all_eq_true, List.mem_map, List.mem_filter, bne, Bool.not_eq_true', Bool.or_eq_true]
        constructor
        · intro hh s hs1
          cases hz : (s.State == 0) with
          | true => exact Or.inl rfl
          | false => exact Or.inr (hh _ ⟨s, ⟨hs1, hz⟩, rfl⟩)
        · rintro hh w ⟨s, ⟨hs1, hz⟩, rfl⟩
          rcases hh s hs1 with h1 | h1
          · rw [hz] at h1; cases h1
          · exact h1
      rw [← hval]
      rw [while_first (fun i => (i : Int)) (fun i => !(rtOk rs k (L.getD i gW).Irq (L.getD i gW).Priority)) (fun i => (Sum.inr (i : Int) : Unit ⊕ Int)) (Sum.inl ()) L.length (by simp) (by omega)]
      · cases hf : (List.range L.length).find? (fun i => !(rtOk rs k (L.getD i gW).Irq (L.getD i gW).Priority)) with
        | none =>
          have : (L.all fun w => rtOk rs k w.Irq w.Priority) = true := by
            rw [← range_all L gW (fun w => rtOk rs k w.Irq w.Priority), List.all_eq_true]
            intro i hi
            have := List.find?_eq_none.1 hf i hi
            simpa using this
          rw [this]
          rfl
        | some i =>
          obtain ⟨h1, h2, _⟩ := List.find?_range_eq_some.1 hf
          have : (L.all fun w => rtOk rs k w.Irq w.Priority) = false := by
            rw [← range_all L gW (fun w => rtOk rs k w.Irq w.Priority), List.all_eq_false]
            exact ⟨i, h2, by simpa using h1⟩
          have hge : ((i : Int) ≥ 0) := by omega
          rw [this]
          simp [hge]
      · intro i hi
        have e0 : ((i : Int) < (L.length : Int)) := by omega
        simp only [e0, decide_true, cond_true, gxIdx_nat hi, Option.bind_some, M.i_fitsRoutes_1, gxIdx_irq hr (hLi _ (List.getElem_mem hi)), getD_at hi, w64_succ (show i ≤ 4611686018427387904 by omega), rtOk, Bool.and_true]
        cases ((rs.getD L[i].Irq.toNat gR).Priority == L[i].Priority) with
        | false => cases ((rs.getD L[i].Irq.toNat gR).Target == k) <;> rfl
        | true => cases ((rs.getD L[i].Irq.toNat gR).Target == k) <;> rfl
      · simp
  · intro i hi _
    have e0 : ((i : Int) < (x.Queue.Slots.length : Int)) := by omega
    have htk : (x.Queue.Slots.take (i + 1)).filter (fun s => s.State != 0) = (x.Queue.Slots.take i).filter (fun s => s.State != 0) ++ (bif x.Queue.Slots[i].State != 0 then [x.Queue.Slots[i]] else []) := by
      rw [List.take_add_one, List.getElem?_eq_getElem hi, Option.toList_some, List.filter_append]
      cases hz : (x.Queue.Slots[i].State != 0) <;> simp [hz]
    have hll : ((x.Queue.Slots.take i).filter (fun s => s.State != 0)).length ≤ i := by
      have := List.length_filter_le (fun s : Slot => s.State != 0) (x.Queue.Slots.take i)
      have h2 : (x.Queue.Slots.take i).length ≤ i := by simp; omega
      omega
    simp only [e0, decide_true, cond_true, gxIdx_nat hi, Option.bind_some, getD_at hi, M.i_waiterOf, w64_succ (show i ≤ 4611686018427387904 by omega), htk]
    cases (x.Queue.Slots[i].State == 3) with
    | true => rfl
    | false => cases (x.Queue.Slots[i].State != 0) with
      | false => simp
      | true =>
        simp only [cond_false, cond_true, Bool.not_false]
        rw [gxApp_ok (by simp; omega)]
        simp
  · intro _
    simp
def goodMc (m : Machine) : Bool := okRts m.Routes (m.Cpus.length : Int) && (((m.Enabled.length : Int) == 8) && (((m.Raised.length : Int) == 8) && (List.range m.Cpus.length).all (fun k => goodI (m.Cpus.getD k ⟨0, [], ⟨[], []⟩⟩) && fitOk m.Routes (k : Int) (m.Cpus.getD k ⟨0, [], ⟨[], []⟩⟩))))
theorem okRts_len {rs : List Route} {c : Int} (h : okRts rs c = true) : rs.length = 8 := by
  unfold okRts at h
  simp only [Bool.and_eq_true, beq_iff_eq] at h
  omega
theorem s_goodMc (m : Machine) (h : fitM m) : M.s_l21Good m = some (goodMc m) := by
  obtain ⟨h1, h2, h3, h4, h5, _⟩ := h
  unfold M.s_l21Good goodMc
  rw [s_routes m.Routes _ h1, Option.bind_some]
  cases hr : okRts m.Routes (m.Cpus.length : Int) with
  | false => rfl
  | true =>
    have hr8 := okRts_len hr
    simp only [bne, Bool.not_true, cond_false, Bool.true_and]
    cases ((m.Enabled.length : Int) == 8) with
    | false => rfl
    | true => cases ((m.Raised.length : Int) == 8) with
      | false => rfl
      | true =>
        simp only [Bool.not_true, cond_false, Bool.true_and, Option.bind_some]
        rw [while_all (fun i => (i : Int)) (fun k => goodI (m.Cpus.getD k ⟨0, [], ⟨[], []⟩⟩) && fitOk m.Routes (k : Int) (m.Cpus.getD k ⟨0, [], ⟨[], []⟩⟩)) (Sum.inr false : Unit ⊕ Bool) (Sum.inl ()) m.Cpus.length (by simp) (by omega)]
        · cases (List.range m.Cpus.length).all (fun k => goodI (m.Cpus.getD k ⟨0, [], ⟨[], []⟩⟩) && fitOk m.Routes (k : Int) (m.Cpus.getD k ⟨0, [], ⟨[], []⟩⟩)) <;> simp
        · intro k hk
          have e0 : ((k : Int) < (m.Cpus.length : Int)) := by omega
          have hf := h5 _ (List.getElem_mem hk)
          have hgi := s_goodI m.Cpus[k] hf
          simp only [e0, decide_true, cond_true, gxIdx_nat hk, Option.bind_some, getD_at hk, w64_succ (show k ≤ 4611686018427387904 by omega)]
          rw [hgi, Option.bind_some]
          cases hg : goodI m.Cpus[k] with
          | false => rfl
          | true =>
            have hft := s_fit m.Routes (k : Int) m.Cpus[k] hr8 hf hg
            simp only [Bool.not_true, cond_false, Bool.true_and]
            rw [hft, Option.bind_some]
            cases fitOk m.Routes (k : Int) m.Cpus[k] <;> rfl
        · simp
theorem i_goodMc (m : Machine) (h : fitM m) : M.i_IsMachine m = some (goodMc m) := by
  obtain ⟨h1, h2, h3, h4, h5, _⟩ := h
  unfold M.i_IsMachine goodMc
  rw [i_routesZ m.Routes _ h1, Option.bind_some]
  cases hr : okRts m.Routes (m.Cpus.length : Int) with
  | false => rfl
  | true =>
    have hr8 := okRts_len hr
    simp only [bne, Bool.not_true, cond_false, Bool.true_and]
    cases ((m.Enabled.length : Int) == 8) with
    | false => rfl
    | true => cases ((m.Raised.length : Int) == 8) with
      | false => rfl
      | true =>
        simp only [Bool.not_true, cond_false, Bool.true_and, Option.bind_some]
        rw [while_all (fun i => (i : Int)) (fun k => goodI (m.Cpus.getD k ⟨0, [], ⟨[], []⟩⟩) && fitOk m.Routes (k : Int) (m.Cpus.getD k ⟨0, [], ⟨[], []⟩⟩)) (Sum.inr false : Unit ⊕ Bool) (Sum.inl ()) m.Cpus.length (by simp) (by omega)]
        · cases (List.range m.Cpus.length).all (fun k => goodI (m.Cpus.getD k ⟨0, [], ⟨[], []⟩⟩) && fitOk m.Routes (k : Int) (m.Cpus.getD k ⟨0, [], ⟨[], []⟩⟩)) <;> simp
        · intro k hk
          have e0 : ((k : Int) < (m.Cpus.length : Int)) := by omega
          have hf := h5 _ (List.getElem_mem hk)
          have hgi := i_goodI m.Cpus[k] hf
          simp only [e0, decide_true, cond_true, gxIdx_nat hk, Option.bind_some, getD_at hk, w64_succ (show k ≤ 4611686018427387904 by omega)]
          rw [hgi, Option.bind_some]
          cases hg : goodI m.Cpus[k] with
          | false => rfl
          | true =>
            have hft := i_fit m.Routes (k : Int) m.Cpus[k] hr8 hf hg
            simp only [Bool.not_true, cond_false, Bool.true_and]
            rw [hft, Option.bind_some]
            cases fitOk m.Routes (k : Int) m.Cpus[k] <;> rfl
        · simp
end Go.Proofs.YtllhajkgkghhdaaGreat
set_option linter.unusedVariables false
set_option linter.unusedSimpArgs false
set_option maxHeartbeats 4000000
namespace Go.Proofs.YtllhajkgkghhdaaGreat
open Go.Gx
def ltK {α : Type} (key : α → Int) (a b : α) : Bool := decide (key a < key b)
def keyW (w : Waiter) : Int := 8 * w.Priority + w.Irq
def wOf (s : Slot) : Waiter := ⟨s.Irq, s.Priority⟩
def okWt (w : Waiter) : Prop := (0 ≤ w.Irq ∧ w.Irq ≤ 7) ∧ (0 ≤ w.Priority ∧ w.Priority ≤ 15)
def okSlt (s : Slot) : Prop := (0 ≤ s.State ∧ s.State ≤ 3) ∧ okWt (wOf s) ∧ (s.State = 0 → s.Irq = 0 ∧ s.Priority = 0)
def sepS (a b : Slot) : Prop := a.State = 0 ∨ b.State = 0 ∨ a.Irq ≠ b.Irq
theorem less_key {a b : Waiter} (ha : okWt a) (hb : okWt b) : lessU a.Priority a.Irq b.Priority b.Irq = decide (keyW a < keyW b) := by
  unfold okWt at ha hb
  unfold lessU keyW
  rw [Bool.eq_iff_iff]
  simp only [Bool.or_eq_true, Bool.and_eq_true, decide_eq_true_eq, beq_iff_eq]
  omega
structure GS (xs : List Slot) : Prop where
  len : xs.length = 4
  ok : ∀ s ∈ xs, okSlt s
  sep : xs.Pairwise sepS
theorem goodS_iff (xs : List Slot) : goodS xs = true ↔ GS xs := by
  unfold goodS
  rw [Bool.and_eq_true, beq_iff_eq, List.all_eq_true]
  constructor
  · rintro ⟨hl, h⟩
    have hb : ∀ i, (hi : i < xs.length) → okSlt xs[i] ∧ ∀ j, (hj : j < i) → sepS (xs[j]'(by omega)) xs[i] := fun i hi => by
      have := h i (List.mem_range.2 hi)
      unfold okSl inR freshS at this
      rw [getD_at hi] at this
      simp only [Bool.and_eq_true, decide_eq_true_eq] at this
      obtain ⟨h1, h2, h3, h4⟩ := this
      by_cases h0 : xs[i].State = 0
      · have e0 : (xs[i].State == 0) = true := by simp [h0]
        rw [e0, cond_true, Bool.and_eq_true, beq_iff_eq, beq_iff_eq] at h4
        exact ⟨⟨h1, ⟨h2, h3⟩, fun _ => h4⟩, fun j hj => Or.inr (Or.inl h0)⟩
      · have e0 : (xs[i].State == 0) = false := by simp [h0]
        rw [e0, cond_false, List.all_eq_true] at h4
        refine ⟨⟨h1, ⟨h2, h3⟩, fun h => absurd h h0⟩, fun j hj => ?_⟩
        have := h4 j (List.mem_range.2 hj)
        rw [getD_at (show j < xs.length by omega)] at this
        unfold mtS at this
        by_cases hz : (xs[j]'(by omega)).State = 0
        · exact Or.inl hz
        · refine Or.inr (Or.inr fun e => ?_)
          simp [hz, e] at this
    refine ⟨by omega, fun s hs => ?_, ?_⟩
    · obtain ⟨i, hi, rfl⟩ := List.getElem_of_mem hs
      exact (hb i hi).1
    · rw [List.pairwise_iff_getElem]
      intro i j hi hj hij
      exact (hb j hj).2 i hij
  · rintro ⟨hl, h1, h2⟩
    refine ⟨by omega, fun i hi => ?_⟩
    have hi := List.mem_range.1 hi
    obtain ⟨g1, ⟨g2, g3⟩, g4⟩ := h1 _ (List.getElem_mem hi)
    unfold okSl inR freshS
    rw [getD_at hi]
    simp only [wOf] at g2 g3
    simp only [Bool.and_eq_true, decide_eq_true_eq]
    refine ⟨g1, g2, g3, ?_⟩
    by_cases h0 : xs[i].State = 0
    · have e0 : (xs[i].State == 0) = true := by simp [h0]
      rw [e0, cond_true, Bool.and_eq_true, beq_iff_eq, beq_iff_eq]
      exact g4 h0
    · have e0 : (xs[i].State == 0) = false := by simp [h0]
      rw [e0, cond_false, List.all_eq_true]
      intro j hj
      have hj := List.mem_range.1 hj
      rw [getD_at (show j < xs.length by omega)]
      unfold mtS
      rcases List.pairwise_iff_getElem.1 h2 j i (by omega) hi hj with h | h | h
      · simp [h]
      · exact absurd h h0
      · simp [h]
structure GP (q : Queue) : Prop where
  s : GS q.Slots
  ok : ∀ w ∈ q.Waiting, okWt w
  ord : q.Waiting.Pairwise fun a b => keyW a < keyW b
  dist : (q.Waiting.map Waiter.Irq).Nodup
  apart : ∀ w ∈ q.Waiting, ∀ s ∈ q.Slots, s.State = 0 ∨ s.Irq ≠ w.Irq
theorem fndS_none {xs : List Slot} {q : Int} : fndS xs q < 0 ↔ ∀ s ∈ xs, s.State = 0 ∨ s.Irq ≠ q := by
  rw [fndS_neg]
  constructor
  · intro h s hs
    obtain ⟨i, hi, rfl⟩ := List.getElem_of_mem hs
    have := h i hi
    unfold mtS at this
    by_cases hz : xs[i].State = 0
    · exact Or.inl hz
    · refine Or.inr fun e => ?_
      simp [hz, e] at this
  · intro h i hi
    unfold mtS
    rcases h _ (List.getElem_mem hi) with h | h <;> simp [h]
theorem goodP_iff (q : Queue) : goodP q.Slots q.Waiting = true ↔ GP q := by
  unfold goodP
  rw [Bool.and_eq_true, goodS_iff, List.all_eq_true]
  constructor
  · rintro ⟨hs, h⟩
    have hb : ∀ i, (hi : i < q.Waiting.length) → okWt q.Waiting[i] ∧ fndS q.Slots q.Waiting[i].Irq < 0 ∧ (∀ j, (hj : j < i) → (q.Waiting[j]'(by omega)).Irq ≠ q.Waiting[i].Irq) ∧ (0 < i → lessU (q.Waiting[i - 1]'(by omega)).Priority (q.Waiting[i - 1]'(by omega)).Irq q.Waiting[i].Priority q.Waiting[i].Irq = true) := fun i hi => by
      have := h i (List.mem_range.2 hi)
      unfold okW inR freshW at this
      rw [getD_at hi, getD_at (show i - 1 < q.Waiting.length by omega)] at this
      simp only [Bool.and_eq_true, decide_eq_true_eq, List.all_eq_true, Bool.or_eq_true] at this
      obtain ⟨h1, h2, h3, h4, h5⟩ := this
      refine ⟨⟨h1, h2⟩, h3, fun j hj => ?_, fun h0 => ?_⟩
      · have := h4 j (List.mem_range.2 hj)
        rw [getD_at (show j < q.Waiting.length by omega)] at this
        simpa using this
      · rcases h5 with h5 | h5
        · omega
        · exact h5
    have hok : ∀ w ∈ q.Waiting, okWt w := fun w hw => by
      obtain ⟨i, hi, rfl⟩ := List.getElem_of_mem hw
      exact (hb i hi).1
    refine ⟨hs, hok, ?_, ?_, fun w hw s hsm => ?_⟩
    · rw [List.pairwise_iff_getElem]
      have key : ∀ d i, (hj : i + d + 1 < q.Waiting.length) → keyW (q.Waiting[i]'(by omega)) < keyW q.Waiting[i + d + 1] := by
        intro d
        induction d with
        | zero =>
          intro i hj
          have h4 := (hb (i + 1) hj).2.2.2 (by omega)
          have e : i + 1 - 1 = i := by omega
          simp only [e] at h4
          rw [less_key (hok _ (List.getElem_mem _)) (hok _ (List.getElem_mem _)), decide_eq_true_eq] at h4
          exact h4
        | succ d ih =>
          intro i hj
          have h3 := ih i (by omega)
          have h4 := (hb (i + (d + 1) + 1) hj).2.2.2 (by omega)
          have e : i + (d + 1) + 1 - 1 = i + d + 1 := by omega
          simp only [e] at h4
          rw [less_key (hok _ (List.getElem_mem _)) (hok _ (List.getElem_mem _)), decide_eq_true_eq] at h4
          omega
      intro i j hi hj hij
      have := key (j - i - 1) i (by omega)
      simp only [show i + (j - i - 1) + 1 = j by omega] at this
      exact this
    · rw [List.Nodup, List.pairwise_map, List.pairwise_iff_getElem]
      intro i j hi hj hij
      exact (hb j hj).2.2.1 i hij
    · obtain ⟨i, hi, rfl⟩ := List.getElem_of_mem hw
      exact fndS_none.1 (hb i hi).2.1 s hsm
  · rintro ⟨hs, hok, ho, hd, ha⟩
    refine ⟨hs, fun i hi => ?_⟩
    have hi := List.mem_range.1 hi
    obtain ⟨g1, g2⟩ := hok _ (List.getElem_mem hi)
    unfold okW inR freshW
    rw [getD_at hi, getD_at (show i - 1 < q.Waiting.length by omega)]
    simp only [Bool.and_eq_true, decide_eq_true_eq, List.all_eq_true, Bool.or_eq_true]
    refine ⟨g1, g2, fndS_none.2 (ha _ (List.getElem_mem hi)), fun j hj => ?_, ?_⟩
    · have hj := List.mem_range.1 hj
      rw [getD_at (show j < q.Waiting.length by omega)]
      rw [List.Nodup, List.pairwise_map, List.pairwise_iff_getElem] at hd
      have := hd j i (by omega) hi hj
      simpa using this
    · by_cases h0 : i = 0
      · exact Or.inl h0
      · refine Or.inr ?_
        rw [less_key (hok _ (List.getElem_mem _)) (hok _ (List.getElem_mem _)), decide_eq_true_eq]
        exact List.pairwise_iff_getElem.1 ho (i - 1) i (by omega) hi (by omega)
theorem frS_neg {xs : List Slot} : frS xs < 0 ↔ ∀ s ∈ xs, s.State ≠ 0 := by
  unfold frS
  refine Iff.trans (first_lt (n := xs.length) (p := fun i => (xs.getD i gS).State == 0)) ?_
  constructor
  · intro h s hs
    obtain ⟨i, hi, rfl⟩ := List.getElem_of_mem hs
    have := h i hi
    rw [getD_at hi] at this
    simpa using this
  · intro h i hi
    rw [getD_at hi]
    simpa using h _ (List.getElem_mem hi)
theorem frS_at {xs : List Slot} (h : ¬ frS xs < 0) : ∃ i : Nat, ∃ hi : i < xs.length, frS xs = (i : Int) ∧ xs[i].State = 0 := by
  unfold frS at h ⊢
  cases hf : (List.range xs.length).find? (fun i => (xs.getD i gS).State == 0) with
  | none => rw [hf] at h; simp at h
  | some i =>
    obtain ⟨h1, h2, _⟩ := List.find?_range_eq_some.1 hf
    have h2 := List.mem_range.1 h2
    rw [getD_at h2] at h1
    exact ⟨i, h2, rfl, by simpa using h1⟩
theorem bestF_least {xs : List Slot} (hg : ∀ s ∈ xs, okSlt s) : ∀ n, n ≤ xs.length → (bestF xs n < 0 ∧ ∀ i, (hi : i < xs.length) → i < n → xs[i].State ≠ 1) ∨ ∃ k, ∃ hk : k < xs.length, k < n ∧ bestF xs n = (k : Int) ∧ xs[k].State = 1 ∧ ∀ i, (hi : i < xs.length) → i < n → xs[i].State = 1 → keyW (wOf xs[i]) ≤ keyW (wOf xs[k])
  | 0, _ => Or.inl ⟨by simp [bestF], fun i hi h => by omega⟩
  | n + 1, hn => by
    have ih := bestF_least hg n (by omega)
    have hnl : n < xs.length := by omega
    have hb : bestF xs (n + 1) = bif xs[n].State == 1 then (bif decide (bestF xs n < 0) || lessU (xs.getD (bestF xs n).toNat gS).Priority (xs.getD (bestF xs n).toNat gS).Irq xs[n].Priority xs[n].Irq then (n : Int) else bestF xs n) else bestF xs n := by
      rw [bestF, getD_at hnl]
    rw [hb]
    by_cases h1 : xs[n].State = 1
    · have e1 : (xs[n].State == 1) = true := by simp [h1]
      rw [e1, cond_true]
      rcases ih with ⟨h2, h3⟩ | ⟨k, hk, hkn, h2, h3, h4⟩
      · have e2 : decide (bestF xs n < 0) = true := by simp [h2]
        rw [e2, Bool.true_or, cond_true]
        refine Or.inr ⟨n, hnl, by omega, rfl, h1, fun i hi hin hs => ?_⟩
        by_cases e : i = n
        · subst e; exact Int.le_refl _
        · exact absurd hs (h3 i hi (by omega))
      · have e2 : decide (bestF xs n < 0) = false := by rw [h2]; simp
        rw [e2, Bool.false_or, h2, Int.toNat_natCast, getD_at hk]
        have hl := less_key (a := wOf xs[k]) (b := wOf xs[n]) (hg _ (List.getElem_mem hk)).2.1 (hg _ (List.getElem_mem hnl)).2.1
        simp only [wOf] at hl
        rw [hl]
        by_cases hlt : keyW (wOf xs[k]) < keyW (wOf xs[n])
        · simp only [wOf] at hlt
          simp only [hlt, decide_true, cond_true]
          refine Or.inr ⟨n, hnl, by omega, rfl, h1, fun i hi hin hs => ?_⟩
          by_cases e : i = n
          · subst e; exact Int.le_refl _
          · have := h4 i hi (by omega) hs
            simp only [wOf] at this ⊢
            omega
        · have hlt' := hlt
          simp only [wOf] at hlt'
          simp only [hlt', decide_false, cond_false]
          refine Or.inr ⟨k, hk, by omega, rfl, h3, fun i hi hin hs => ?_⟩
          by_cases e : i = n
          · subst e; omega
          · exact h4 i hi (by omega) hs
    · have e1 : (xs[n].State == 1) = false := by simp [h1]
      rw [e1, cond_false]
      rcases ih with ⟨h2, h3⟩ | ⟨k, hk, hkn, h2, h3, h4⟩
      · refine Or.inl ⟨h2, fun i hi hin => ?_⟩
        by_cases e : i = n
        · subst e; exact h1
        · exact h3 i hi (by omega)
      · refine Or.inr ⟨k, hk, by omega, h2, h3, fun i hi hin hs => ?_⟩
        by_cases e : i = n
        · subst e; exact absurd hs h1
        · exact h4 i hi (by omega) hs
def calm (q : Queue) : Prop := q.Waiting = [] ∨ ((∀ s ∈ q.Slots, s.State ≠ 0) ∧ ∀ s ∈ q.Slots, s.State = 1 → ∀ w ∈ q.Waiting, keyW (wOf s) < keyW w)
theorem setQ_iff {q : Queue} (h : GP q) : setQ q = true ↔ calm q := by
  unfold setQ calm
  cases hw : q.Waiting with
  | nil => simp
  | cons w0 r =>
    have e0 : (((w0 :: r).length : Int) == 0) = false := by simp; omega
    rw [e0, cond_false]
    have hok := h.ok
    have hord := h.ord
    rw [hw] at hok hord
    rw [List.pairwise_cons] at hord
    by_cases hf : frS q.Slots < 0
    · have e1 : decide (frS q.Slots ≥ 0) = false := by simp; omega
      rw [e1, cond_false]
      have hf' := frS_neg.1 hf
      rcases bestF_least h.s.ok q.Slots.length (Nat.le_refl _) with ⟨h2, h3⟩ | ⟨k, hk, hkn, h2, h3, h4⟩
      · have e2 : decide (bestF q.Slots q.Slots.length < 0) = true := by simp [h2]
        rw [e2, cond_true]
        refine ⟨fun _ => Or.inr ⟨hf', fun s hs h1 => ?_⟩, fun _ => rfl⟩
        obtain ⟨i, hi, rfl⟩ := List.getElem_of_mem hs
        exact absurd h1 (h3 i hi hi)
      · have e2 : decide (bestF q.Slots q.Slots.length < 0) = false := by rw [h2]; simp
        rw [e2, cond_false, h2, Int.toNat_natCast, getD_at hk]
        have hl := less_key (a := wOf q.Slots[k]) (b := w0) (h.s.ok _ (List.getElem_mem hk)).2.1 (hok w0 (by simp))
        simp only [wOf] at hl
        simp only [List.getD_cons_zero]
        rw [hl]
        refine Iff.trans decide_eq_true_iff ?_
        constructor
        · intro hlt
          refine Or.inr ⟨hf', fun s hs h1 w hwm => ?_⟩
          obtain ⟨i, hi, rfl⟩ := List.getElem_of_mem hs
          have h5 := h4 i hi hi h1
          have h6 : keyW w0 ≤ keyW w := by
            rcases List.mem_cons.1 hwm with rfl | hwm
            · exact Int.le_refl _
            · have := hord.1 w hwm; omega
          simp only [wOf] at h5 ⊢
          omega
        · rintro (h5 | ⟨_, h5⟩)
          · cases h5
          · exact h5 _ (List.getElem_mem hk) h3 w0 (by simp)
    · have e1 : decide (frS q.Slots ≥ 0) = true := by simp; omega
      rw [e1, cond_true]
      constructor
      · intro h5; cases h5
      · rintro (h5 | ⟨h5, _⟩)
        · cases h5
        · exact absurd (frS_neg.2 h5) hf
def GQ (q : Queue) : Prop := GP q ∧ calm q
theorem goodQ_iff (q : Queue) : goodQ q = true ↔ GQ q := by
  unfold goodQ GQ
  rw [Bool.and_eq_true]
  constructor
  · rintro ⟨h1, h2⟩
    have h1 := (goodP_iff q).1 h1
    exact ⟨h1, (setQ_iff h1).1 h2⟩
  · rintro ⟨h1, h2⟩
    exact ⟨(goodP_iff q).2 h1, (setQ_iff h1).2 h2⟩
def isPd (s : Slot) : Bool := s.State == 1 || s.State == 3
def pendW (q : Queue) : List Waiter := q.Waiting ++ (q.Slots.filter isPd).map wOf
theorem pend_ok {q : Queue} (h : GP q) : ∀ w ∈ pendW q, okWt w := fun w hw => by
  unfold pendW at hw
  rcases List.mem_append.1 hw with hw | hw
  · exact h.ok w hw
  · obtain ⟨s, hs, rfl⟩ := List.mem_map.1 hw
    exact (h.s.ok s (List.mem_filter.1 hs).1).2.1
theorem sep_irqs : ∀ {xs : List Slot}, xs.Pairwise sepS → ∀ p : Slot → Bool, (∀ s, p s = true → s.State ≠ 0) → ((xs.filter p).map Slot.Irq).Nodup
  | [], _, _, _ => by simp
  | x :: r, h, p, hp => by
    rw [List.pairwise_cons] at h
    have ih := sep_irqs h.2 p hp
    by_cases hx : p x = true
    · rw [List.filter_cons_of_pos hx, List.map_cons, List.nodup_cons]
      refine ⟨fun hm => ?_, ih⟩
      obtain ⟨s, hs, he⟩ := List.mem_map.1 hm
      obtain ⟨hs1, hs2⟩ := List.mem_filter.1 hs
      rcases h.1 s hs1 with h1 | h1 | h1
      · exact hp x hx h1
      · exact hp s hs2 h1
      · exact h1 he.symm
    · rw [List.filter_cons_of_neg hx]
      exact ih
theorem isPd_ne {s : Slot} (h : isPd s = true) : s.State ≠ 0 := by
  unfold isPd at h
  intro e
  rw [e] at h
  simp at h
theorem pend_dist {q : Queue} (h : GP q) : ((pendW q).map Waiter.Irq).Nodup := by
  unfold pendW
  rw [List.map_append, List.nodup_append]
  refine ⟨h.dist, ?_, fun a ha b hb hab => ?_⟩
  · have := sep_irqs h.s.sep isPd (fun s hs => isPd_ne hs)
    rw [List.map_map]
    exact this
  · obtain ⟨w, hw, rfl⟩ := List.mem_map.1 ha
    obtain ⟨u, hu, rfl⟩ := List.mem_map.1 hb
    obtain ⟨s, hs, rfl⟩ := List.mem_map.1 hu
    obtain ⟨hs1, hs2⟩ := List.mem_filter.1 hs
    rcases h.apart w hw s hs1 with h1 | h1
    · exact isPd_ne hs2 h1
    · exact h1 hab.symm
theorem urg_uniq {A B : List Waiter} (hA : ordered keyW A) (hB : ordered keyW B) (hp : A.Perm B) (hok : ∀ w ∈ A, okWt w) (hd : (A.map Waiter.Irq).Nodup) : A = B := by
  refine ordered_uniq keyW ?_ hB hp
  have h1 : A.Pairwise fun a b => a.Irq ≠ b.Irq := by
    rw [List.Nodup, List.pairwise_map] at hd
    exact hd
  unfold ordered at hA
  rw [List.pairwise_iff_getElem] at hA h1 ⊢
  intro i j hi hj hij
  have g1 := hA i j hi hj hij
  have g2 := h1 i j hi hj hij
  have g3 := hok _ (List.getElem_mem hi)
  have g4 := hok _ (List.getElem_mem hj)
  unfold okWt at g3 g4
  unfold keyW at g1 ⊢
  omega
def sortW (q : Queue) : List Waiter := isortL (ltK keyW) (pendW q)
theorem sortW_is {q : Queue} (h : GP q) {L : List Waiter} (ho : ordered keyW L) (hp : L.Perm (pendW q)) : L = sortW q := by
  have h1 := isortL_perm (ltK keyW) (pendW q)
  refine (urg_uniq (isortL_ord keyW _) ho (h1.trans hp.symm) (fun w hw => pend_ok h w (h1.mem_iff.1 hw)) ?_).symm
  exact ((h1.map Waiter.Irq).nodup_iff).2 (pend_dist h)
theorem sortW_perm {q r : Queue} (h : GP q) (hp : (pendW r).Perm (pendW q)) : sortW r = sortW q :=
  sortW_is h (isortL_ord keyW _) ((isortL_perm _ _).trans hp)
end Go.Proofs.YtllhajkgkghhdaaGreat
set_option linter.unusedVariables false
set_option linter.unusedSimpArgs false
set_option maxHeartbeats 4000000
namespace Go.Proofs.YtllhajkgkghhdaaGreat
open Go.Gx
theorem set_cut {α : Type} {xs : List α} {i : Nat} (hi : i < xs.length) (y : α) : xs = xs.take i ++ xs[i] :: xs.drop (i + 1) ∧ xs.set i y = xs.take i ++ y :: xs.drop (i + 1) := by
  refine ⟨?_, ?_⟩
  · conv => lhs; rw [← List.take_append_drop i xs, List.drop_eq_getElem_cons hi]
  · rw [List.set_eq_take_append_cons_drop, if_pos hi]
theorem sepS_symm {a b : Slot} (h : sepS a b) : sepS b a := by
  rcases h with h | h | h
  · exact Or.inr (Or.inl h)
  · exact Or.inl h
  · exact Or.inr (Or.inr fun e => h e.symm)
theorem pw_set {α : Type} {R : α → α → Prop} (hR : ∀ {a b}, R a b → R b a) {xs : List α} (h : xs.Pairwise R) {i : Nat} (hi : i < xs.length) {y : α} (hy : ∀ j, (hj : j < xs.length) → j ≠ i → R xs[j] y) : (xs.set i y).Pairwise R := by
  rw [List.pairwise_iff_getElem] at h ⊢
  intro a b ha hb hab
  rw [List.length_set] at ha hb
  rw [List.getElem_set, List.getElem_set]
  by_cases e1 : i = a
  · rw [if_pos e1, if_neg (by omega)]
    exact hR (hy b hb (by omega))
  · rw [if_neg e1]
    by_cases e2 : i = b
    · rw [if_pos e2]
      exact hy a ha (by omega)
    · rw [if_neg e2]
      exact h a b ha hb hab
theorem gs_set {xs : List Slot} (h : GS xs) {i : Nat} (hi : i < xs.length) {y : Slot} (hy : okSlt y) (hs : ∀ j, (hj : j < xs.length) → j ≠ i → sepS xs[j] y) : GS (xs.set i y) := by
  refine ⟨by rw [List.length_set]; exact h.len, fun s hsm => ?_, pw_set sepS_symm h.sep hi hs⟩
  obtain ⟨j, hj, rfl⟩ := List.getElem_of_mem hsm
  rw [List.length_set] at hj
  rw [List.getElem_set]
  split
  · exact hy
  · exact h.ok _ (List.getElem_mem hj)
theorem sep_at {xs : List Slot} (h : xs.Pairwise sepS) {i j : Nat} (hi : i < xs.length) (hj : j < xs.length) (hij : j ≠ i) : sepS xs[j] xs[i] := by
  rw [List.pairwise_iff_getElem] at h
  rcases Nat.lt_or_gt_of_ne hij with g | g
  · exact h j i hj hi g
  · exact sepS_symm (h i j hi hj g)
theorem mem_set_iff {xs : List Slot} {i : Nat} (hi : i < xs.length) {y s : Slot} (h : s ∈ xs.set i y) : s = y ∨ ∃ j, ∃ hj : j < xs.length, j ≠ i ∧ s = xs[j] := by
  obtain ⟨j, hj, rfl⟩ := List.getElem_of_mem h
  rw [List.length_set] at hj
  rw [List.getElem_set]
  split
  · exact Or.inl rfl
  · rename_i hne
    exact Or.inr ⟨j, hj, fun e => hne e.symm, rfl⟩
def insU (ws : List Waiter) (w : Waiter) : List Waiter := ws.takeWhile (fun x => decide (keyW x < keyW w)) ++ w :: ws.dropWhile (fun x => decide (keyW x < keyW w))
theorem insU_perm (ws : List Waiter) (w : Waiter) : (insU ws w).Perm (w :: ws) := by
  unfold insU
  refine List.perm_middle.trans ?_
  rw [List.takeWhile_append_dropWhile]
theorem insU_ord {w : Waiter} : ∀ {ws : List Waiter}, (ws.Pairwise fun a b => keyW a < keyW b) → (∀ x ∈ ws, keyW x ≠ keyW w) → (insU ws w).Pairwise fun a b => keyW a < keyW b
  | [], _, _ => by simp [insU]
  | x :: r, h, hne => by
    rw [List.pairwise_cons] at h
    unfold insU
    by_cases hx : keyW x < keyW w
    · rw [List.takeWhile_cons_of_pos (by simpa using hx), List.dropWhile_cons_of_pos (by simpa using hx), List.cons_append, List.pairwise_cons]
      have ih := insU_ord h.2 fun y hy => hne y (by simp [hy])
      refine ⟨fun y hy => ?_, ih⟩
      have hm : y ∈ w :: r := (insU_perm r w).mem_iff.1 hy
      rcases List.mem_cons.1 hm with rfl | hm
      · exact hx
      · exact h.1 y hm
    · rw [List.takeWhile_cons_of_neg (by simpa using hx), List.dropWhile_cons_of_neg (by simpa using hx), List.nil_append, List.pairwise_cons]
      have hxw := hne x (by simp)
      refine ⟨fun y hy => ?_, ?_⟩
      · rcases List.mem_cons.1 hy with rfl | hy
        · omega
        · have := h.1 y hy
          omega
      · rw [List.pairwise_cons]
        exact h
theorem irq_key {a b : Waiter} (ha : okWt a) (hb : okWt b) (h : a.Irq ≠ b.Irq) : keyW a ≠ keyW b := by
  unfold okWt at ha hb
  unfold keyW
  omega
theorem insU_ordered {w : Waiter} {ws : List Waiter} (h : ordered keyW ws) : ordered keyW (insU ws w) := by
  induction ws with
  | nil => simp [insU, ordered]
  | cons x r ih =>
    unfold ordered at h ⊢
    rw [List.pairwise_cons] at h
    unfold insU
    by_cases hx : keyW x < keyW w
    · rw [List.takeWhile_cons_of_pos (by simpa using hx), List.dropWhile_cons_of_pos (by simpa using hx), List.cons_append, List.pairwise_cons]
      refine ⟨fun y hy => ?_, ih h.2⟩
      have hm : y ∈ w :: r := (insU_perm r w).mem_iff.1 hy
      rcases List.mem_cons.1 hm with rfl | hm
      · omega
      · exact h.1 y hm
    · rw [List.takeWhile_cons_of_neg (by simpa using hx), List.dropWhile_cons_of_neg (by simpa using hx), List.nil_append, List.pairwise_cons]
      refine ⟨fun y hy => ?_, ?_⟩
      · rcases List.mem_cons.1 hy with rfl | hy
        · omega
        · have := h.1 y hy
          omega
      · rw [List.pairwise_cons]
        exact h
def actM (xs : List Slot) : List (Option Slot) := xs.map fun s => bif isAct s then some s else none
theorem actM_set {xs : List Slot} {i : Nat} (hi : i < xs.length) {y : Slot} (h1 : isAct xs[i] = false) (h2 : isAct y = false) : actM (xs.set i y) = actM xs := by
  unfold actM
  rw [List.map_set, h2, cond_false]
  apply List.ext_getElem (by simp)
  intro j hj1 hj2
  rw [List.getElem_set]
  split
  · rename_i e
    subst e
    rw [List.getElem_map, h1, cond_false]
  · rfl
def headW (q : Queue) : Waiter := q.Waiting.getD 0 gW
def pendS (w : Waiter) : Slot := ⟨1, w.Irq, w.Priority⟩
def stepQ (q : Queue) : Queue :=
  bif decide (frS q.Slots < 0) then ⟨q.Slots.set (bestF q.Slots q.Slots.length).toNat (pendS (headW q)), insU (q.Waiting.drop 1) (wOf (q.Slots.getD (bestF q.Slots q.Slots.length).toNat gS))⟩
  else ⟨q.Slots.set (frS q.Slots).toNat (pendS (headW q)), q.Waiting.drop 1⟩
def muS (s : Slot) : Nat := bif s.State == 0 then 1000 else (bif s.State == 1 then (keyW (wOf s)).toNat else 0)
def mu (xs : List Slot) : Nat := (xs.map muS).sum
theorem mu_set {xs : List Slot} {i : Nat} (hi : i < xs.length) (y : Slot) : mu (xs.set i y) + muS xs[i] = mu xs + muS y := by
  obtain ⟨h1, h2⟩ := set_cut hi y
  have e1 : mu xs = ((xs.take i).map muS).sum + (muS xs[i] + ((xs.drop (i + 1)).map muS).sum) := by
    unfold mu
    conv => lhs; rw [h1]
    simp only [List.map_append, List.map_cons, List.sum_append, List.sum_cons]
  have e2 : mu (xs.set i y) = ((xs.take i).map muS).sum + (muS y + ((xs.drop (i + 1)).map muS).sum) := by
    unfold mu
    rw [h2]
    simp
  omega
theorem key_range {w : Waiter} (h : okWt w) : 0 ≤ keyW w ∧ keyW w ≤ 127 := by
  unfold okWt at h
  unfold keyW
  omega
theorem mu_le {xs : List Slot} (h : GS xs) : mu xs ≤ 4000 := by
  have key : ∀ l : List Slot, (∀ s ∈ l, okSlt s) → mu l ≤ 1000 * l.length := by
    intro l
    induction l with
    | nil => intro _; simp [mu]
    | cons s r ih =>
      intro hl
      have h1 := ih fun x hx => hl x (by simp [hx])
      have h2 : muS s ≤ 1000 := by
        have := key_range (hl s (by simp)).2.1
        unfold muS
        cases (s.State == 0) with
        | true => simp
        | false => cases (s.State == 1) with
          | true => simp only [cond_false, cond_true]; omega
          | false => simp
      simp only [mu, List.map_cons, List.sum_cons, List.length_cons] at h1 ⊢
      omega
  have := key xs h.ok
  rw [h.len] at this
  omega
structure kept (q r : Queue) : Prop where
  p : GP r
  pend : (pendW r).Perm (pendW q)
  act : actM r.Slots = actM q.Slots
theorem pend_cut (A B : List Slot) (x : Slot) (W : List Waiter) : (pendW ⟨A ++ x :: B, W⟩).Perm ((bif isPd x then [wOf x] else []) ++ (W ++ ((A.filter isPd).map wOf ++ (B.filter isPd).map wOf))) := by
  unfold pendW
  simp only [List.filter_append, List.map_append]
  cases hx : isPd x with
  | true =>
    rw [List.filter_cons_of_pos hx]
    simp only [List.map_cons, cond_true, List.cons_append, List.nil_append]
    refine (List.Perm.append_left W List.perm_middle).trans ?_
    exact List.perm_middle
  | false =>
    rw [List.filter_cons_of_neg (by simp [hx])]
    simp only [cond_false, List.nil_append]
    exact List.Perm.refl _
theorem okSlt_pend {w : Waiter} (h : okWt w) : okSlt (pendS w) := ⟨by simp [pendS], h, fun e => by simp [pendS] at e⟩
theorem headW_cons {q : Queue} {w : Waiter} {r : List Waiter} (h : q.Waiting = w :: r) : headW q = w ∧ q.Waiting.drop 1 = r := by
  unfold headW
  rw [h]
  simp
theorem step_kept {q : Queue} (h : GP q) (hc : setQ q = false) : kept q (stepQ q) ∧ mu (stepQ q).Slots < mu q.Slots := by
  have hn : ¬ calm q := fun e => by rw [(setQ_iff h).2 e] at hc; cases hc
  unfold calm at hn
  have hne : q.Waiting ≠ [] := fun e => hn (Or.inl e)
  obtain ⟨w, r, hw⟩ := List.exists_cons_of_ne_nil hne
  obtain ⟨e1, e2⟩ := headW_cons hw
  have hok := h.ok
  have hord := h.ord
  have hdist := h.dist
  have hap := h.apart
  rw [hw] at hok hord hdist hap
  rw [List.pairwise_cons] at hord
  rw [List.map_cons, List.nodup_cons] at hdist
  have okw := hok w (by simp)
  have hq : q = ⟨q.Slots, w :: r⟩ := by rw [← hw]
  have hr : ∀ x ∈ r, x.Irq ≠ w.Irq := fun x hx e => hdist.1 (by rw [← e]; exact List.mem_map_of_mem hx)
  unfold stepQ
  rw [e1, e2]
  by_cases hf : frS q.Slots < 0
  · have hf' := frS_neg.1 hf
    simp only [hf, decide_true, cond_true]
    rcases bestF_least h.s.ok q.Slots.length (Nat.le_refl _) with ⟨h2, h3⟩ | ⟨k, hk, hkn, h2, h3, h4⟩
    · exact absurd (Or.inr ⟨hf', fun s hs h1 => by
        obtain ⟨i, hi, rfl⟩ := List.getElem_of_mem hs
        exact absurd h1 (h3 i hi hi)⟩) hn
    · rw [h2, Int.toNat_natCast, getD_at hk]
      have hxk := h.s.ok _ (List.getElem_mem hk)
      have hne2 : q.Slots[k].Irq ≠ w.Irq := by
        rcases hap w (by simp) _ (List.getElem_mem hk) with g | g
        · exact absurd g (hf' _ (List.getElem_mem hk))
        · exact g
      have hlt : keyW w < keyW (wOf q.Slots[k]) := by
        have h5 := irq_key (a := wOf q.Slots[k]) (b := w) hxk.2.1 okw hne2
        by_cases h6 : keyW (wOf q.Slots[k]) < keyW w
        · exfalso
          refine hn (Or.inr ⟨hf', fun s hs h1 x hx => ?_⟩)
          obtain ⟨i, hi, rfl⟩ := List.getElem_of_mem hs
          have h7 := h4 i hi hi h1
          rw [hw] at hx
          rcases List.mem_cons.1 hx with rfl | hx
          · omega
          · have := hord.1 x hx
            omega
        · omega
      have hs1 : (q.Slots[k].State == 1) = true := by simp [h3]
      have hs0 : (q.Slots[k].State == 0) = false := by simp [h3]
      have na : isAct q.Slots[k] = false := by unfold isAct; simp [h3]
      have pk : isPd q.Slots[k] = true := by unfold isPd; simp [h3]
      have okS : okSlt (pendS w) := okSlt_pend okw
      obtain ⟨c1, c2⟩ := set_cut hk (pendS w)
      have hins := insU_perm r (wOf q.Slots[k])
      refine ⟨⟨⟨gs_set h.s hk okS fun j hj hjk => ?_, fun x hx => ?_, insU_ord hord.2 fun x hx => ?_, ?_, fun x hx s hs => ?_⟩, ?_, actM_set hk na (by simp [isAct, pendS])⟩, ?_⟩
      · rcases hap w (by simp) _ (List.getElem_mem hj) with g | g
        · exact Or.inl g
        · exact Or.inr (Or.inr g)
      · rcases List.mem_cons.1 (hins.mem_iff.1 hx) with rfl | hx
        · exact hxk.2.1
        · exact hok x (by simp [hx])
      · refine irq_key (hok x (by simp [hx])) hxk.2.1 fun e => ?_
        rcases hap x (by simp [hx]) _ (List.getElem_mem hk) with g | g
        · exact hf' _ (List.getElem_mem hk) g
        · exact g e.symm
      · rw [(hins.map Waiter.Irq).nodup_iff, List.map_cons, List.nodup_cons]
        refine ⟨fun hm => ?_, hdist.2⟩
        obtain ⟨x, hx, e⟩ := List.mem_map.1 hm
        rcases hap x (by simp [hx]) _ (List.getElem_mem hk) with g | g
        · exact hf' _ (List.getElem_mem hk) g
        · exact g e.symm
      · rcases mem_set_iff hk hs with rfl | ⟨j, hj, hjk, rfl⟩
        · rcases List.mem_cons.1 (hins.mem_iff.1 hx) with rfl | hx
          · exact Or.inr (fun e => hne2 e.symm)
          · exact Or.inr (fun e => hr x hx e.symm)
        · rcases List.mem_cons.1 (hins.mem_iff.1 hx) with rfl | hx
          · rcases sep_at h.s.sep hk hj hjk with g | g | g
            · exact Or.inl g
            · exact absurd g (hf' _ (List.getElem_mem hk))
            · exact Or.inr g
          · exact hap x (by simp [hx]) _ (List.getElem_mem hj)
      · have p1 := pend_cut (q.Slots.take k) (q.Slots.drop (k + 1)) (pendS w) (insU r (wOf q.Slots[k]))
        have p2 := pend_cut (q.Slots.take k) (q.Slots.drop (k + 1)) q.Slots[k] (w :: r)
        rw [← c2] at p1
        rw [← c1, ← hq, pk] at p2
        have pp : isPd (pendS w) = true := by simp [isPd, pendS]
        rw [pp] at p1
        refine p1.trans (List.Perm.trans ?_ p2.symm)
        simp only [cond_true, List.cons_append, List.nil_append]
        have e3 : wOf (pendS w) = w := rfl
        rw [e3]
        refine ((hins.append_right _).cons w).trans ?_
        exact List.Perm.swap _ _ _
      · have hm := mu_set hk (pendS w)
        have m1 : muS q.Slots[k] = (keyW (wOf q.Slots[k])).toNat := by unfold muS; rw [hs0, hs1]; rfl
        have m2 : muS (pendS w) = (keyW w).toNat := rfl
        have g1 := key_range okw
        omega
  · have hf2 : decide (frS q.Slots < 0) = false := by simp [hf]
    simp only [hf2, cond_false]
    obtain ⟨k, hk, h2, h3⟩ := frS_at hf
    rw [h2, Int.toNat_natCast]
    have hs0 : (q.Slots[k].State == 0) = true := by simp [h3]
    have na : isAct q.Slots[k] = false := by unfold isAct; simp [h3]
    have pk : isPd q.Slots[k] = false := by unfold isPd; simp [h3]
    obtain ⟨c1, c2⟩ := set_cut hk (pendS w)
    refine ⟨⟨⟨gs_set h.s hk (okSlt_pend okw) fun j hj hjk => ?_, fun x hx => hok x (by simp [hx]), hord.2, hdist.2, fun x hx s hs => ?_⟩, ?_, actM_set hk na (by simp [isAct, pendS])⟩, ?_⟩
    · rcases hap w (by simp) _ (List.getElem_mem hj) with g | g
      · exact Or.inl g
      · exact Or.inr (Or.inr g)
    · rcases mem_set_iff hk hs with rfl | ⟨j, hj, hjk, rfl⟩
      · exact Or.inr (fun e => hr x hx e.symm)
      · exact hap x (by simp [hx]) _ (List.getElem_mem hj)
    · have p1 := pend_cut (q.Slots.take k) (q.Slots.drop (k + 1)) (pendS w) r
      have p2 := pend_cut (q.Slots.take k) (q.Slots.drop (k + 1)) q.Slots[k] (w :: r)
      rw [← c2] at p1
      rw [← c1, ← hq, pk] at p2
      have pp : isPd (pendS w) = true := by simp [isPd, pendS]
      rw [pp] at p1
      refine p1.trans (List.Perm.trans ?_ p2.symm)
      simp only [cond_true, cond_false, List.cons_append, List.nil_append]
      exact List.Perm.refl _
    · have hm := mu_set hk (pendS w)
      have m1 : muS q.Slots[k] = 1000 := by unfold muS; rw [hs0]; rfl
      have m2 : muS (pendS w) = (keyW w).toNat := rfl
      have g1 := key_range okw
      omega
def settleF : Nat → Queue → Queue
  | 0, q => q
  | n + 1, q => bif setQ q then q else settleF n (stepQ q)
def settleQ (q : Queue) : Queue := settleF (mu q.Slots + 1) q
theorem kept_refl {q : Queue} (h : GP q) : kept q q := ⟨h, List.Perm.refl _, rfl⟩
theorem kept_trans {q r s : Queue} (h : kept q r) (g : kept r s) : kept q s := ⟨g.p, g.pend.trans h.pend, g.act.trans h.act⟩
theorem settleF_ok : ∀ (n : Nat) {q : Queue}, GP q → mu q.Slots < n → kept q (settleF n q) ∧ calm (settleF n q)
  | 0, q, _, h => by omega
  | n + 1, q, h, hm => by
    unfold settleF
    cases hs : setQ q with
    | true => exact ⟨kept_refl h, (setQ_iff h).1 hs⟩
    | false =>
      simp only [cond_false]
      obtain ⟨h1, h2⟩ := step_kept h hs
      obtain ⟨h3, h4⟩ := settleF_ok n h1.p (by omega)
      exact ⟨kept_trans h1 h3, h4⟩
theorem settleQ_ok {q : Queue} (h : GP q) : kept q (settleQ q) ∧ calm (settleQ q) := settleF_ok (mu q.Slots + 1) h (Nat.lt_succ_self _)
theorem settle_run {σ ρ : Type} {body : σ → Option (σ ⊕ ρ)} (st : Queue → σ) (out : Queue → ρ) (hb : ∀ q, GP q → body (st q) = some (bif setQ q then .inr (out q) else .inl (st (stepQ q)))) : ∀ (n fuel : Nat) {q : Queue}, GP q → mu q.Slots < n → n ≤ fuel → whileM body fuel (st q) = some (out (settleF n q))
  | 0, _, _, _, h, _ => by omega
  | n + 1, fuel, q, h, hm, hf => by
    obtain ⟨f, rfl⟩ : ∃ f, fuel = f + 1 := ⟨fuel - 1, by omega⟩
    unfold settleF
    simp only [whileM, hb q h]
    cases hs : setQ q with
    | true => rfl
    | false =>
      simp only [cond_false]
      obtain ⟨h1, h2⟩ := step_kept h hs
      exact settle_run st out hb n f h1.p (by omega) (by omega)
theorem gp_waiting {q : Queue} (h : GP q) : q.Waiting.length ≤ 8 := by
  have := nodup_bound 8 (q.Waiting.map fun w => w.Irq.toNat) (by
    have hd := h.dist
    rw [List.Nodup, List.pairwise_map] at hd ⊢
    refine hd.imp_of_mem fun {a b} ha hb hab => ?_
    have h1 := h.ok a ha
    have h2 := h.ok b hb
    unfold okWt at h1 h2
    omega) (fun x hx => by
    obtain ⟨w, hw, rfl⟩ := List.mem_map.1 hx
    have h1 := h.ok w hw
    unfold okWt at h1
    omega)
  simpa using this
end Go.Proofs.YtllhajkgkghhdaaGreat
