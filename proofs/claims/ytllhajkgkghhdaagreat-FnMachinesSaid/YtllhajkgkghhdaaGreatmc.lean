/- Part of a proof: what its last text rests on. -/
import Derived.Test.YtllhajkgkghhdaaGreatProg
import Derived.Test.YtllhajkgkghhdaaGreatSh
import Derived.Test.YtllhajkgkghhdaaGreatmb
set_option linter.unusedVariables false
set_option linter.unusedSimpArgs false
set_option maxRecDepth 100000
set_option maxHeartbeats 4000000
namespace Go.Proofs.YtllhajkgkghhdaaGreat
open Go.Gx
theorem c_i_waiterIndex (w : World) (a : List Waiter) (d c) (m : rdS encWaiter w a d c) (g : Int) {r : Int} (hm : M.i_waiterIndex a g = some r) :
  Calls Tryz.prog 196 #[SL d a c, iv g] w fun e w' => e = .returned (iv r) ∧ Mem [] w w' [] := by
 unfold M.i_waiterIndex at hm
 refine cE Tryz.func196 ?_
 have M0 := Mem.refl [] w
 refine QA (wN (CE 3 [iv g]) M0 fun f i h => MW 1 (NA (MW 2 (GD hm fun j n hm => WD (c_slices_IndexFunc_166__i_waiterIndex_1 i a d c (m.mem0 h) g f (h.blk 0 (b := f) (o := .cells ⟨[iv g]⟩ 3 (0, 0)) (by kernel_rfl)) n) h fun q l => MW 1 (NC ?_)))))
 obtain rfl := HS hm
 exact RA [iv j] (⟨rfl, l.pk []⟩)
theorem c_cmp_isNaN_222 (w : World) (a : Int) {r : Bool} (hm : M.cmp_isNaN_222 a = some r) :
  Calls Tryz.prog 222 #[iv a] w fun e w' => e = .returned (.bool r) ∧ Mem [] w w' [] := by
 unfold M.cmp_isNaN_222 at hm
 refine cE Tryz.func222 ?_
 have M0 := Mem.refl [] w
 refine QA (MW 1 (NA (MW 4 (NC ?_))))
 cases hm
 exact RA [.bool (a != a)] (⟨rfl, M0.pk []⟩)
theorem c_cmp_Compare_170 (w : World) (a : Int) (b : Int) {r : Int} (hm : M.cmp_Compare_170 a b = some r) :
  Calls Tryz.prog 170 #[iv a, iv b] w fun e w' => e = .returned (iv r) ∧ Mem [] w w' [] := by
 unfold M.cmp_Compare_170 at hm
 refine cE Tryz.func170 ?_
 have M0 := Mem.refl [] w
 refine QA (MW 1 (NA (MW 1 (GD hm fun f t hm => WD (c_cmp_isNaN_222 w a t) M0 fun m q => MW 1 (NA (MW 1 (GD hm fun g u hm => WD (c_cmp_isNaN_222 m b u) q fun c d => MW 1 (NB (MW 1 (NO (GT hm (fun h hm => ?_) fun h hm => ?_)))))))))))
 ·refine QB (MW 1 (NO (GT hm (fun i hm => ?_) fun i hm => ?_)))
  ·refine QA (MW 1 (ND (TR ?_)))
   obtain rfl := HS hm
   exact RA [iv 0] (⟨rfl, d.pk []⟩)
  refine KA (MW 1 (ND ?_))
  cases hm
  exact RA [iv (-1)] (⟨rfl, d.pk []⟩)
 refine KB (MW 1 (NO (GT hm (fun j hm => ?_) fun j hm => ?_)))
 ·refine QA (MW 1 (ND ?_))
  obtain rfl := HS hm
  exact RA [iv 1] (⟨rfl, d.pk []⟩)
 refine KB (MW 3 (NO (GT hm (fun k hm => ?_) fun k hm => ?_)))
 ·refine QA (MW 1 (ND ?_))
  cases hm
  exact RA [iv (-1)] (⟨rfl, d.pk []⟩)
 refine KB (wR 3 [(19, .bool (decide (a > b)))] c (NO (GT hm (fun l hm => ?_) fun l hm => ?_)))
 ·refine QA (MW 1 (ND ?_))
  obtain rfl := HS hm
  exact RA [iv 1] (⟨rfl, d.pk []⟩)
 refine KA (MW 1 (NC ?_))
 obtain rfl := HS hm
 exact RA [iv 0] (⟨rfl, d.pk []⟩)
theorem c_cmp_Or_169 (w : World) (b : List Int) (c d) (l : rdS Gx.encI w b c d) {r : Int} (hm : M.cmp_Or_169 b = some r) :
  Calls Tryz.prog 169 #[SL c b d] w fun e w' => e = .returned (iv r) ∧ Mem [] w w' [] := by
 unfold M.cmp_Or_169 at hm
 refine cE Tryz.func169 ?_
 have M0 := Mem.refl [] w
 refine QA (MW 1 (NA (MW 1 (NB (MW 3 (NO (GD hm fun y x m => G_meet (fun a w' => ∃ (q : Unit), y = .inl q ∧ Mem [] w w' [] ∧ Sat Tryz.f169.ntmps [(3, iv 0)] a) ?_ ?_)))))))
 ·refine GB (G_while (σ := Int) (ρ := (Unit) ⊕ (Int)) (fun f a w' => Mem [] w w' [] ∧ Sat Tryz.f169.ntmps [(3, iv 0), (6, SL c b d), (7, iv (b.length : Int)), (8, iv f)] a) x (fun a ha => ⟨M0.pk [], ha.s⟩) ?_)
  clear hm
  intro f C hm n A g ⟨i, u⟩
  refine G_use u (QA (MW 1 (NE (GT hm (fun j hm => ?_) fun j hm => ?_))))
  ·refine KD (GD hm fun h o hm => wV (elemP c (f.toNat * 1)) g (eI (l.mem0 i) rfl o) (wV (iv h) g (eE false 1 0 (f.toNat * 1) (l.mem0 i) o) (MW 1 (NA (MW 3 (NO (GT hm (fun k hm => ?_) fun k hm => ?_)))))))
   ·refine QA (MW 2 (NX ?_))
    obtain rfl := HS hm
    obtain rfl := n _ rfl
    have hm := m; simp only [Sum.elim_inr] at hm
    refine BR (N_meet_ret (TR ?_))
    obtain rfl := HS hm
    exact RA [iv h] (⟨rfl, i.pk []⟩)
   refine KC (MW 2 (WN ?_))
   cases hm
   exact N_loop fun a ha => ⟨_, rfl, i.pk [], ha.s⟩
  refine XA ?_
  obtain rfl := HS hm
  obtain rfl := n _ rfl
  exact NM fun a ha => ⟨_, rfl, i.pk [], ha.s⟩
 intro B z ⟨q, hout_, t, v⟩
 refine N_use v ?_
 subst hout_
 have hm := m; simp only [Sum.elim_inl] at hm
 refine NF (wR 2 [(2, iv 0)] z (NC ?_))
 obtain rfl := HS hm
 exact RA [iv 0] (⟨rfl, t.pk []⟩)
theorem c_i_compareUrgency (w : World) (a : Waiter) (b : Waiter) {r : Int} (hm : M.i_compareUrgency a b = some r) :
  Calls Tryz.prog 129 #[.agg #[iv a.Irq, iv a.Priority], .agg #[iv b.Irq, iv b.Priority]] w fun e w' => e = .returned (iv r) ∧ Mem [] w w' [] := by
 unfold M.i_compareUrgency at hm
 refine cE Tryz.func129 ?_
 have M0 := Mem.refl [] w
 refine QA (wN (CE 142 [iv a.Irq, iv a.Priority]) M0 fun c aj F => wN (CE 142 [iv b.Irq, iv b.Priority]) F fun d W G => MW 1 (NE (GD hm fun l T hm => GU [(2, pB c 0), (3, pB d 0)] (DL 9 [[],[0],[],[2],[1,3],[],[5],[],[7]] (EM 9) (EM 9) (EM 9) (EM 9) (EM 9) (fun _ => []) [QV (pB c 1), QV (iv a.Priority), QV (pB d 1), QV (iv b.Priority), QV (iv l), QV (pB c 0), QV (iv a.Irq), QV (pB d 0), QV (iv b.Irq)] [] [4, 6, 8] [] (G.preNil 9) (AC ?_ (AC ?_ (AC ?_ (AC ?_ (AC ?_ (AC ?_ (AC ?_ (AC ?_ (AC ?_ AN))))))))) ?_))))
 ·intro k g R X H
  exact OM ⟨rfl, rfl⟩ H
 ·rintro k g v0_ ⟨rfl, _⟩ R Y n
  exact OV ⟨rfl, rfl⟩ (eL false 1 1 (n.blk 0 rfl)) n
 ·intro k g R Z I
  exact OM ⟨rfl, rfl⟩ I
 ·rintro k g v2_ ⟨rfl, _⟩ R aa o
  exact OV ⟨rfl, rfl⟩ (eL false 1 1 (o.blk 1 rfl)) o
 ·rintro k g v1_ ⟨rfl, _⟩
  rintro v3_ ⟨rfl, _⟩ R ab J
  refine WC ((c_cmp_Compare_170 ab a.Priority b.Priority T).mono ?_)
  rintro e_ ak ⟨rfl, B⟩
  refine ⟨_, rfl, ?_⟩
  exact WN (oE (iv l) [] ⟨rfl, rfl⟩ (J.call0 B))
 ·intro k g R ac K
  exact OM ⟨rfl, rfl⟩ K
 ·rintro k g v5_ ⟨rfl, _⟩ R ad q
  exact OV ⟨rfl, rfl⟩ (eL false 1 0 (q.blk 0 rfl)) q
 ·intro k g R ae L
  exact OM ⟨rfl, rfl⟩ L
 ·rintro k g v7_ ⟨rfl, _⟩ R af t
  exact OV ⟨rfl, rfl⟩ (eL false 1 0 (t.blk 1 rfl)) t
 rintro k g v4_ ⟨rfl, _⟩
 rintro v6_ ⟨rfl, _⟩
 rintro v8_ ⟨rfl, _⟩ A N
 have O : Mem [] w A [(BK c 142 [iv a.Irq, iv a.Priority]), (BK d 142 [iv b.Irq, iv b.Priority])] := N
 refine GD hm fun m U hm => WD (c_cmp_Compare_170 A a.Irq b.Irq U) O fun al P => wL (E := Gx.encI) [l, m] 2 [iv l, iv m] 3 P fun y x ai ag S u => GD hm fun z V hm => WD (c_cmp_Or_169 ag [l, m] y x (S.r u 2) V) u fun ah Q => MW 1 (NC ?_)
 obtain rfl := HS hm
 exact RA [iv z] (⟨rfl, Q.pk []⟩)
theorem c_i_areParts (w : World) (g : List Slot) (i h) (L : rdS encSlot w g i h) (b : List Waiter) (d c) (l : rdS encWaiter w b d c) {r : Bool} (hm : M.i_areParts g b = some r) :
  Calls Tryz.prog 160 #[SL i g h, SL d b c] w fun e w' => e = .returned (.bool r) ∧ Mem [] w w' [] := by
 unfold M.i_areParts at hm
 refine cE Tryz.func160 ?_
 have M0 := Mem.refl [] w
 refine QA (MW 1 (NB (MW 1 (GD hm fun au aj hm => WD (c_i_AreSlots w g i h (L.mem0 M0) aj) M0 fun I J => MW 1 (NO (GT hm (fun z hm => ?_) fun z hm => ?_))))))
 ·refine QA (MW 1 (ND ?_))
  obtain rfl := HS hm
  exact RA [.bool false] (⟨rfl, J.pk []⟩)
 refine KB (MW 3 (NO (GD hm fun ar ap N => G_meet (fun a w' => ∃ (S : Unit), ar = .inl S ∧ Mem [] w w' [] ∧ Sat Tryz.f160.ntmps [] a) ?_ ?_)))
 ·refine GB (G_while (σ := Int) (ρ := (Unit) ⊕ (Bool)) (fun f a w' => Mem [] w w' [] ∧ Sat Tryz.f160.ntmps [(0, SL i g h), (1, SL d b c), (10, SL d b c), (11, iv (b.length : Int)), (12, iv f)] a) ap (fun a ha => ⟨J.pk [], ha.s⟩) ?_)
  clear hm
  intro f a9 hm O ax x ⟨u, ae⟩
  refine G_use ae (QA (MW 1 (NE (GT hm (fun A hm => ?_) fun A hm => ?_))))
  ·refine KD (MW 1 (GD hm fun j P hm => wV (elemP d (f.toNat * 2)) x (eI (l.mem0 u) rfl P) (wV (.agg #[iv j.Irq, iv j.Priority]) x (eE true 2 0 (f.toNat * 2) (l.mem0 u) P) (wN (CE 142 [iv 0, iv 0]) u fun k av V => MW 1 (wS true 2 0 (.agg #[iv j.Irq, iv j.Priority]) 0 [iv j.Irq, iv j.Priority] V rfl fun a0 W => NE (GD hm fun aq ai ah => G_meet (fun a w' => Mem [] w w' [] ∧ Sat Tryz.f160.ntmps [(0, SL i g h), (1, SL d b c), (10, SL d b c), (11, iv (b.length : Int)), (12, iv f), (56, .bool aq)] a) ?_ ?_))))))
   ·have hm := ai
    refine G_quiet (by kernel_rfl) (by kernel_rfl) W (MZ 1 (zV (iv j.Irq) (fun w_ M_ => (eL false 1 0 (M_.blk 0 rfl))) (GD hm fun v ak hm => ZC (.bool v) (fun w_ M_ => c_i_isIrq w_ j.Irq ak) (MS 2 [(0, SL i g h), (1, SL d b c), (5, iv f), (6, pB k 0), (10, SL d b c), (11, iv (b.length : Int)), (12, iv f), (21, .bool (!v))] ?_))))
    rcases gx_bif hm with ⟨B, hm⟩ | ⟨B, hm⟩
    ·refine zK 21 true B (MS 35 [(0, SL i g h), (1, SL d b c), (10, SL d b c), (11, iv (b.length : Int)), (12, iv f), (56, .bool true)] (Z_end fun a3 X => ?_))
     obtain rfl := HS hm
     exact NM fun a ha => ⟨X.pk [], ha.s⟩
    refine zK 21 false B (MZ 1 (zV (iv j.Priority) (fun w_ M_ => (eL false 1 1 (M_.blk 0 rfl))) (GD hm fun m al hm => ZC (.bool m) (fun w_ M_ => c_i_isPriority w_ j.Priority al) (MS 3 [(0, SL i g h), (1, SL d b c), (5, iv f), (6, pB k 0), (10, SL d b c), (11, iv (b.length : Int)), (12, iv f), (27, .bool (!m))] ?_))))
    rcases gx_bif hm with ⟨C, hm⟩ | ⟨C, hm⟩
    ·refine zK 27 true C (MS 29 [(0, SL i g h), (1, SL d b c), (10, SL d b c), (11, iv (b.length : Int)), (12, iv f), (56, .bool true)] (Z_end fun a4 Y => ?_))
     obtain rfl := HS hm
     exact NM fun a ha => ⟨Y.pk [], ha.s⟩
    refine zK 27 false C (MZ 2 (zV (iv j.Irq) (fun w_ M_ => (eL false 1 0 (M_.blk 0 rfl))) (GD hm fun n am hm => ZC (iv n) (fun w_ M_ => c_i_findSlot w_ g i h (L.mem0 M_) j.Irq am) (MS 3 [(0, SL i g h), (1, SL d b c), (5, iv f), (6, pB k 0), (10, SL d b c), (11, iv (b.length : Int)), (12, iv f), (34, .bool (decide (n ≥ 0)))] ?_))))
    rcases gx_bif hm with ⟨D, hm⟩ | ⟨D, hm⟩
    ·refine zK 34 true D (MS 22 [(0, SL i g h), (1, SL d b c), (10, SL d b c), (11, iv (b.length : Int)), (12, iv f), (56, .bool true)] (Z_end fun a5 Z => ?_))
     obtain rfl := HS hm
     exact NM fun a ha => ⟨Z.pk [], ha.s⟩
    refine zK 34 false D (MZ 2 (GD hm fun y R hm => zV (SL (subP d (0 : Int).toNat c 2) y (c - (0 : Int).toNat)) (fun w_ M_ => (E_slice (E := encWaiter) _ _ _ _ b.length 0 f rfl (by kernel_rfl) (Or.inl ⟨rfl, rfl⟩) (Or.inr ⟨_, rfl, by kernel_rfl⟩) (by kernel_rfl) (l.mem0 M_) rfl R)) (MZ 1 (zV (iv j.Irq) (fun w_ M_ => (eL false 1 0 (M_.blk 0 rfl))) (GD hm fun o an hm => ZC (iv o) (fun w_ M_ => c_i_waiterIndex w_ y (subP d (0 : Int).toNat c 2) (c - (0 : Int).toNat) ((l.mem0 M_).sliceM R) j.Irq an) (MS 3 [(0, SL i g h), (1, SL d b c), (5, iv f), (6, pB k 0), (10, SL d b c), (11, iv (b.length : Int)), (12, iv f), (43, .bool (decide (o ≥ 0)))] ?_))))))
    rcases gx_bif hm with ⟨F, hm⟩ | ⟨F, hm⟩
    ·refine zK 43 true F (MZ 13 (Z_end fun a6 aa => ?_))
     obtain rfl := HS hm
     exact NM fun a ha => ⟨aa.pk [], ha.s⟩
    refine zK 43 false F (MS 3 [(0, SL i g h), (1, SL d b c), (5, iv f), (6, pB k 0), (10, SL d b c), (11, iv (b.length : Int)), (12, iv f), (43, .bool false), (46, .bool (decide (f > 0)))] ?_)
    rcases gx_bif hm with ⟨G, hm⟩ | ⟨G, hm⟩
    ·refine zK 46 true G (MZ 3 (GD hm fun t Q hm => zV (elemP d ((w64 (f - 1)).toNat * 2)) (fun w_ M_ => (eI (l.mem0 M_) rfl Q)) (zV (.agg #[iv t.Irq, iv t.Priority]) (fun w_ M_ => (eE true 2 0 ((w64 (f - 1)).toNat * 2) (l.mem0 M_) Q)) (zV (.agg #[iv j.Irq, iv j.Priority]) (fun w_ M_ => (eL true 2 0 (M_.blk 0 rfl))) (GD hm fun q ao hm => ZC (iv q) (fun w_ M_ => c_i_compareUrgency w_ t j ao) (MZ 3 (Z_end fun a7 ab => ?_)))))))
     obtain rfl := HS hm
     exact NM fun a ha => ⟨ab.pk [], ha.s⟩
    refine zK 46 false G (MS 10 [(0, SL i g h), (1, SL d b c), (10, SL d b c), (11, iv (b.length : Int)), (12, iv f), (56, .bool false)] (Z_end fun a8 ac => ?_))
    obtain rfl := HS hm
    exact NM fun a ha => ⟨ac.pk [], ha.s⟩
   intro ay T ⟨K, af⟩
   refine N_use af ?_
   have hm := ah
   refine TN (GT hm (fun H hm => ?_) fun H hm => ?_)
   ·refine QA (MW 1 (NX ?_))
    obtain rfl := HS hm
    obtain rfl := O _ rfl
    have hm := N; simp only [Sum.elim_inr] at hm
    refine BR (N_meet_ret (TR ?_))
    obtain rfl := HS hm
    exact RA [.bool false] (⟨rfl, K.pk []⟩)
   refine KC (MW 2 (WN ?_))
   cases hm
   exact N_loop fun a ha => ⟨_, rfl, K.pk [], ha.s⟩
  refine XA ?_
  obtain rfl := HS hm
  obtain rfl := O _ rfl
  exact NM fun a ha => ⟨_, rfl, u.pk [], ha.s⟩
 intro az aw ⟨S, hout_, ad, ag⟩
 refine N_use ag ?_
 subst hout_
 have hm := N; simp only [Sum.elim_inl] at hm
 refine NF (MW 1 (NC ?_))
 obtain rfl := HS hm
 exact RA [.bool true] (⟨rfl, ad.pk []⟩)
theorem c_i_waiterOf (w : World) (a : Slot) {r : Waiter} (hm : M.i_waiterOf a = some r) :
  Calls Tryz.prog 119 #[.agg #[iv a.State, iv a.Irq, iv a.Priority]] w fun e w' => e = .returned (.agg #[iv r.Irq, iv r.Priority]) ∧ Mem [] w w' [] := by
 unfold M.i_waiterOf at hm
 refine cE Tryz.func119 ?_
 have M0 := Mem.refl [] w
 refine QA (wN (CE 117 [iv a.State, iv a.Irq, iv a.Priority]) M0 fun h l j => wN (CE 142 [iv 0, iv 0]) j fun c d f => NA (MW 1 (wV (iv a.Irq) d (eL false 1 1 (f.blk 0 rfl)) (MW 1 (wV (iv a.Priority) d (eL false 1 2 (f.blk 0 rfl)) (MW 1 (wS true 2 0 (.agg #[iv a.Irq, iv a.Priority]) 1 [iv a.Irq, iv a.Priority] f rfl fun m i => NC ?_)))))))
 obtain rfl := HS hm
 exact N_ret [.agg #[iv a.Irq, iv a.Priority]] (RX true 2 0 (i.blk 1 rfl) RVs_nil) (⟨rfl, i.pk []⟩)
theorem c_i_pendingSlot (w : World) (b : List Slot) (d f) (o : rdS encSlot w b d f) (g : Bool) {r : Int} (hm : M.i_pendingSlot b g = some r) :
  Calls Tryz.prog 197 #[SL d b f, .bool g] w fun e w' => e = .returned (iv r) ∧ Mem [] w w' [] := by
 unfold M.i_pendingSlot at hm
 refine cE Tryz.func197 ?_
 have M0 := Mem.refl [] w
 refine QA (MW 1 (NA (MW 1 (NB (MW 3 (NO (GD hm fun y Y R => G_meet (fun a w' => Mem [] w w' [] ∧ Sat Tryz.f197.ntmps [(5, iv y)] a) ?_ ?_)))))))
 ·refine GB (G_while (σ := Int × Int) (ρ := Int) (fun c a w' => Mem [] w w' [] ∧ Sat Tryz.f197.ntmps [(0, SL d b f), (1, .bool g), (5, iv c.1), (8, SL d b f), (9, iv (b.length : Int)), (10, iv c.2)] a) Y (fun a ha => ⟨M0.pk [], ha.s⟩) ?_)
  clear hm
  intro c am hm U ae q ⟨n, K⟩
  refine G_use K (QA (MW 1 (NE (GT hm (fun t hm => ?_) fun t hm => ?_))))
  ·refine KD (MW 1 (GD hm fun h A hm => wV (elemP d (c.2.toNat * 3)) q (eI (o.mem0 n) rfl A) (wV (.agg #[iv h.State, iv h.Irq, iv h.Priority]) q (eE true 3 0 (c.2.toNat * 3) (o.mem0 n) A) (wN (CE 117 [iv 0, iv 0, iv 0]) n fun k aa D => MW 1 (wS true 3 0 (.agg #[iv h.State, iv h.Irq, iv h.Priority]) 0 [iv h.State, iv h.Irq, iv h.Priority] D rfl fun ai E => NE (GD hm fun Z S P => G_meet (fun a w' => Mem [] w w' [] ∧ Sat Tryz.f197.ntmps [(0, SL d b f), (1, .bool g), (5, iv c.1), (6, iv c.2), (8, SL d b f), (9, iv (b.length : Int)), (10, iv c.2), (34, .bool Z)] a) ?_ ?_))))))
   ·have hm := S
    refine G_quiet (by kernel_rfl) (by kernel_rfl) E (MZ 1 (zV (iv h.State) (fun w_ M_ => (eL false 1 0 (M_.blk 0 rfl))) (MS 2 [(0, SL d b f), (1, .bool g), (5, iv c.1), (6, iv c.2), (7, pB k 0), (8, SL d b f), (9, iv (b.length : Int)), (10, iv c.2), (18, .bool (h.State == 1))] ?_)))
    rcases gx_bif hm with ⟨u, hm⟩ | ⟨u, hm⟩
    ·refine zK 18 true u (MS 3 [(0, SL d b f), (1, .bool g), (5, iv c.1), (6, iv c.2), (7, pB k 0), (8, SL d b f), (9, iv (b.length : Int)), (10, iv c.2), (18, .bool true), (21, .bool (decide (c.1 < 0)))] ?_)
     rcases gx_bif hm with ⟨v, hm⟩ | ⟨v, hm⟩
     ·refine zK 21 true v (MZ 13 (Z_end fun aj F => ?_))
      obtain rfl := HS hm
      exact NM fun a ha => ⟨F.pk [], ha.s⟩
     refine zK 21 false v (zV (.agg #[iv h.State, iv h.Irq, iv h.Priority]) (fun w_ M_ => (eL true 3 0 (M_.blk 0 rfl))) (GD hm fun i V hm => ZC (.agg #[iv i.Irq, iv i.Priority]) (fun w_ M_ => c_i_waiterOf w_ h V) (MZ 2 (GD hm fun j B hm => zV (elemP d (c.1.toNat * 3)) (fun w_ M_ => (eI (o.mem0 M_) rfl B)) (zV (.agg #[iv j.State, iv j.Irq, iv j.Priority]) (fun w_ M_ => (eE true 3 0 (c.1.toNat * 3) (o.mem0 M_) B)) (GD hm fun m W hm => ZC (.agg #[iv m.Irq, iv m.Priority]) (fun w_ M_ => c_i_waiterOf w_ j W) (GD hm fun l X hm => ZC (iv l) (fun w_ M_ => c_i_compareUrgency w_ i m X) (MS 5 [(0, SL d b f), (1, .bool g), (5, iv c.1), (6, iv c.2), (8, SL d b f), (9, iv (b.length : Int)), (10, iv c.2), (34, .bool ((decide (l < 0)) == g))] (Z_end fun ak G => ?_)))))))))
     obtain rfl := HS hm
     exact NM fun a ha => ⟨G.pk [], ha.s⟩
    refine zK 18 false u (MS 16 [(0, SL d b f), (1, .bool g), (5, iv c.1), (6, iv c.2), (8, SL d b f), (9, iv (b.length : Int)), (10, iv c.2), (34, .bool false)] (Z_end fun al H => ?_))
    obtain rfl := HS hm
    exact NM fun a ha => ⟨H.pk [], ha.s⟩
   intro af ab ⟨z, L⟩
   refine N_use L ?_
   have hm := P
   refine TN (GD hm fun C T Q => G_meet (fun a w' => Mem [] w w' [] ∧ Sat Tryz.f197.ntmps [(0, SL d b f), (1, .bool g), (5, iv C), (8, SL d b f), (9, iv (b.length : Int)), (10, iv c.2)] a) ?_ ?_)
   ·have hm := T
    refine GT hm (fun x hm => ?_) fun x hm => ?_
    ·refine GR (MW 2 (WN ?_))
     obtain rfl := HS hm
     exact NM fun a ha => ⟨z.pk [], ha.s⟩
    refine GK ?_
    obtain rfl := HS hm
    exact NM fun a ha => ⟨z.pk [], ha.s⟩
   intro ag ac ⟨I, N⟩
   refine N_use N ?_
   have hm := Q
   refine BN (TN (GR (MW 2 (WN ?_))))
   cases hm
   exact N_loop fun a ha => ⟨_, rfl, I.pk [], ha.s⟩
  refine XA ?_
  obtain rfl := HS hm
  obtain rfl := U _ rfl
  exact NM fun a ha => ⟨n.pk [], ha.s⟩
 intro ah ad ⟨J, O⟩
 refine N_use O ?_
 have hm := R
 refine NF (MW 2 (NC ?_))
 obtain rfl := HS hm
 exact RA [iv y] (⟨rfl, J.pk []⟩)
theorem c_i_firstEmpty_1 (w : World) (a : Slot) {r : Bool} (hm : M.i_firstEmpty_1 a = some r) :
  Calls Tryz.prog 240 #[.agg #[iv a.State, iv a.Irq, iv a.Priority]] w fun e w' => e = .returned (.bool r) ∧ Mem [] w w' [] := by
 unfold M.i_firstEmpty_1 at hm
 refine cE Tryz.func240 ?_
 have M0 := Mem.refl [] w
 refine QA (wN (CE 117 [iv a.State, iv a.Irq, iv a.Priority]) M0 fun d b c => MW 1 (NA (MW 1 (wV (iv a.State) b (eL false 1 0 (c.blk 0 rfl)) (MW 2 (NC ?_))))))
 cases hm
 exact RA [.bool (a.State == 0)] (⟨rfl, c.pk []⟩)
theorem c_slices_IndexFunc_210__i_firstEmpty_1 (w : World) (b : List Slot) (d f) (m : rdS encSlot w b d f) {r : Int} (hm : M.slices_IndexFunc_210__i_firstEmpty_1 b = some r) :
  Calls Tryz.prog 210 #[SL d b f, .func (.func 240) #[] #[]] w fun e w' => e = .returned (iv r) ∧ Mem [] w w' [] := by
 unfold M.slices_IndexFunc_210__i_firstEmpty_1 at hm
 refine cE Tryz.func210 ?_
 have M0 := Mem.refl [] w
 refine QA (MW 1 (NB (MW 3 (NO (GD hm fun C B n => G_meet (fun a w' => ∃ (t : Unit), C = .inl t ∧ Mem [] w w' [] ∧ Sat Tryz.f210.ntmps [] a) ?_ ?_)))))
 ·refine GB (G_while (σ := Int) (ρ := (Unit) ⊕ (Int)) (fun c a w' => Mem [] w w' [] ∧ Sat Tryz.f210.ntmps [(0, SL d b f), (1, .func (.func 240) #[] #[]), (7, iv (b.length : Int)), (8, iv c)] a) B (fun a ha => ⟨M0.pk [], ha.s⟩) ?_)
  clear hm
  intro c H hm o E h ⟨i, y⟩
  refine G_use y (QA (MW 1 (NE (GT hm (fun j hm => ?_) fun j hm => ?_))))
  ·refine KD (MW 2 (NA (MW 3 (GD hm fun g q hm => wV (elemP d (c.toNat * 3)) h (eI (m.mem0 i) rfl q) (wV (.agg #[iv g.State, iv g.Irq, iv g.Priority]) h (eE true 3 0 (c.toNat * 3) (m.mem0 i) q) (GD hm fun G A hm => WD (c_i_firstEmpty_1 h g A) i fun u l => NO (GT hm (fun k hm => ?_) fun k hm => ?_)))))))
   ·refine QA (MW 2 (NX ?_))
    obtain rfl := HS hm
    obtain rfl := o _ rfl
    have hm := n; simp only [Sum.elim_inr] at hm
    refine BR (N_meet_ret (TR ?_))
    obtain rfl := HS hm
    exact RA [iv c] (⟨rfl, l.pk []⟩)
   refine KC (MW 2 (WN ?_))
   cases hm
   exact N_loop fun a ha => ⟨_, rfl, l.pk [], ha.s⟩
  refine XA ?_
  obtain rfl := HS hm
  obtain rfl := o _ rfl
  exact NM fun a ha => ⟨_, rfl, i.pk [], ha.s⟩
 intro F D ⟨t, hout_, x, z⟩
 refine N_use z ?_
 subst hout_
 have hm := n; simp only [Sum.elim_inl] at hm
 refine NF (MW 1 (NC ?_))
 cases hm
 exact RA [iv (-1)] (⟨rfl, x.pk []⟩)
theorem c_i_firstEmpty (w : World) (a : List Slot) (c b) (h : rdS encSlot w a c b) {r : Int} (hm : M.i_firstEmpty a = some r) :
  Calls Tryz.prog 198 #[SL c a b] w fun e w' => e = .returned (iv r) ∧ Mem [] w w' [] := by
 unfold M.i_firstEmpty at hm
 refine cE Tryz.func198 ?_
 have M0 := Mem.refl [] w
 refine QA (MW 1 (NA (MW 1 (GD hm fun d i hm => WD (c_slices_IndexFunc_210__i_firstEmpty_1 w a c b (h.mem0 M0) i) M0 fun j g => MW 1 (NC ?_)))))
 obtain rfl := HS hm
 exact RA [iv d] (⟨rfl, g.pk []⟩)
theorem c_i_isSettled (w : World) (b : Queue) (f g) (q : rdS encSlot w b.Slots f g) (k n) (y : rdS encWaiter w b.Waiting k n) {r : Bool} (hm : M.i_isSettled b = some r) :
  Calls Tryz.prog 161 #[.agg #[SL f b.Slots g, SL k b.Waiting n]] w fun e w' => e = .returned (.bool r) ∧ Mem [] w w' [] := by
 unfold M.i_isSettled at hm
 refine cE Tryz.func161 ?_
 have M0 := Mem.refl [] w
 refine QA (wN (CE 85 [SL f b.Slots g, SL k b.Waiting n]) M0 fun c i m => MW 1 (NB (MW 1 (wV (SL k b.Waiting n) i (eL false 1 1 (m.blk 0 rfl)) (MW 2 (NO (GT hm (fun u hm => ?_) fun u hm => ?_)))))))
 ·refine QA (MW 1 (ND ?_))
  obtain rfl := HS hm
  exact RA [.bool true] (⟨rfl, m.pk []⟩)
 refine KA (MW 1 (wV (SL f b.Slots g) i (eL false 1 0 (m.blk 0 rfl)) (GD hm fun d L hm => WD (c_i_pendingSlot i b.Slots f g (q.mem0 m) false L) m fun Q D => MW 1 (NE (GD hm fun B K J => G_meet (fun a w' => Mem [] w w' [] ∧ Sat Tryz.f161.ntmps [(2, .bool B)] a) ?_ ?_)))))
 ·have hm := K
  refine G_quiet (by kernel_rfl) (by kernel_rfl) D (MZ 1 (zV (SL f b.Slots g) (fun w_ M_ => (eL false 1 0 (M_.blk 0 rfl))) (GD hm fun t N hm => ZC (iv t) (fun w_ M_ => c_i_firstEmpty w_ b.Slots f g (q.mem0 M_) N) (MS 2 [(1, pB c 0), (3, iv d), (15, .bool (decide (t < 0)))] ?_))))
  rcases gx_bif hm with ⟨v, hm⟩ | ⟨v, hm⟩
  ·refine zK 15 true v (MS 3 [(1, pB c 0), (3, iv d), (15, .bool true), (18, .bool (decide (d < 0)))] ?_)
   rcases gx_bif hm with ⟨x, hm⟩ | ⟨x, hm⟩
   ·refine zK 18 true x (MZ 15 (Z_end fun S E => ?_))
    obtain rfl := HS hm
    exact NM fun a ha => ⟨E.pk [], ha.s⟩
   refine zK 18 false x (MZ 1 (zV (SL k b.Waiting n) (fun w_ M_ => (eL false 1 1 (M_.blk 0 rfl))) (GD hm fun h z hm => zV (elemP k ((0 : Int).toNat * 2)) (fun w_ M_ => (eI (y.mem0 M_) rfl z)) (zV (.agg #[iv h.Irq, iv h.Priority]) (fun w_ M_ => (eE true 2 0 ((0 : Int).toNat * 2) (y.mem0 M_) z)) (MZ 1 (zV (SL f b.Slots g) (fun w_ M_ => (eL false 1 0 (M_.blk 0 rfl))) (MZ 1 (GD hm fun j A hm => zV (elemP f (d.toNat * 3)) (fun w_ M_ => (eI (q.mem0 M_) rfl A)) (zV (.agg #[iv j.State, iv j.Irq, iv j.Priority]) (fun w_ M_ => (eE true 3 0 (d.toNat * 3) (q.mem0 M_) A)) (GD hm fun o O hm => ZC (.agg #[iv o.Irq, iv o.Priority]) (fun w_ M_ => c_i_waiterOf w_ j O) (GD hm fun l P hm => ZC (iv l) (fun w_ M_ => c_i_compareUrgency w_ h o P) (MS 4 [(2, .bool (decide (l > 0)))] (Z_end fun T F => ?_)))))))))))))
   obtain rfl := HS hm
   exact NM fun a ha => ⟨F.pk [], ha.s⟩
  refine zK 15 false v (MS 18 [(2, .bool false)] (Z_end fun U G => ?_))
  obtain rfl := HS hm
  exact NM fun a ha => ⟨G.pk [], ha.s⟩
 intro R V ⟨H, I⟩
 refine N_use I ?_
 have hm := J
 refine TN (G_ret ?_)
 obtain rfl := HS hm
 exact RA [.bool B] (⟨rfl, H.pk []⟩)
theorem c_i_IsQueue (w : World) (b : Queue) (d c) (n : rdS encSlot w b.Slots d c) (g f) (o : rdS encWaiter w b.Waiting g f) {r : Bool} (hm : M.i_IsQueue b = some r) :
  Calls Tryz.prog 113 #[.agg #[SL d b.Slots c, SL g b.Waiting f]] w fun e w' => e = .returned (.bool r) ∧ Mem [] w w' [] := by
 unfold M.i_IsQueue at hm
 refine cE Tryz.func113 ?_
 have M0 := Mem.refl [] w
 refine QA (wN (CE 85 [SL d b.Slots c, SL g b.Waiting f]) M0 fun h i j => MW 1 (NE (GD hm fun q A z => G_meet (fun a w' => Mem [] w w' [] ∧ Sat Tryz.f113.ntmps [(2, .bool q)] a) ?_ ?_)))
 ·have hm := A
  refine GR (MW 1 (wV (SL d b.Slots c) i (eL false 1 0 (j.blk 0 rfl)) (MW 1 (wV (SL g b.Waiting f) i (eL false 1 1 (j.blk 0 rfl)) (GD hm fun D B hm => WD (c_i_areParts i b.Slots d c (n.mem0 j) b.Waiting g f (o.mem0 j) B) j fun l k => wR 1 [(1, pB h 0), (8, .bool D)] l ?_)))))
  rcases gx_bif hm with ⟨m, hm⟩ | ⟨m, hm⟩
  ·refine wK 8 true m (wV (.agg #[SL d b.Slots c, SL g b.Waiting f]) l (eL true 2 0 (k.blk 0 rfl)) (GD hm fun E C hm => WD (c_i_isSettled l b d c (n.mem0 k) g f (o.mem0 k) C) k fun F v => MW 2 (WN ?_)))
   obtain rfl := HS hm
   exact NM fun a ha => ⟨v.pk [], ha.s⟩
  refine wK 8 false m (MW 4 (WN ?_))
  obtain rfl := HS hm
  exact NM fun a ha => ⟨k.pk [], ha.s⟩
 intro G H ⟨x, y⟩
 refine N_use y ?_
 have hm := z
 refine TN (G_ret ?_)
 obtain rfl := HS hm
 exact RA [.bool q] (⟨rfl, x.pk []⟩)
theorem c_i_copyInts (w : World) (a : List Int) (c b) (n : rdS Gx.encI w a c b) {r : (List Int)} (hm : M.i_copyInts a = some r) :
  Calls Tryz.prog 67 #[SL c a b] w fun e w' => ∃ j i k, e = .returned (SL j r i) ∧ ownS Gx.encI r j i k ∧ Mem [] w w' [k] := by
 unfold M.i_copyInts at hm
 refine cE Tryz.func67 ?_
 have M0 := Mem.refl [] w
 refine QA (MW 1 (NA (wL (E := Gx.encI) ([] : List Int) 0 [] 3 M0 fun u m z x q g => MW 1 (GD hm fun h o hm => wA 8 [iv 0] 0 g q (n.mem0 g) o fun f d v y t l => MW 1 (NC ?_)))))
 obtain rfl := HS hm
 exact RA [SL f h d] (⟨f, d, v, rfl, t, l.pk [0]⟩)
theorem c_slices_Sort_114 (w : World) (b : List Int) (d c a) (g : ownS Gx.encI b d c a) (hA : ∀ q ∈ List.flatten [a], w.heap[q.1]? = some q.2) (hN : (idsOf [a]).Nodup) {r : (List Int)} (hm : M.slices_Sort_114 b = some r) :
  Calls Tryz.prog 114 #[SL d b c] w fun e w' => ∃ f, e = .returned (.tuple #[]) ∧ ownS Gx.encI r d c f ∧ r.length = b.length ∧ Mem (idsOf [a]) w w' [f] := by
 unfold M.slices_Sort_114 at hm
 rcases gx_bif hm with ⟨h, hm⟩ | ⟨h, hm⟩
 ·obtain rfl := HS hm
  exact sortI_run Tryz.slices_Sort_int Tryz.slices_Sort_int_none w b d c a g hA hN (of_decide_eq_true h)
 cases hm
theorem c_i_isActive (w : World) (b : Slot) {r : Bool} (hm : M.i_isActive b = some r) :
  Calls Tryz.prog 164 #[.agg #[iv b.State, iv b.Irq, iv b.Priority]] w fun e w' => e = .returned (.bool r) ∧ Mem [] w w' [] := by
 unfold M.i_isActive at hm
 refine cE Tryz.func164 ?_
 have M0 := Mem.refl [] w
 refine QA (wN (CE 117 [iv b.State, iv b.Irq, iv b.Priority]) M0 fun d c f => MW 1 (NE (GD hm fun h l k => G_meet (fun a w' => Mem [] w w' [] ∧ Sat Tryz.f164.ntmps [(2, .bool h)] a) ?_ ?_)))
 ·have hm := l
  refine GR (MW 1 (wV (iv b.State) c (eL false 1 0 (f.blk 0 rfl)) (wR 2 [(1, pB d 0), (6, .bool (b.State == 2))] c ?_)))
  rcases gx_bif hm with ⟨g, hm⟩ | ⟨g, hm⟩
  ·refine wK 6 true g (MW 5 (WN ?_))
   obtain rfl := HS hm
   exact NM fun a ha => ⟨f.pk [], ha.s⟩
  refine wK 6 false g (MW 1 (wV (iv b.State) c (eL false 1 0 (f.blk 0 rfl)) (MW 3 (WN ?_))))
  obtain rfl := HS hm
  exact NM fun a ha => ⟨f.pk [], ha.s⟩
 intro m n ⟨i, j⟩
 refine N_use j ?_
 have hm := k
 refine TN (G_ret ?_)
 obtain rfl := HS hm
 exact RA [.bool h] (⟨rfl, i.pk []⟩)
theorem c_i_activeIrqs (w : World) (b : List Slot) (h i) (N : rdS encSlot w b h i) {r : (List Int)} (hm : M.i_activeIrqs b = some r) :
  Calls Tryz.prog 116 #[SL h b i] w fun e w' => ∃ P K R, e = .returned (SL P r K) ∧ ownS Gx.encI r P K R ∧ Mem [] w w' [R] := by
 unfold M.i_activeIrqs at hm
 refine cE Tryz.func116 ?_
 have M0 := Mem.refl [] w
 refine QA (MW 1 (NA (wL (E := Gx.encI) ([] : List Int) 0 [] 3 M0 fun G A ay S al Y => MW 1 (NB (MW 3 (NO (GD hm fun k ax ak => G_meet (fun a w' => ∃ g f v, ownS Gx.encI k g f v ∧ Mem [] w w' [v] ∧ Sat Tryz.f116.ntmps [(3, SL g k f)] a) ?_ ?_)))))))
 ·refine GB (G_while (σ := List Int × Int) (ρ := List Int) (fun d a w' => ∃ l j o, ownS Gx.encI d.1 l j o ∧ Mem [] w w' [o] ∧ Sat Tryz.f116.ntmps [(3, SL l d.1 j), (7, SL h b i), (8, iv (b.length : Int)), (9, iv d.2)] a) ax (fun a ha => ⟨G, A, ay, al, Y.pk [0], ha.s⟩) ?_)
  clear hm
  intro d bf hm au a6 H ⟨l, j, o, D, q, af⟩
  refine G_use af (QA (MW 1 (NE (GT hm (fun B hm => ?_) fun B hm => ?_))))
  ·refine KD (GD hm fun c O hm => wV (elemP h (d.2.toNat * 3)) H (eI (N.mem0 q) rfl O) (wV (.agg #[iv c.State, iv c.Irq, iv c.Priority]) H (eE true 3 0 (d.2.toNat * 3) (N.mem0 q) O) (wN (CE 117 [iv 0, iv 0, iv 0]) q fun ae bd Z => wS true 3 0 (.agg #[iv c.State, iv c.Irq, iv c.Priority]) 1 [iv c.State, iv c.Irq, iv c.Priority] Z rfl fun T I => NA (wV (.agg #[iv c.State, iv c.Irq, iv c.Priority]) T (eL true 3 0 (I.blk 1 rfl)) (GD hm fun bb av hm => WD (c_i_isActive T c av) I fun U y => NO (GD hm fun F an aj => G_meet (fun a w' => ∃ n m x, ownS Gx.encI F n m x ∧ Mem [] w w' [x] ∧ Sat Tryz.f116.ntmps [(3, SL n F m), (7, SL h b i), (8, iv (b.length : Int)), (9, iv d.2)] a) ?_ ?_))))))
   ·have hm := an
    refine GT hm (fun C hm => ?_) fun C hm => ?_
    ·refine GR (MW 2 (wV (iv c.Irq) U (eL false 1 1 (y.blk 1 rfl)) (wL (E := Gx.encI) [c.Irq] 1 [iv c.Irq] 3 y fun ba a9 bc be ap J => GD hm fun ad ai hm => wA 8 [iv 0] 0 J D (ap.r J 2) ai fun Q L az a3 aq aa => MW 1 (WN ?_))))
     obtain rfl := HS hm
     exact NM fun a ha => ⟨Q, L, az, aq, aa.pk [0], ha.s⟩
    refine GK ?_
    obtain rfl := HS hm
    exact NM fun a ha => ⟨l, j, o, D, y.pk [0], ha.s⟩
   intro a7 a4 ⟨n, m, x, ao, ab, ag⟩
   refine N_use ag ?_
   have hm := aj
   refine BN (TN (GR (MW 2 (WN ?_))))
   cases hm
   exact N_loop fun a ha => ⟨_, rfl, n, m, x, ao, ab.pk [0], ha.s⟩
  refine XA ?_
  obtain rfl := HS hm
  obtain rfl := au _ rfl
  exact NM fun a ha => ⟨l, j, o, D, q.pk [0], ha.s⟩
 intro a8 V ⟨g, f, v, am, z, ah⟩
 refine N_use ah ?_
 have hm := ak
 refine NF (MW 1 (GD hm fun u aw hm => WC ((c_slices_Sort_114 V k g f v am (z.hasPick [0]) (z.nodupPick [0] (by kernel_rfl)) aw).mono ?_)))
 rintro e_ a5 ⟨a0, rfl, ar, t, X⟩
 have ac := z.callF' [0] [] (by kernel_rfl) X
 refine ⟨_, rfl, ?_⟩
 refine LY 3 g f t (LY 21 g f t (NA (MW 2 (NC ?_))))
 obtain rfl := HS hm
 exact RA [SL g u f] (⟨g, f, a0, rfl, ar, ac.pk [0]⟩)
theorem c_slices_Equal_115 (w : World) (b : List Int) (f h) (t : rdS Gx.encI w b f h) (d : List Int) (g i) (u : rdS Gx.encI w d g i) {r : Bool} (hm : M.slices_Equal_115 b d = some r) :
  Calls Tryz.prog 115 #[SL f b h, SL g d i] w fun e w' => e = .returned (.bool r) ∧ Mem [] w w' [] := by
 unfold M.slices_Equal_115 at hm
 refine cE Tryz.func115 ?_
 have M0 := Mem.refl [] w
 refine QA (MW 1 (NB (MW 5 (NO (GT hm (fun k hm => ?_) fun k hm => ?_)))))
 ·refine QA (MW 1 (ND ?_))
  obtain rfl := HS hm
  exact RA [.bool false] (⟨rfl, M0.pk []⟩)
 refine KB (MW 3 (NO (GD hm fun H G v => G_meet (fun a w' => ∃ (A : Unit), H = .inl A ∧ Mem [] w w' [] ∧ Sat Tryz.f115.ntmps [] a) ?_ ?_)))
 ·refine GB (G_while (σ := Int) (ρ := (Unit) ⊕ (Bool)) (fun c a w' => Mem [] w w' [] ∧ Sat Tryz.f115.ntmps [(0, SL f b h), (1, SL g d i), (12, iv (b.length : Int)), (13, iv c)] a) G (fun a ha => ⟨M0.pk [], ha.s⟩) ?_)
  clear hm
  intro c L hm x J B ⟨o, E⟩
  refine G_use E (QA (MW 1 (NE (GT hm (fun l hm => ?_) fun l hm => ?_))))
  ·refine KD (MW 2 (NE (G_quiet (by kernel_rfl) (by kernel_rfl) o (MZ 2 (GD hm fun j y hm => zV (elemP f (c.toNat * 1)) (fun w_ M_ => (eI (t.mem0 M_) rfl y)) (zV (iv j) (fun w_ M_ => (eE false 1 0 (c.toNat * 1) (t.mem0 M_) y)) (MZ 2 (GD hm fun n z hm => zV (elemP g (c.toNat * 1)) (fun w_ M_ => (eI (u.mem0 M_) rfl z)) (zV (iv n) (fun w_ M_ => (eE false 1 0 (c.toNat * 1) (u.mem0 M_) z)) (MS 1 [(0, SL f b h), (1, SL g d i), (12, iv (b.length : Int)), (13, iv c), (24, .bool (j != n))] (Z_end fun C q => (TN (GT hm (fun m hm => ?_) fun m hm => ?_)))))))))))))
   ·refine QA (MW 1 (NX ?_))
    obtain rfl := HS hm
    obtain rfl := x _ rfl
    have hm := v; simp only [Sum.elim_inr] at hm
    refine BR (N_meet_ret (TR ?_))
    obtain rfl := HS hm
    exact RA [.bool false] (⟨rfl, q.pk []⟩)
   refine KC (MW 2 (WN ?_))
   cases hm
   exact N_loop fun a ha => ⟨_, rfl, q.pk [], ha.s⟩
  refine XA ?_
  obtain rfl := HS hm
  obtain rfl := x _ rfl
  exact NM fun a ha => ⟨_, rfl, o.pk [], ha.s⟩
 intro K I ⟨A, hout_, D, F⟩
 refine N_use F ?_
 subst hout_
 have hm := v; simp only [Sum.elim_inl] at hm
 refine NF (MW 1 (NC ?_))
 obtain rfl := HS hm
 exact RA [.bool true] (⟨rfl, D.pk []⟩)
theorem c_i_priorityIn (w : World) (b : List Slot) (a c) (g : rdS encSlot w b a c) (d : Int) {r : Int} (hm : M.i_priorityIn b d = some r) :
  Calls Tryz.prog 117 #[SL a b c, iv d] w fun e w' => e = .returned (iv r) ∧ Mem [] w w' [] := by
 unfold M.i_priorityIn at hm
 refine cE Tryz.func117 ?_
 have M0 := Mem.refl [] w
 refine QA (MW 1 (NA (MW 3 (GD hm fun h m hm => WD (c_i_findSlot w b a c (g.mem0 M0) d m) M0 fun i f => GD hm fun k j hm => wV (elemP a (h.toNat * 3)) i (eI (g.mem0 f) rfl j) (wV (elemP a (h.toNat * 3 + 2)) i (eF 2 (h.toNat * 3) 2 (g.mem0 f) j) (wV (iv k.Priority) i (eE false 1 2 (h.toNat * 3 + 2) (g.mem0 f) j) (MW 1 (NC ?_))))))))
 obtain rfl := HS hm
 exact RA [iv k.Priority] (⟨rfl, f.pk []⟩)
theorem c_i_IsInterface (w : World) (b : Interface) (h i) (t : rdS Gx.encI w b.Stack h i) (g f) (y : rdS encSlot w b.Queue.Slots g f) (m l) (an : rdS encWaiter w b.Queue.Waiting m l) {r : Bool} (hm : M.i_IsInterface b = some r) :
  Calls Tryz.prog 59 #[.agg #[iv b.Mask, SL h b.Stack i, SL g b.Queue.Slots f, SL m b.Queue.Waiting l]] w fun e w' => e = .returned (.bool r) ∧ Mem [] w w' [] := by
 unfold M.i_IsInterface at hm
 refine cE Tryz.func59 ?_
 have M0 := Mem.refl [] w
 refine QA (wN (CE 87 [iv b.Mask, SL h b.Stack i, SL g b.Queue.Slots f, SL m b.Queue.Waiting l]) M0 fun c A T => MW 1 (NE (GS (GD hm fun a9 au ar => G_meet (fun a w' => Mem [] w w' [(BK c 87 [iv b.Mask, SL h b.Stack i, SL g b.Queue.Slots f, SL m b.Queue.Waiting l])] ∧ Sat Tryz.f59.ntmps [(1, pB c 0), (14, .bool a9)] a) ?_ ?_))))
 ·have hm := au
  refine GR (MW 1 (wV (iv b.Mask) A (eL false 1 0 (T.blk 0 rfl)) (GD hm fun bb ay hm => WD (c_i_isMask A b.Mask ay) T fun v q => wR 2 [(1, pB c 0), (9, .bool (!bb))] v ?_)))
  rcases gx_bif hm with ⟨G, hm⟩ | ⟨G, hm⟩
  ·refine wK 9 true G (MW 5 (WN ?_))
   obtain rfl := HS hm
   exact NM fun a ha => ⟨q.pk [0], ha.s⟩
  refine wK 9 false G (MW 1 (wV (.agg #[SL g b.Queue.Slots f, SL m b.Queue.Waiting l]) v (eL true 2 2 (q.blk 0 rfl)) (GD hm fun bc az hm => WD (c_i_IsQueue v b.Queue g f (y.mem0 q) m l (an.mem0 q) az) q fun bf al => MW 2 (WN ?_))))
  obtain rfl := HS hm
  exact NM fun a ha => ⟨al.pk [0], ha.s⟩
 intro bi B ⟨x, ao⟩
 refine N_use ao ?_
 have hm := ar
 refine TN (GT hm (fun H hm => ?_) fun H hm => ?_)
 ·refine QA (MW 1 (ND ?_))
  obtain rfl := HS hm
  exact RA [.bool false] (⟨rfl, x.pk []⟩)
 refine KA (MW 1 (wV (SL h b.Stack i) B (eL false 1 1 (x.blk 0 rfl)) (GD hm fun n a0 hm => WC ((c_i_copyInts B b.Stack h i (t.mem0 x) a0).mono ?_))))
 rintro e_ N ⟨k, j, be, rfl, av, ah⟩
 have C := x.call ah
 refine ⟨_, rfl, ?_⟩
 refine MW 1 (NA (MW 1 (GD hm fun u a3 hm => WC ((c_slices_Sort_114 N n k j be av (C.hasPick [1]) (C.nodupPick [1] (by kernel_rfl)) a3).mono ?_))))
 rintro e_ O ⟨bl, rfl, aw, z, ai⟩
 have D := C.callF' [1] [0] (by kernel_rfl) ai
 refine ⟨_, rfl, ?_⟩
 refine LY 3 k j z (LY 18 k j z (NB (MW 3 (wV (SL g b.Queue.Slots f) O (eL false 1 2 (D.blk 0 rfl)) (GD hm fun ad a4 hm => WC ((c_i_activeIrqs O b.Queue.Slots g f (y.mem0 D) a4).mono ?_))))))
 rintro e_ bg ⟨ac, W, bm, rfl, ax, aj⟩
 have E := D.call aj
 refine ⟨_, rfl, ?_⟩
 refine GD hm fun bd a5 hm => WD (c_slices_Equal_115 bg u k j (aw.r E 1) ad ac W (ax.r E 2) a5) E fun P U => wR 1 [(1, pB c 0), (26, .bool (!bd))] P (NO (GT hm (fun I hm => ?_) fun I hm => ?_))
 ·refine QA (MW 1 (ND ?_))
  obtain rfl := HS hm
  exact RA [.bool false] (⟨rfl, U.pk []⟩)
 refine KB (MW 1 (NO (GD hm fun ba a8 X => G_meet (fun a w' => ∃ (ab : Unit), ba = .inl ab ∧ Mem [] w w' [] ∧ Sat Tryz.f59.ntmps [] a) ?_ ?_)))
 ·refine GB (G_while (σ := Int) (ρ := (Unit) ⊕ (Bool)) (fun d a w' => Mem [] w w' [(BK c 87 [iv b.Mask, SL h b.Stack i, SL g b.Queue.Slots f, SL m b.Queue.Waiting l])] ∧ Sat Tryz.f59.ntmps [(1, pB c 0), (4, iv d)] a) a8 (fun a ha => ⟨U.pk [0], ha.s⟩) ?_)
  clear hm
  intro d bn hm Y bj Q ⟨F, ap⟩
  refine G_use ap (QB (MW 2 (wV (SL h b.Stack i) Q (eL false 1 1 (F.blk 0 rfl)) (MW 2 (NO (GT hm (fun J hm => ?_) fun J hm => ?_))))))
  ·refine GK (TN (GS (GB (GS (G_quiet (by kernel_rfl) (by kernel_rfl) F (MZ 2 (zV (SL g b.Queue.Slots f) (fun w_ M_ => (eL false 1 2 (M_.blk 0 rfl))) (MZ 1 (zV (SL h b.Stack i) (fun w_ M_ => (eL false 1 1 (M_.blk 0 rfl))) (MZ 1 (GD hm fun R Z hm => zV (elemP h (d.toNat * 1)) (fun w_ M_ => (eI (t.mem0 M_) rfl Z)) (zV (iv R) (fun w_ M_ => (eE false 1 0 (d.toNat * 1) (t.mem0 M_) Z)) (GD hm fun o a6 hm => ZC (iv o) (fun w_ M_ => c_i_priorityIn w_ b.Queue.Slots g f (y.mem0 M_) R a6) (MZ 2 (zV (SL g b.Queue.Slots f) (fun w_ M_ => (eL false 1 2 (M_.blk 0 rfl))) (MZ 1 (zV (SL h b.Stack i) (fun w_ M_ => (eL false 1 1 (M_.blk 0 rfl))) (MZ 2 (GD hm fun S aa hm => zV (elemP h ((w64 (d - 1)).toNat * 1)) (fun w_ M_ => (eI (t.mem0 M_) rfl aa)) (zV (iv S) (fun w_ M_ => (eE false 1 0 ((w64 (d - 1)).toNat * 1) (t.mem0 M_) aa)) (GD hm fun L a7 hm => ZC (iv L) (fun w_ M_ => c_i_priorityIn w_ b.Queue.Slots g f (y.mem0 M_) S a7) (MS 1 [(1, pB c 0), (4, iv d), (53, .bool (decide (o ≥ L)))] (Z_end fun ae V => (TN ?_))))))))))))))))))))))))
   refine GT hm (fun K hm => ?_) fun K hm => ?_
   ·refine QA (MW 1 (NX ?_))
    obtain rfl := HS hm
    obtain rfl := Y _ rfl
    have hm := X; simp only [Sum.elim_inr] at hm
    refine BR (N_meet_ret (TR ?_))
    obtain rfl := HS hm
    exact RA [.bool false] (⟨rfl, V.pk []⟩)
   refine KC (MW 3 (WN ?_))
   cases hm
   exact N_loop fun a ha => ⟨_, rfl, V.pk [0], ha.s⟩
  refine XA ?_
  obtain rfl := HS hm
  obtain rfl := Y _ rfl
  exact NM fun a ha => ⟨_, rfl, F.pk [], ha.s⟩
 intro bk bh ⟨ab, hout_, am, aq⟩
 refine N_use aq ?_
 subst hout_
 have hm := X; simp only [Sum.elim_inl] at hm
 refine NF (MW 1 (NC ?_))
 obtain rfl := HS hm
 exact RA [.bool true] (⟨rfl, am.pk []⟩)
theorem c_slices_Clone_118 (w : World) (b : List Waiter) (d a) (j : rdS encWaiter w b d a) {r : (List Waiter)} (hm : M.slices_Clone_118 b = some r) :
  Calls Tryz.prog 118 #[SL d b a] w fun e w' => ∃ k i l, e = .returned (SL k r i) ∧ ownS encWaiter r k i l ∧ Mem [] w w' [l] := by
 unfold M.slices_Clone_118 at hm
 cases d with
 | none =>
  have hx : b = [] := by rcases j.2 with hh | ⟨_, _, _, _, _, hp, _⟩; exact hh; cases hp
  subst hx
  have hm : some ([] : List Waiter) = some r := by simpa [gxApp] using hm
  refine cE Tryz.func118 ?_
  have M0 := Mem.refl [] w
  refine QA (MW 1 (NB (MW 2 (NO (gT rfl (QA (MW 1 (WN (TN (G_ret (TR ?_)))))))))))
  cases hm
  exact RA [SN] (⟨none, 0, [], rfl, ownS_nil, M0.pk [100000]⟩)
 | some a_ =>
  refine cE Tryz.func118 ?_
  have M0 := Mem.refl [] w
  refine QA (MW 1 (NB (MW 2 (NO (gF rfl (KA (wL (E := encWaiter) ([] : List Waiter) 0 [] 142 M0 fun u n z x q g => MW 1 (GD hm fun h o hm => wA 16 [iv 0, iv 0] 0 g q (j.mem0 g) o fun f c v y t m => MW 1 (NC ?_)))))))))
  obtain rfl := HS hm
  exact RA [SL f h c] (⟨f, c, v, rfl, t, m.pk [0]⟩)
theorem c_i_fitsRoutes_1 (w : World) (b : Waiter) (h : List Route) (g i) (k : rdS encRoute w h g i) (j : Nat) (o : w.heap[j]? = some (CE 29 [SL g h i])) (c : Int) (f : Nat) (q : w.heap[f]? = some (CE 3 [iv c])) {r : Bool} (hm : M.i_fitsRoutes_1 b h c = some r) :
  Calls Tryz.prog 121 #[.agg #[iv b.Irq, iv b.Priority], pB j 0, pB f 0] w fun e w' => e = .returned (.bool r) ∧ Mem [] w w' [] := by
 unfold M.i_fitsRoutes_1 at hm
 refine cE Tryz.func121 ?_
 have M0 := Mem.refl [] w
 refine QA (wN (CE 142 [iv b.Irq, iv b.Priority]) M0 fun d t m => MW 1 (NE (G_quiet (by kernel_rfl) (by kernel_rfl) m (zV (SL g h i) (fun w_ M_ => (eL false 1 0 (M_.ro o))) (MZ 1 (zV (iv b.Irq) (fun w_ M_ => (eL false 1 0 (M_.blk 0 rfl))) (GD hm fun a l hm => zV (elemP g (b.Irq.toNat * 2)) (fun w_ M_ => (eI (k.mem0 M_) rfl l)) (zV (.agg #[iv a.Priority, iv a.Target]) (fun w_ M_ => (eE true 2 0 (b.Irq.toNat * 2) (k.mem0 M_) l)) (MZ 1 (zV (iv b.Priority) (fun w_ M_ => (eL false 1 1 (M_.blk 0 rfl))) (zV (iv c) (fun w_ M_ => (eL false 1 0 (M_.ro q))) (MZ 1 (zV (.bool (!((a.Priority == b.Priority) && ((a.Target == c) && true)))) (fun w_ M_ => (E_neqAgg _ _ _ _ [iv a.Priority, iv a.Target] [iv b.Priority, iv c] ((a.Priority == b.Priority) && ((a.Target == c) && true)) rfl (by kernel_rfl) (by kernel_rfl) (by kernel_rfl) (by kernel_rfl) (by kernel_rfl) (by kernel_rfl))) (MZ 1 (Z_end fun u n => (TN (G_ret ?_)))))))))))))))))
 cases hm
 exact RA [.bool (!((a.Priority == b.Priority) && ((a.Target == c) && true)))] (⟨rfl, n.pk []⟩)
theorem c_slices_IndexFunc_166__i_fitsRoutes_1 (w : World) (b : List Waiter) (g h) (v : rdS encWaiter w b g h) (l : List Route) (q m) (E : rdS encRoute w l q m) (d : Nat) (H : w.heap[d]? = some (CE 29 [SL q l m])) (t : Int) (f : Nat) (I : w.heap[f]? = some (CE 3 [iv t])) {r : Int} (hm : M.slices_IndexFunc_166__i_fitsRoutes_1 b l t = some r) :
  Calls Tryz.prog 166 #[SL g b h, .func (.func 121) #[] #[pB d 0, pB f 0]] w fun e w' => e = .returned (iv r) ∧ Mem [] w w' [] := by
 unfold M.slices_IndexFunc_166__i_fitsRoutes_1 at hm
 refine cE Tryz.func166 ?_
 have M0 := Mem.refl [] w
 refine QA (MW 1 (NB (MW 3 (NO (GD hm fun L K x => G_meet (fun a w' => ∃ (A : Unit), L = .inl A ∧ Mem [] w w' [] ∧ Sat Tryz.f166.ntmps [] a) ?_ ?_)))))
 ·refine GB (G_while (σ := Int) (ρ := (Unit) ⊕ (Int)) (fun c a w' => Mem [] w w' [] ∧ Sat Tryz.f166.ntmps [(0, SL g b h), (1, .func (.func 121) #[] #[pB d 0, pB f 0]), (7, iv (b.length : Int)), (8, iv c)] a) K (fun a ha => ⟨M0.pk [], ha.s⟩) ?_)
  clear hm
  intro c R hm y O j ⟨i, F⟩
  refine G_use F (QA (MW 1 (NE (GT hm (fun n hm => ?_) fun n hm => ?_))))
  ·refine KD (MW 2 (NA (MW 3 (GD hm fun k z hm => wV (elemP g (c.toNat * 2)) j (eI (v.mem0 i) rfl z) (wV (.agg #[iv k.Irq, iv k.Priority]) j (eE true 2 0 (c.toNat * 2) (v.mem0 i) z) (GD hm fun Q J hm => WD (c_i_fitsRoutes_1 j k l q m (E.mem0 i) d (i.ro H) t f (i.ro I) J) i fun B u => NO (GT hm (fun o hm => ?_) fun o hm => ?_)))))))
   ·refine QA (MW 2 (NX ?_))
    obtain rfl := HS hm
    obtain rfl := y _ rfl
    have hm := x; simp only [Sum.elim_inr] at hm
    refine BR (N_meet_ret (TR ?_))
    obtain rfl := HS hm
    exact RA [iv c] (⟨rfl, u.pk []⟩)
   refine KC (MW 2 (WN ?_))
   cases hm
   exact N_loop fun a ha => ⟨_, rfl, u.pk [], ha.s⟩
  refine XA ?_
  obtain rfl := HS hm
  obtain rfl := y _ rfl
  exact NM fun a ha => ⟨_, rfl, i.pk [], ha.s⟩
 intro P N ⟨A, hout_, D, G⟩
 refine N_use G ?_
 subst hout_
 have hm := x; simp only [Sum.elim_inl] at hm
 refine NF (MW 1 (NC ?_))
 cases hm
 exact RA [iv (-1)] (⟨rfl, D.pk []⟩)
theorem c_slices_ContainsFunc_120__i_fitsRoutes_1 (w : World) (a : List Waiter) (f d) (n : rdS encWaiter w a f d) (g : List Route) (i h) (o : rdS encRoute w g i h) (b : Nat) (q : w.heap[b]? = some (CE 29 [SL i g h])) (j : Int) (c : Nat) (t : w.heap[c]? = some (CE 3 [iv j])) {r : Bool} (hm : M.slices_ContainsFunc_120__i_fitsRoutes_1 a g j = some r) :
  Calls Tryz.prog 120 #[SL f a d, .func (.func 121) #[] #[pB b 0, pB c 0]] w fun e w' => e = .returned (.bool r) ∧ Mem [] w w' [] := by
 unfold M.slices_ContainsFunc_120__i_fitsRoutes_1 at hm
 refine cE Tryz.func120 ?_
 have M0 := Mem.refl [] w
 refine QA (MW 1 (NA (MW 2 (GD hm fun k u hm => WD (c_slices_IndexFunc_166__i_fitsRoutes_1 w a f d (n.mem0 M0) g i h (o.mem0 M0) b (M0.ro q) j c (M0.ro t) u) M0 fun v m => MW 2 (NC ?_)))))
 cases hm
 exact RA [.bool (decide (k ≥ 0))] (⟨rfl, m.pk []⟩)
theorem c_i_fitsRoutes (w : World) (n : List Route) (t q) (az : rdS encRoute w n t q) (u : Int) (c : Interface) (X R) (bs : rdS Gx.encI w c.Stack X R) (i j) (af : rdS encSlot w c.Queue.Slots i j) (B z) (a0 : rdS encWaiter w c.Queue.Waiting B z) {r : Bool} (hm : M.i_fitsRoutes n u c = some r) :
  Calls Tryz.prog 60 #[SL t n q, iv u, .agg #[iv c.Mask, SL X c.Stack R, SL i c.Queue.Slots j, SL B c.Queue.Waiting z]] w fun e w' => e = .returned (.bool r) ∧ Mem [] w w' [] := by
 unfold M.i_fitsRoutes at hm
 refine cE Tryz.func60 ?_
 have M0 := Mem.refl [] w
 refine QA (wN (CE 29 [SL t n q]) M0 fun d bv ap => wN (CE 3 [iv u]) ap fun f bw aq => wN (CE 87 [iv c.Mask, SL X c.Stack R, SL i c.Queue.Slots j, SL B c.Queue.Waiting z]) aq fun F O Q => MW 1 (NA (MW 2 (wV (SL B c.Queue.Waiting z) O (eL false 1 3 (Q.blk 2 rfl)) (GD hm fun Y be hm => WC ((c_slices_Clone_118 O c.Queue.Waiting B z (a0.mem0 Q) be).mono ?_))))))
 rintro e_ P ⟨L, K, bj, rfl, a8, am⟩
 have ac := Q.call am
 refine ⟨_, rfl, ?_⟩
 refine MW 1 (NB (MW 2 (wV (SL i c.Queue.Slots j) P (eL false 1 2 (ac.blk 2 rfl)) (MW 2 (NO (GD hm fun bi bh ag => G_meet (fun a w' => ∃ (x : List Waiter), ∃ C A aa, ownS encWaiter x C A aa ∧ bi = .inl x ∧ Mem [] w w' [(BK d 29 [SL t n q]), (BK f 3 [iv u]), aa] ∧ Sat Tryz.f60.ntmps [(3, pB d 0), (4, pB f 0), (7, SL C x A)] a) ?_ ?_))))))
 ·refine GB (G_while (σ := List Waiter × Int) (ρ := (List Waiter) ⊕ (Bool)) (fun g a w' => ∃ l k I, ownS encWaiter g.1 l k I ∧ Mem [] w w' [(BK d 29 [SL t n q]), (BK f 3 [iv u]), I] ∧ Sat Tryz.f60.ntmps [(3, pB d 0), (4, pB f 0), (7, SL l g.1 k), (16, SL i c.Queue.Slots j), (17, iv (c.Queue.Slots.length : Int)), (18, iv g.2)] a) bh (fun a ha => ⟨L, K, bj, a8, ac.pk [0, 1, 3], ha.s⟩) ?_)
  clear hm
  intro g b1 hm ah bo ab ⟨l, k, I, V, J, a3⟩
  refine G_use a3 (QA (MW 1 (NE (GT hm (fun S hm => ?_) fun S hm => ?_))))
  ·refine KD (GD hm fun h ai hm => wV (elemP i (g.2.toNat * 3)) ab (eI (af.mem0 J) rfl ai) (wV (.agg #[iv h.State, iv h.Irq, iv h.Priority]) ab (eE true 3 0 (g.2.toNat * 3) (af.mem0 J) ai) (wN (CE 117 [iv 0, iv 0, iv 0]) J fun v bx ar => wS true 3 0 (.agg #[iv h.State, iv h.Irq, iv h.Priority]) 3 [iv h.State, iv h.Irq, iv h.Priority] ar rfl fun m y => NB (MW 1 (wV (iv h.State) m (eL false 1 0 (y.blk 3 rfl)) (MW 1 (NO (GT hm (fun T hm => ?_) fun T hm => ?_))))))))
   ·refine QA (MW 1 (ND (BR (TR (TR ?_)))))
    obtain rfl := HS hm
    obtain rfl := ah _ rfl
    have hm := ag; simp only [Sum.elim_inr] at hm
    refine BR (N_meet_ret (TR ?_))
    obtain rfl := HS hm
    exact RA [.bool false] (⟨rfl, y.pk []⟩)
   refine KA (MW 1 (wV (iv h.State) m (eL false 1 0 (y.blk 3 rfl)) (MW 1 (NO (GD hm fun W ba a7 => G_meet (fun a w' => ∃ H G N, ownS encWaiter W H G N ∧ Mem [] w w' [(BK d 29 [SL t n q]), (BK f 3 [iv u]), N] ∧ Sat Tryz.f60.ntmps [(3, pB d 0), (4, pB f 0), (7, SL H W G), (16, SL i c.Queue.Slots j), (17, iv (c.Queue.Slots.length : Int)), (18, iv g.2)] a) ?_ ?_)))))
   ·have hm := ba
    refine GT hm (fun U hm => ?_) fun U hm => ?_
    ·refine GR (MW 1 (wV (.agg #[iv h.State, iv h.Irq, iv h.Priority]) m (eL true 3 0 (y.blk 3 rfl)) (GD hm fun Z bf hm => WD (c_i_waiterOf m h bf) y fun bz au => wL (E := encWaiter) [Z] 1 [iv Z.Irq, iv Z.Priority] 142 au fun bt br bu b0 bc ad => GD hm fun ay a6 hm => wA 16 [iv 0, iv 0] 2 ad V (bc.r ad 4) a6 fun aj ae bk bl bd av => wR 1 [(3, pB d 0), (4, pB f 0), (7, SL aj ay ae), (16, SL i c.Queue.Slots j), (17, iv (c.Queue.Slots.length : Int)), (18, iv g.2)] bl (WN ?_))))
     obtain rfl := HS hm
     exact NM fun a ha => ⟨aj, ae, bk, bd, av.pk [0, 1, 2], ha.s⟩
    refine GK ?_
    obtain rfl := HS hm
    exact NM fun a ha => ⟨l, k, I, V, y.pk [0, 1, 2], ha.s⟩
   intro bp bm ⟨H, G, N, bb, aw, a4⟩
   refine N_use a4 ?_
   have hm := a7
   refine BN (TN (GR (MW 2 (WN ?_))))
   cases hm
   exact N_loop fun a ha => ⟨_, rfl, H, G, N, bb, aw.pk [0, 1, 2], ha.s⟩
  refine XA ?_
  obtain rfl := HS hm
  obtain rfl := ah _ rfl
  exact NM fun a ha => ⟨_, l, k, I, V, rfl, J.pk [0, 1, 2], ha.s⟩
 intro bq al ⟨x, C, A, aa, a9, hout_, D, a5⟩
 refine N_use a5 ?_
 subst hout_
 have hm := ag; simp only [Sum.elim_inl] at hm
 refine NF (MW 2 (GD hm fun ak bg hm => WD (c_slices_ContainsFunc_120__i_fitsRoutes_1 al x C A (a9.r D 2) n t q (az.mem0 D) d (D.blk 0 (b := d) (o := .cells ⟨[SL t n q]⟩ 29 (0, 0)) (by kernel_rfl)) u f (D.blk 1 (b := f) (o := .cells ⟨[iv u]⟩ 3 (0, 0)) (by kernel_rfl)) bg) D fun bn ax => MW 2 (NC ?_)))
 cases hm
 exact RA [.bool (!ak)] (⟨rfl, ax.pk []⟩)
theorem c_i_IsMachine (w : World) (c : Machine) (k j) (P : rdS encRoute w c.Routes k j) (t o) (a8 : rdS Gx.encB w c.Enabled t o) (u q) (a9 : rdS Gx.encB w c.Raised u q) (h i) (ad : rdD deepInterface w c.Cpus h i) {r : Bool} (hm : M.i_IsMachine c = some r) :
  Calls Tryz.prog 15 #[.agg #[SL k c.Routes j, SL t c.Enabled o, SL u c.Raised q, SL h c.Cpus i]] w fun e w' => e = .returned (.bool r) ∧ Mem [] w w' [] := by
 unfold M.i_IsMachine at hm
 refine cE Tryz.func15 ?_
 have M0 := Mem.refl [] w
 refine QA (wN (CE 32 [SL k c.Routes j, SL t c.Enabled o, SL u c.Raised q, SL h c.Cpus i]) M0 fun f v B => MW 1 (NE (GS (GD hm fun ar ak ai => G_meet (fun a w' => Mem [] w w' [(BK f 32 [SL k c.Routes j, SL t c.Enabled o, SL u c.Raised q, SL h c.Cpus i])] ∧ Sat Tryz.f15.ntmps [(1, pB f 0), (23, .bool ar)] a) ?_ ?_))))
 ·have hm := ak
  refine GR (MW 1 (wV (SL k c.Routes j) v (eL false 1 0 (B.blk 0 rfl)) (MW 1 (wV (SL h c.Cpus i) v (eL false 1 3 (B.blk 0 rfl)) (MW 1 (GD hm fun aw am hm => WD (c_i_areRoutes v c.Routes k j (P.mem0 B) (c.Cpus.length : Int) am) B fun l z => wR 2 [(1, pB f 0), (12, .bool (!aw))] l ?_))))))
  rcases gx_bif hm with ⟨H, hm⟩ | ⟨H, hm⟩
  ·refine wK 12 true H (MW 11 (WN ?_))
   obtain rfl := HS hm
   exact NM fun a ha => ⟨z.pk [0], ha.s⟩
  refine wK 12 false H (MW 1 (wV (SL t c.Enabled o) l (eL false 1 1 (z.blk 0 rfl)) (wR 4 [(1, pB f 0), (18, .bool ((c.Enabled.length : Int) != 8))] l ?_)))
  rcases gx_bif hm with ⟨I, hm⟩ | ⟨I, hm⟩
  ·refine wK 18 true I (MW 5 (WN ?_))
   obtain rfl := HS hm
   exact NM fun a ha => ⟨z.pk [0], ha.s⟩
  refine wK 18 false I (MW 1 (wV (SL u c.Raised q) l (eL false 1 2 (z.blk 0 rfl)) (MW 3 (WN ?_))))
  obtain rfl := HS hm
  exact NM fun a ha => ⟨z.pk [0], ha.s⟩
 intro a4 E ⟨G, ae⟩
 refine N_use ae ?_
 have hm := ai
 refine TN (GT hm (fun J hm => ?_) fun J hm => ?_)
 ·refine QA (MW 1 (ND ?_))
  obtain rfl := HS hm
  exact RA [.bool false] (⟨rfl, G.pk []⟩)
 refine KB (MW 1 (wV (SL h c.Cpus i) E (eL false 1 3 (G.blk 0 rfl)) (MW 2 (NO (GD hm fun av ap Q => G_meet (fun a w' => ∃ (U : Unit), av = .inl U ∧ Mem [] w w' [] ∧ Sat Tryz.f15.ntmps [] a) ?_ ?_)))))
 ·refine GB (G_while (σ := Int) (ρ := (Unit) ⊕ (Bool)) (fun g a w' => Mem [] w w' [(BK f 32 [SL k c.Routes j, SL t c.Enabled o, SL u c.Raised q, SL h c.Cpus i])] ∧ Sat Tryz.f15.ntmps [(1, pB f 0), (25, SL h c.Cpus i), (26, iv (c.Cpus.length : Int)), (27, iv g)] a) ap (fun a ha => ⟨G.pk [0], ha.s⟩) ?_)
  clear hm
  intro g ba hm R a5 F ⟨C, af⟩
  refine G_use af (QA (MW 1 (NE (GT hm (fun K hm => ?_) fun K hm => ?_))))
  ·refine KD (MW 1 (GD hm fun d aq hm => ?_))
   obtain ⟨bb, T, S, y⟩ := id ad
   obtain ⟨b, n⟩ := gxIdx_fst T aq
   refine wV (elemP h (g.toNat * 4)) F (eI (S.mem0 C) (len_fst T) n) (wV (.agg #[iv d.Mask, SL ((b 0).1) d.Stack ((b 0).2), SL ((b 1).1) d.Queue.Slots ((b 1).2), SL ((b 2).1) d.Queue.Waiting ((b 2).2)]) F (eE true 4 0 (g.toNat * 4) (S.mem0 C) n) (wN (CE 87 [iv 0, SN, SN, SN]) C fun D az aa => wR 1 [(1, pB f 0), (3, iv g), (4, pB D 0), (25, SL h c.Cpus i), (26, iv (c.Cpus.length : Int)), (27, iv g), (31, .agg #[iv d.Mask, SL ((b 0).1) d.Stack ((b 0).2), SL ((b 1).1) d.Queue.Slots ((b 1).2), SL ((b 2).1) d.Queue.Waiting ((b 2).2)])] az (wS true 4 0 (.agg #[iv d.Mask, SL ((b 0).1) d.Stack ((b 0).2), SL ((b 1).1) d.Queue.Slots ((b 1).2), SL ((b 2).1) d.Queue.Waiting ((b 2).2)]) 1 [iv d.Mask, SL ((b 0).1) d.Stack ((b 0).2), SL ((b 1).1) d.Queue.Slots ((b 1).2), SL ((b 2).1) d.Queue.Waiting ((b 2).2)] aa rfl fun V A => NE (GD hm fun au al aj => G_meet (fun a w' => Mem [] w w' [(BK f 32 [SL k c.Routes j, SL t c.Enabled o, SL u c.Raised q, SL h c.Cpus i])] ∧ Sat Tryz.f15.ntmps [(1, pB f 0), (25, SL h c.Cpus i), (26, iv (c.Cpus.length : Int)), (27, iv g), (42, .bool au)] a) ?_ ?_))))
   ·have hm := al
    refine GR (wV (.agg #[iv d.Mask, SL ((b 0).1) d.Stack ((b 0).2), SL ((b 1).1) d.Queue.Slots ((b 1).2), SL ((b 2).1) d.Queue.Waiting ((b 2).2)]) V (eL true 4 0 (A.blk 1 rfl)) (GD hm fun ax an hm => WD (c_i_IsInterface V d ((b 0).1) ((b 0).2) ((y.mem0 A).a_ n 0) ((b 1).1) ((b 1).2) ((y.mem0 A).a_ n 1) ((b 2).1) ((b 2).2) ((y.mem0 A).a_ n 2) an) A fun x m => wR 2 [(1, pB f 0), (3, iv g), (4, pB D 0), (25, SL h c.Cpus i), (26, iv (c.Cpus.length : Int)), (27, iv g), (35, .bool (!ax))] x ?_))
    rcases gx_bif hm with ⟨L, hm⟩ | ⟨L, hm⟩
    ·refine wK 35 true L (MW 7 (WN ?_))
     obtain rfl := HS hm
     exact NM fun a ha => ⟨m.pk [0], ha.s⟩
    refine wK 35 false L (MW 1 (wV (SL k c.Routes j) x (eL false 1 0 (m.blk 0 rfl)) (MW 1 (wV (.agg #[iv d.Mask, SL ((b 0).1) d.Stack ((b 0).2), SL ((b 1).1) d.Queue.Slots ((b 1).2), SL ((b 2).1) d.Queue.Waiting ((b 2).2)]) x (eL true 4 0 (m.blk 1 rfl)) (GD hm fun ay ao hm => WD (c_i_fitsRoutes x c.Routes k j (P.mem0 m) g d ((b 0).1) ((b 0).2) ((y.mem0 m).a_ n 0) ((b 1).1) ((b 1).2) ((y.mem0 m).a_ n 1) ((b 2).1) ((b 2).2) ((y.mem0 m).a_ n 2) ao) m fun a0 ab => MW 2 (WN ?_))))))
    obtain rfl := HS hm
    exact NM fun a ha => ⟨ab.pk [0], ha.s⟩
   intro a6 W ⟨O, ag⟩
   refine N_use ag ?_
   have hm := aj
   refine TN (GT hm (fun N hm => ?_) fun N hm => ?_)
   ·refine QA (MW 1 (NX ?_))
    obtain rfl := HS hm
    obtain rfl := R _ rfl
    have hm := Q; simp only [Sum.elim_inr] at hm
    refine BR (N_meet_ret (TR ?_))
    obtain rfl := HS hm
    exact RA [.bool false] (⟨rfl, O.pk []⟩)
   refine KC (MW 2 (WN ?_))
   cases hm
   exact N_loop fun a ha => ⟨_, rfl, O.pk [0], ha.s⟩
  refine XA ?_
  obtain rfl := HS hm
  obtain rfl := R _ rfl
  exact NM fun a ha => ⟨_, rfl, C.pk [], ha.s⟩
 intro a7 a3 ⟨U, hout_, ac, ah⟩
 refine N_use ah ?_
 subst hout_
 have hm := Q; simp only [Sum.elim_inl] at hm
 refine NF (MW 1 (NC ?_))
 obtain rfl := HS hm
 exact RA [.bool true] (⟨rfl, ac.pk []⟩)
end Go.Proofs.YtllhajkgkghhdaaGreat
set_option linter.unusedVariables false
set_option linter.unusedSimpArgs false
set_option maxRecDepth 100000
set_option maxHeartbeats 4000000
namespace Go.Proofs.YtllhajkgkghhdaaGreat
open Go.Gx
theorem c_s_l21Cpu (w : World) (b : Machine) (k h) (B : rdS encRoute w b.Routes k h) (l i) (C : rdS Gx.encB w b.Enabled l i) (m j) (D : rdS Gx.encB w b.Raised m j) (f d) (E : rdD deepInterface w b.Cpus f d) (c : Int) {r : Bool} (hm : M.s_l21Cpu b c = some r) :
  Calls Tryz.prog 64 #[.agg #[SL k b.Routes h, SL l b.Enabled i, SL m b.Raised j, SL f b.Cpus d], iv c] w fun e w' => e = .returned (.bool r) ∧ Mem [] w w' [] := by
 unfold M.s_l21Cpu at hm
 refine cE Tryz.func64 ?_
 have M0 := Mem.refl [] w
 refine QA (wN (CE 32 [SL k b.Routes h, SL l b.Enabled i, SL m b.Raised j, SL f b.Cpus d]) M0 fun q u g => MW 1 (NE (GD hm fun v H G => G_meet (fun a w' => Mem [] w w' [] ∧ Sat Tryz.f64.ntmps [(4, .bool v)] a) ?_ ?_)))
 ·have hm := H
  refine GR (wV (.agg #[SL k b.Routes h, SL l b.Enabled i, SL m b.Raised j, SL f b.Cpus d]) u (eL true 4 0 (g.blk 0 rfl)) (GD hm fun K I hm => WD (c_s_l21Good u b k h (B.mem0 g) l i (C.mem0 g) m j (D.mem0 g) f d (E.mem0 g) I) g fun n o => wR 1 [(1, iv c), (2, pB q 0), (7, .bool K)] n ?_))
  rcases gx_bif hm with ⟨t, hm⟩ | ⟨t, hm⟩
  ·refine wK 7 true t (MW 2 (wV (SL f b.Cpus d) n (eL false 1 3 (o.blk 0 rfl)) (MW 2 (GD hm fun L J hm => WD (c_s_l1In n c 0 (w64 ((b.Cpus.length : Int) - 1)) J) o fun N z => MW 2 (WN ?_)))))
   obtain rfl := HS hm
   exact NM fun a ha => ⟨z.pk [], ha.s⟩
  refine wK 7 false t (MW 8 (WN ?_))
  obtain rfl := HS hm
  exact NM fun a ha => ⟨o.pk [], ha.s⟩
 intro O P ⟨A, F⟩
 refine N_use F ?_
 have hm := G
 refine TN (G_ret ?_)
 obtain rfl := HS hm
 exact RA [.bool v] (⟨rfl, A.pk []⟩)
theorem c_s_l1Own (w : World) (a : List Int) (c b) (n : rdS Gx.encI w a c b) {r : (List Int)} (hm : M.s_l1Own a = some r) :
  Calls Tryz.prog 65 #[SL c a b] w fun e w' => ∃ j i k, e = .returned (SL j r i) ∧ ownS Gx.encI r j i k ∧ Mem [] w w' [k] := by
 unfold M.s_l1Own at hm
 refine cE Tryz.func65 ?_
 have M0 := Mem.refl [] w
 refine QA (MW 1 (NA (wL (E := Gx.encI) ([] : List Int) 0 [] 3 M0 fun u m z x q g => MW 1 (GD hm fun h o hm => wA 8 [iv 0] 0 g q (n.mem0 g) o fun f d v y t l => MW 1 (NC ?_)))))
 obtain rfl := HS hm
 exact RA [SL f h d] (⟨f, d, v, rfl, t, l.pk [0]⟩)
theorem c_i_Machine_hasCpu (w : World) (a : Machine) (j g) (x : rdS encRoute w a.Routes j g) (k h) (y : rdS Gx.encB w a.Enabled k h) (l i) (z : rdS Gx.encB w a.Raised l i) (f d) (A : rdD deepInterface w a.Cpus f d) (b : Int) {r : Bool} (hm : M.i_Machine_hasCpu a b = some r) :
  Calls Tryz.prog 66 #[.agg #[SL j a.Routes g, SL k a.Enabled h, SL l a.Raised i, SL f a.Cpus d], iv b] w fun e w' => e = .returned (.bool r) ∧ Mem [] w w' [] := by
 unfold M.i_Machine_hasCpu at hm
 refine cE Tryz.func66 ?_
 have M0 := Mem.refl [] w
 refine QA (wN (CE 32 [SL j a.Routes g, SL k a.Enabled h, SL l a.Raised i, SL f a.Cpus d]) M0 fun n c m => MW 1 (NA (MW 2 (wV (SL f a.Cpus d) c (eL false 1 3 (m.blk 0 rfl)) (MW 2 (GD hm fun o u hm => WD (c_i_inside c b 0 (w64 ((a.Cpus.length : Int) - 1)) u) m fun v t => MW 1 (NC ?_)))))))
 obtain rfl := HS hm
 exact RA [.bool o] (⟨rfl, t.pk []⟩)
theorem c_i_RunningOn (w : World) (b : Machine) (j g) (H : rdS encRoute w b.Routes j g) (k h) (I : rdS Gx.encB w b.Enabled k h) (l i) (J : rdS Gx.encB w b.Raised l i) (d f) (A : rdD deepInterface w b.Cpus d f) (c : Int) {r : (List Int) × Bool} (hm : M.i_RunningOn b c = some r) :
  Calls Tryz.prog 18 #[.agg #[SL j b.Routes g, SL k b.Enabled h, SL l b.Raised i, SL d b.Cpus f], iv c] w fun e w' => ∃ L G O, e = .returned (.tuple #[SL L r.1 G, .bool r.2]) ∧ ownS Gx.encI r.1 L G O ∧ Mem [] w w' [O] := by
 unfold M.i_RunningOn at hm
 refine cE Tryz.func18 ?_
 have M0 := Mem.refl [] w
 refine QA (wN (CE 32 [SL j b.Routes g, SL k b.Enabled h, SL l b.Raised i, SL d b.Cpus f]) M0 fun m F u => MW 2 (NE (GS (GD hm fun ad X W => G_meet (fun a w' => Mem [] w w' [(BK m 32 [SL j b.Routes g, SL k b.Enabled h, SL l b.Raised i, SL d b.Cpus f])] ∧ Sat Tryz.f18.ntmps [(1, iv c), (2, pB m 0), (14, .bool ad)] a) ?_ ?_))))
 ·have hm := X
  refine GR (wV (.agg #[SL j b.Routes g, SL k b.Enabled h, SL l b.Raised i, SL d b.Cpus f]) F (eL true 4 0 (u.blk 0 rfl)) (GD hm fun ae Z hm => WD (c_i_IsMachine F b j g (H.mem0 u) k h (I.mem0 u) l i (J.mem0 u) d f (A.mem0 u) Z) u fun v q => wR 2 [(1, iv c), (2, pB m 0), (9, .bool (!ae))] v ?_))
  rcases gx_bif hm with ⟨B, hm⟩ | ⟨B, hm⟩
  ·refine wK 9 true B (MW 5 (WN ?_))
   obtain rfl := HS hm
   exact NM fun a ha => ⟨q.pk [0], ha.s⟩
  refine wK 9 false B (wV (.agg #[SL j b.Routes g, SL k b.Enabled h, SL l b.Raised i, SL d b.Cpus f]) v (eL true 4 0 (q.blk 0 rfl)) (MW 1 (GD hm fun af aa hm => WD (c_i_Machine_hasCpu v b j g (H.mem0 q) k h (I.mem0 q) l i (J.mem0 q) d f (A.mem0 q) c aa) q fun ah S => MW 2 (WN ?_))))
  obtain rfl := HS hm
  exact NM fun a ha => ⟨S.pk [0], ha.s⟩
 intro aj o ⟨t, U⟩
 refine N_use U ?_
 have hm := W
 refine TN (GT hm (fun C hm => ?_) fun C hm => ?_)
 ·refine QA (MW 2 (ND ?_))
  cases hm
  exact RA [SN, .bool false] (⟨none, 0, [], rfl, ownS_nil, t.pk [100000]⟩)
 refine KA (MW 1 (wV (SL d b.Cpus f) o (eL false 1 3 (t.blk 0 rfl)) (MW 1 (GD hm fun y ac hm => ?_))))
 obtain ⟨ak, K, D, V⟩ := id A
 obtain ⟨n, x⟩ := gxIdx_fst K ac
 refine wV (elemP d (c.toNat * 4)) o (eI (D.mem0 t) (len_fst K) x) (wV (elemP d (c.toNat * 4 + 1)) o (eF 1 (c.toNat * 4) 1 (D.mem0 t) x) (wV (SL ((n 0).1) y.Stack ((n 0).2)) o (eE false 1 1 (c.toNat * 4 + 1) (D.mem0 t) x) (GD hm fun N ab hm => WC ((c_i_copyInts o y.Stack ((n 0).1) ((n 0).2) ((V.mem0 t).a_ x 0) ab).mono ?_))))
 rintro e_ ai ⟨E, z, ag, rfl, Y, R⟩
 have T := t.call R
 refine ⟨_, rfl, ?_⟩
 refine MW 2 (NC ?_)
 cases hm
 exact RA [SL E N z, .bool true] (⟨E, z, ag, rfl, Y, T.pk [1]⟩)
end Go.Proofs.YtllhajkgkghhdaaGreat
set_option linter.unusedVariables false
set_option linter.unusedSimpArgs false
set_option maxRecDepth 100000
set_option maxHeartbeats 4000000
namespace Go.Proofs.YtllhajkgkghhdaaGreat
open Go.Gx
theorem c_s_l9Wait (w : World) (d : List Waiter) (c b) (t : rdS encWaiter w d c b) (g : Waiter) {r : (List Waiter)} (hm : M.s_l9Wait d g = some r) :
  Calls Tryz.prog 130 #[SL c d b, .agg #[iv g.Irq, iv g.Priority]] w fun e w' => ∃ ai af aj, e = .returned (SL ai r af) ∧ ownS encWaiter r ai af aj ∧ Mem [] w w' [aj] := by
 unfold M.s_l9Wait at hm
 refine cE Tryz.func130 ?_
 have M0 := Mem.refl [] w
 refine QA (wN (CE 142 [iv g.Irq, iv g.Priority]) M0 fun l ak al => MW 1 (NA (MW 1 (NE (GD hm fun m bi bd => G_meet (fun a w' => Mem [] w w' [(BK l 142 [iv g.Irq, iv g.Priority])] ∧ Sat Tryz.f130.ntmps [(0, SL c d b), (3, pB l 0), (5, iv m)] a) ?_ ?_)))))
 ·refine GB (G_while (σ := Int) (ρ := Int) (fun k a w' => Mem [] w w' [(BK l 142 [iv g.Irq, iv g.Priority])] ∧ Sat Tryz.f130.ntmps [(0, SL c d b), (3, pB l 0), (5, iv k)] a) bi (fun a ha => ⟨al.pk [0], ha.s⟩) ?_)
  clear hm
  intro k cf hm bg b0 b3 ⟨am, a6⟩
  refine G_use a6 (GS (GS (GD hm fun bj be bc => G_meet (fun a w' => Mem [] w w' [(BK l 142 [iv g.Irq, iv g.Priority])] ∧ Sat Tryz.f130.ntmps [(0, SL c d b), (3, pB l 0), (5, iv k), (26, .bool bj)] a) ?_ ?_)))
  ·have hm := be
   refine G_quiet (by kernel_rfl) (by kernel_rfl) am (MS 5 [(0, SL c d b), (3, pB l 0), (5, iv k), (10, .bool (decide (k < (d.length : Int))))] ?_)
   rcases gx_bif hm with ⟨N, hm⟩ | ⟨N, hm⟩
   ·refine zK 10 true N (MZ 2 (GD hm fun D T hm => zV (elemP c (k.toNat * 2)) (fun w_ M_ => (eI (t.mem0 M_) rfl T)) (zV (elemP c (k.toNat * 2 + 1)) (fun w_ M_ => (eF 1 (k.toNat * 2) 1 (t.mem0 M_) T)) (zV (iv D.Priority) (fun w_ M_ => (eE false 1 1 (k.toNat * 2 + 1) (t.mem0 M_) T)) (MZ 2 (GD hm fun H U hm => zV (elemP c (k.toNat * 2)) (fun w_ M_ => (eI (t.mem0 M_) rfl U)) (zV (elemP c (k.toNat * 2 + 0)) (fun w_ M_ => (eF 0 (k.toNat * 2) 0 (t.mem0 M_) U)) (zV (iv H.Irq) (fun w_ M_ => (eE false 1 0 (k.toNat * 2 + 0) (t.mem0 M_) U)) (MZ 1 (zV (iv g.Priority) (fun w_ M_ => (eL false 1 1 (M_.blk 0 rfl))) (MZ 1 (zV (iv g.Irq) (fun w_ M_ => (eL false 1 0 (M_.blk 0 rfl))) (GD hm fun W bh hm => ZC (.bool W) (fun w_ M_ => c_s_l8Less w_ D.Priority H.Irq g.Priority g.Irq bh) (MZ 1 (Z_end fun b4 an => ?_)))))))))))))))
    obtain rfl := HS hm
    exact NM fun a ha => ⟨an.pk [0], ha.s⟩
   refine zK 10 false N (MS 16 [(0, SL c d b), (3, pB l 0), (5, iv k), (26, .bool false)] (Z_end fun b5 ao => ?_))
   obtain rfl := HS hm
   exact NM fun a ha => ⟨ao.pk [0], ha.s⟩
  intro b1 bp ⟨X, a7⟩
  refine N_use a7 ?_
  have hm := bc
  refine TN (GT hm (fun O hm => ?_) fun O hm => ?_)
  ·refine GK (TN (GB (GR (MW 3 (WN (BN ?_))))))
   cases hm
   exact N_loop fun a ha => ⟨_, rfl, X.pk [0], ha.s⟩
  refine XA ?_
  obtain rfl := HS hm
  obtain rfl := bg _ rfl
  exact NM fun a ha => ⟨X.pk [0], ha.s⟩
 intro b2 b6 ⟨ap, a8⟩
 refine N_use a8 ?_
 have hm := bd
 refine TN (GS (GD hm fun J ag hm => GD hm fun F a9 hm => GD hm fun G ba hm => GD hm fun K ah hm => GU [(0, SL c d b), (3, pB l 0), (5, iv m)] (DL 11 [[],[],[],[1,2],[0,3],[],[5],[4,6],[],[],[8,9]] [[],[],[],[],[0],[],[],[4],[],[],[]] [[],[],[],[],[],[],[],[6],[],[],[]] (EM 11) (EM 11) (EM 11) (fun _ => []) [fun f v s => ∃ A x, v = (.slice A ([] : List Waiter).length x : Value) ∧ ownS encWaiter ([] : List Waiter) A x s, QV (.slice c d.length b), QV (iv m), QV (.slice (subP c (0 : Int).toNat b 2) J.length (b - (0 : Int).toNat)), fun f v s => ∃ B y, v = (.slice B F.length y : Value) ∧ ownS encWaiter F B y s, QV (.agg #[iv g.Irq, iv g.Priority]), fun f v s => ∃ u q, v = (.slice u [g].length q : Value) ∧ ownS encWaiter [g] u q s, fun f v s => ∃ C z, v = (.slice C G.length z : Value) ∧ ownS encWaiter G C z s, QV (.slice c d.length b), QV (iv m), QV (.slice (subP c m.toNat b 2) K.length (b - m.toNat))] [] [6, 7, 10] [6, 7] (ap.preNil 11) (AC ?_ (AC ?_ (AC ?_ (AC ?_ (AC ?_ (AC ?_ (AC ?_ (AC ?_ (AC ?_ (AC ?_ (AC ?_ AN))))))))))) ?_)))
 ·intro n o R b7 aq
  exact wL (E := encWaiter) ([] : List Waiter) 0 [] 142 aq fun A x bk b8 P ar => WN (oE (SL A ([] : List Waiter) x) bk ⟨A, x, rfl, P⟩ (Mem.mid ar))
 ·intro n o R bq au
  exact OM ⟨rfl, rfl⟩ au
 ·intro n o R br av
  exact OM ⟨rfl, rfl⟩ av
 ·rintro n o v1_ ⟨rfl, _⟩
  rintro v2_ ⟨rfl, _⟩ R bs Y
  exact OV ⟨rfl, rfl⟩ (E_slice (E := encWaiter) _ _ _ _ d.length 0 m rfl (by kernel_rfl) (Or.inl ⟨rfl, rfl⟩) (Or.inr ⟨_, rfl, by kernel_rfl⟩) (by kernel_rfl) (t.mem0 Y) rfl ag) Y
 ·intro n o v0_ hb0_
  obtain ⟨A, x, rfl, P⟩ := hb0_
  rintro v3_ ⟨rfl, _⟩ R b9 Z
  exact wA 16 [iv 0, iv 0] 2 Z P ((t.mem0 Z).sliceM ag) a9 fun B y bl ca Q aw => WN (oE (SL B F y) bl ⟨B, y, rfl, Q⟩ (Mem.takeOver aw))
 ·intro n o R bt aa
  exact OV ⟨rfl, rfl⟩ (eL true 2 0 (aa.blk 0 rfl)) aa
 ·rintro n o v5_ ⟨rfl, _⟩ R cb ax
  exact wL (E := encWaiter) [g] 1 [iv g.Irq, iv g.Priority] 142 ax fun u q bm cc I ay => WN (oE (SL u [g] q) bm ⟨u, q, rfl, I⟩ (Mem.mid ay))
 ·intro n o v4_ hb4_
  obtain ⟨B, y, rfl, Q⟩ := hb4_
  intro v6_ hb6_
  obtain ⟨u, q, rfl, I⟩ := hb6_
  intro R cd ab
  exact wA 16 [iv 0, iv 0] 2 ab Q (I.r ab 3) ba fun C z bn ce S az => WN (oE (SL C G z) bn ⟨C, z, rfl, S⟩ (Mem.takeOver az))
 ·intro n o R bu a0
  exact OM ⟨rfl, rfl⟩ a0
 ·intro n o R bv a3
  exact OM ⟨rfl, rfl⟩ a3
 ·rintro n o v8_ ⟨rfl, _⟩
  rintro v9_ ⟨rfl, _⟩ R bw ac
  exact OV ⟨rfl, rfl⟩ (E_slice (E := encWaiter) _ _ _ _ d.length m (d.length : Int) rfl (by kernel_rfl) (Or.inr ⟨_, rfl, by kernel_rfl⟩) (Or.inl ⟨rfl, rfl⟩) (by kernel_rfl) (t.mem0 ac) rfl ah) ac
 intro n o v6_ hb6_
 obtain ⟨u, q, rfl, I⟩ := hb6_
 intro v7_ hb7_
 obtain ⟨C, z, rfl, S⟩ := hb7_
 rintro v10_ ⟨rfl, _⟩ bx a4
 have ad : Mem [] w bx [(BK l 142 [iv g.Irq, iv g.Priority]), (n 6), (n 7)] := a4
 refine GD hm fun ae bb hm => wA 16 [iv 0, iv 0] 2 ad S ((t.mem0 ad).sliceM ah) bb fun V L bo bz bf a5 => MW 1 (NC ?_)
 obtain rfl := HS hm
 exact RA [SL V ae L] (⟨V, L, bo, rfl, bf, a5.pk [2]⟩)
theorem c_math_bits_Len (w : World) (a : Int) {r : Int} (hm : M.math_bits_Len a = some r) :
  Calls Tryz.prog 163 #[.int .u64 a] w fun e w' => e = .returned (iv r) ∧ Mem [] w w' [] := by
 unfold M.math_bits_Len at hm
 rcases gx_bif hm with ⟨h, hm⟩ | ⟨h, hm⟩
 ·obtain rfl := HS hm
  rw [Bool.and_eq_true, decide_eq_true_eq, decide_eq_true_eq] at h
  refine (Tryz.bits_Len a w h.1 h.2).mono ?_
  rintro e w' ⟨rfl, rfl⟩
  exact ⟨rfl, Mem.refl [] _⟩
 cases hm
theorem c_slices_insertionSortCmpFunc_214__i_compareUrgency (w : World) (y : List Waiter) (c d u) (bm : ownS encWaiter y c d u) (l : Int) (m : Int) (hA : ∀ q ∈ List.flatten [u], w.heap[q.1]? = some q.2) (hN : (idsOf [u]).Nodup) {r : (List Waiter)} (hm : M.slices_insertionSortCmpFunc_214__i_compareUrgency y l m = some r) :
  Calls Tryz.prog 214 #[SL c y d, iv l, iv m, .func (.func 129) #[] #[]] w fun e w' => ∃ ag, e = .returned (.tuple #[]) ∧ ownS encWaiter r c d ag ∧ r.length = y.length ∧ Mem (idsOf [u]) w w' [ag] := by
 unfold M.slices_insertionSortCmpFunc_214__i_compareUrgency at hm
 refine cE Tryz.func214 ?_
 have M0 := Mem.start' w [u] hA hN
 refine QA (MW 3 (NO (GD hm fun af bq bf => G_meet (fun a w' => ∃ F, ownS encWaiter af c d F ∧ af.length = y.length ∧ Mem (idsOf [u]) w w' [F] ∧ Sat Tryz.f214.ntmps [] a) ?_ ?_)))
 ·refine GB (G_while (σ := Int × List Waiter) (ρ := List Waiter) (fun k a w' => ∃ B, ownS encWaiter k.2 c d B ∧ k.2.length = y.length ∧ Mem (idsOf [u]) w w' [B] ∧ Sat Tryz.f214.ntmps [(0, SL c k.2 d), (1, iv l), (2, iv m), (3, .func (.func 129) #[] #[]), (8, iv k.1)] a) bq (fun a ha => ⟨u, bm, rfl, M0.pk [0], ha.s⟩) ?_)
  clear hm
  intro k cq hm bn cf ah ⟨B, W, U, K, a7⟩
  refine G_use a7 (QB (MW 3 (NO (GT hm (fun H hm => ?_) fun H hm => ?_))))
  ·refine KD (MW 2 (NO (GD hm fun D br bg => G_meet (fun a w' => ∃ G, ownS encWaiter D c d G ∧ D.length = y.length ∧ Mem (idsOf [u]) w w' [G] ∧ Sat Tryz.f214.ntmps [(0, SL c D d), (1, iv l), (2, iv m), (3, .func (.func 129) #[] #[]), (8, iv k.1)] a) ?_ ?_)))
   ·refine GB (G_while (σ := Int × List Waiter) (ρ := List Waiter) (fun b a w' => ∃ z, ownS encWaiter b.2 c d z ∧ b.2.length = y.length ∧ Mem (idsOf [u]) w w' [z] ∧ Sat Tryz.f214.ntmps [(0, SL c b.2 d), (1, iv l), (2, iv m), (3, .func (.func 129) #[] #[]), (8, iv k.1), (9, iv b.1)] a) br (fun a ha => ⟨B, W, U, K.pk [0], ha.s⟩) ?_)
    clear hm
    intro b cr hm bo cg ck ⟨z, x, V, aj, a8⟩
    refine G_use a8 (GS (GS (GD hm fun ae bj be => G_meet (fun a w' => Mem (idsOf [u]) w w' [z] ∧ Sat Tryz.f214.ntmps [(0, SL c b.2 d), (1, iv l), (2, iv m), (3, .func (.func 129) #[] #[]), (8, iv k.1), (9, iv b.1), (34, .bool ae)] a) ?_ ?_)))
    ·have hm := bj
     refine G_quiet (by kernel_rfl) (by kernel_rfl) aj (MS 4 [(0, SL c b.2 d), (1, iv l), (2, iv m), (3, .func (.func 129) #[] #[]), (8, iv k.1), (9, iv b.1), (21, .bool (decide (b.1 > l)))] ?_)
     rcases gx_bif hm with ⟨I, hm⟩ | ⟨I, hm⟩
     ·refine zK 21 true I (MZ 3 (GD hm fun A Y hm => zV (elemP c (b.1.toNat * 2)) (fun w_ M_ => (eI (x.r M_ 0) rfl Y)) (zV (.agg #[iv A.Irq, iv A.Priority]) (fun w_ M_ => (eE true 2 0 (b.1.toNat * 2) (x.r M_ 0) Y)) (MZ 3 (GD hm fun C Z hm => zV (elemP c ((w64 (b.1 - 1)).toNat * 2)) (fun w_ M_ => (eI (x.r M_ 0) rfl Z)) (zV (.agg #[iv C.Irq, iv C.Priority]) (fun w_ M_ => (eE true 2 0 ((w64 (b.1 - 1)).toNat * 2) (x.r M_ 0) Z)) (GD hm fun E bp hm => ZC (iv E) (fun w_ M_ => c_i_compareUrgency w_ A C bp) (MZ 2 (Z_end fun cl ak => ?_)))))))))
      obtain rfl := HS hm
      exact NM fun a ha => ⟨ak.pk [0], ha.s⟩
     refine zK 21 false I (MS 13 [(0, SL c b.2 d), (1, iv l), (2, iv m), (3, .func (.func 129) #[] #[]), (8, iv k.1), (9, iv b.1), (34, .bool false)] (Z_end fun cm al => ?_))
     obtain rfl := HS hm
     exact NM fun a ha => ⟨al.pk [0], ha.s⟩
    intro ch bu ⟨L, a9⟩
    refine N_use a9 ?_
    have hm := be
    refine TN (GT hm (fun J hm => ?_) fun J hm => ?_)
    ·refine GK (TN (GS (GB (GD hm fun g aa hm => GD hm fun t ab hm => GD hm fun cd ac hm => ?_))))
     have am : Mem (idsOf [u]) w bu ([] ++ (List.range 16).map (fun i => ([[], [], [], [], [], [], [], [], [], [], [], [], [], [], [], z] : List Seg).getD i [])) := L.pk [300000, 300001, 300002, 300003, 300004, 300005, 300006, 300007, 300008, 300009, 300010, 300011, 300012, 300013, 300014, 0]
     refine GU [(0, SL c b.2 d), (1, iv l), (2, iv m), (3, .func (.func 129) #[] #[]), (8, iv k.1), (9, iv b.1), (34, .bool ae)] (DL 16 [[],[],[],[],[3],[],[],[6],[5,7],[8],[],[],[10,11],[12],[0,1],[9,14]] (EM 16) (EM 16) (EM 16) (EM 16) [[],[],[],[],[],[],[],[],[15],[15],[],[],[15],[15],[15],[]] (fun i => ([[], [], [], [], [], [], [], [], [], [], [], [], [], [], [], z] : List Seg).getD i []) [QV (.slice c b.2.length d), QV (iv b.1), QV (.slice c b.2.length d), QV (iv b.1), QV (iv (w64 (b.1 - 1))), QV (.slice c b.2.length d), QV (iv b.1), QV (iv (w64 (b.1 - 1))), QV (elemP c ((w64 (b.1 - 1)).toNat * 2)), QV (.agg #[iv g.Irq, iv g.Priority]), QV (.slice c b.2.length d), QV (iv b.1), QV (elemP c (b.1.toNat * 2)), QV (.agg #[iv t.Irq, iv t.Priority]), QV (elemP c (b.1.toNat * 2)), fun f v s => v = undef ∧ ownS encWaiter (b.2.set b.1.toNat g) c d s] [] [2, 4, 13, 15] [15] am (AC ?_ (AC ?_ (AC ?_ (AC ?_ (AC ?_ (AC ?_ (AC ?_ (AC ?_ (AC ?_ (AC ?_ (AC ?_ (AC ?_ (AC ?_ (AC ?_ (AC ?_ (AC ?_ AN)))))))))))))))) ?_)
     ·intro n o R bv an
      exact OM ⟨rfl, rfl⟩ an
     ·intro n o R bw ao
      exact OM ⟨rfl, rfl⟩ ao
     ·intro n o R bx ap
      exact OM ⟨rfl, rfl⟩ ap
     ·intro n o R bz aq
      exact OM ⟨rfl, rfl⟩ aq
     ·rintro n o v3_ ⟨rfl, _⟩ R b0 ar
      exact OM ⟨rfl, rfl⟩ ar
     ·intro n o R b1 au
      exact OM ⟨rfl, rfl⟩ au
     ·intro n o R b2 av
      exact OM ⟨rfl, rfl⟩ av
     ·rintro n o v6_ ⟨rfl, _⟩ R b3 aw
      exact OM ⟨rfl, rfl⟩ aw
     ·rintro n o v5_ ⟨rfl, _⟩
      rintro v7_ ⟨rfl, _⟩ R b4 N
      exact OV ⟨rfl, rfl⟩ (eI (x.r N 1) rfl aa) N
     ·rintro n o v8_ ⟨rfl, _⟩ R b5 O
      exact OV ⟨rfl, rfl⟩ (eE true 2 0 ((w64 (b.1 - 1)).toNat * 2) (x.r O 1) aa) O
     ·intro n o R b6 ax
      exact OM ⟨rfl, rfl⟩ ax
     ·intro n o R b7 ay
      exact OM ⟨rfl, rfl⟩ ay
     ·rintro n o v10_ ⟨rfl, _⟩
      rintro v11_ ⟨rfl, _⟩ R b8 P
      exact OV ⟨rfl, rfl⟩ (eI (x.r P 1) rfl ab) P
     ·rintro n o v12_ ⟨rfl, _⟩ R b9 Q
      exact OV ⟨rfl, rfl⟩ (eE true 2 0 (b.1.toNat * 2) (x.r Q 1) ab) Q
     ·rintro n o v0_ ⟨rfl, _⟩
      rintro v1_ ⟨rfl, _⟩ R ca S
      exact OV ⟨rfl, rfl⟩ (eI (x.r S 1) rfl ac) S
     ·rintro n o v9_ ⟨rfl, _⟩
      rintro v14_ ⟨rfl, _⟩ R cn az
      exact wE true 2 b.1.toNat 0 (b.1.toNat * 2) cd g (.agg #[iv g.Irq, iv g.Priority]) 0 az x (gxIdx_spec ac).2 fun co bs bk a0 => WN (ob_none bs rfl ⟨rfl, bk⟩ a0)
     rintro n o v2_ ⟨rfl, _⟩
     rintro v4_ ⟨rfl, _⟩
     rintro v13_ ⟨rfl, _⟩ v15_ hb15_
     obtain ⟨rfl, X⟩ := hb15_
     intro ai a3
     have T : Mem (idsOf [u]) w ai [(n 15)] := a3
     refine LX 0 c d b.2 b.1.toNat g (LX 39 c d b.2 b.1.toNat g (GD hm fun ce ad hm => wV (elemP c ((w64 (b.1 - 1)).toNat * 2)) ai (eI (X.r T 0) rfl ad) (wE true 2 (w64 (b.1 - 1)).toNat 0 ((w64 (b.1 - 1)).toNat * 2) ce t (.agg #[iv t.Irq, iv t.Priority]) 0 T X (gxIdx_spec ad).2 fun cb bt bl a4 => LX 0 c d (b.2.set b.1.toNat g) ((w64 (b.1 - 1)).toNat) t (LX 39 c d (b.2.set b.1.toNat g) ((w64 (b.1 - 1)).toNat) t (NG (MW 3 (WN ?_)))))))
     cases hm
     exact N_loop fun a ha => ⟨_, rfl, bt, bl, (List.length_set.trans (List.length_set.trans V)), a4.pk [0], ha.s⟩
    refine XA ?_
    obtain rfl := HS hm
    obtain rfl := bo _ rfl
    exact NM fun a ha => ⟨z, x, V, L.pk [0], ha.s⟩
   intro ci cc ⟨G, bi, bd, a5, ba⟩
   refine N_use ba ?_
   have hm := bg
   refine BN (TN (GR (MW 3 (WN ?_))))
   cases hm
   exact N_loop fun a ha => ⟨_, rfl, G, bi, bd, a5.pk [0], ha.s⟩
  refine XA ?_
  obtain rfl := HS hm
  obtain rfl := bn _ rfl
  exact NM fun a ha => ⟨B, W, U, K.pk [0], ha.s⟩
 intro cj cp ⟨F, bh, bc, a6, bb⟩
 refine N_use bb ?_
 have hm := bf
 obtain rfl := HS hm
 exact N_end [] (RVs_nil) (⟨F, rfl, bh, bc, a6.pk [0]⟩)
theorem c_slices_pdqsortCmpFunc_168__i_compareUrgency (w : World) (d : List Waiter) (c b i) (y : ownS encWaiter d c b i) (f : Int) (g : Int) (j : Int) (hA : ∀ q ∈ List.flatten [i], w.heap[q.1]? = some q.2) (hN : (idsOf [i]).Nodup) {r : (List Waiter)} (hm : M.slices_pdqsortCmpFunc_168__i_compareUrgency d f g j = some r) :
  Calls Tryz.prog 168 #[SL c d b, iv f, iv g, iv j, .func (.func 129) #[] #[]] w fun e w' => ∃ o, e = .returned (.tuple #[]) ∧ ownS encWaiter r c b o ∧ r.length = d.length ∧ Mem (idsOf [i]) w w' [o] := by
 unfold M.slices_pdqsortCmpFunc_168__i_compareUrgency at hm
 refine cE Tryz.func168 ?_
 have M0 := Mem.start' w [i] hA hN
 refine QA (MW 1 (NA (MW 1 (NO (GD hm fun H C x => G_meet (fun a w' => False) ?_ ?_)))))
 ·refine GB (G_while (σ := Unit) (ρ := (List Waiter)) (fun E a w' => Mem (idsOf [i]) w w' [i] ∧ Sat Tryz.f168.ntmps [(0, SL c d b), (1, iv f), (2, iv g), (3, iv j), (4, .func (.func 129) #[] #[]), (10, .bool true), (11, .bool true)] a) C (fun a ha => ⟨M0.pk [0], ha.s⟩) ?_)
  clear hm
  intro E J hm A G k ⟨l, v⟩
  refine G_use v (GB (QA (MW 4 (NB (MW 2 (NO ?_))))))
  rcases gx_bif hm with ⟨n, hm⟩ | ⟨n, hm⟩
  ·refine gT n (QA (MW 4 (GD hm fun D B hm => WC ((c_slices_insertionSortCmpFunc_214__i_compareUrgency k d c b i y f g (l.hasPick [0]) (l.nodupPick [0] (by kernel_rfl)) B).mono ?_))))
   rintro e_ I ⟨F, rfl, z, m, t⟩
   have u := l.callF' [0] [] (by kernel_rfl) t
   refine ⟨_, rfl, ?_⟩
   refine LY 26 c b m (ND (BR (TR ?_)))
   obtain rfl := HS hm
   obtain rfl := A _ rfl
   have hm := x
   refine BR (N_meet_ret ?_)
   obtain rfl := HS hm
   exact N_ret [] (RVs_nil) (⟨F, rfl, z, (m.trans rfl), u.pk [0]⟩)
  cases hm
 intro _ _ h
 exact h.elim
theorem c_slices_SortFunc_128__i_compareUrgency (w : World) (a : List Waiter) (c b d) (n : ownS encWaiter a c b d) (hA : ∀ q ∈ List.flatten [d], w.heap[q.1]? = some q.2) (hN : (idsOf [d]).Nodup) {r : (List Waiter)} (hm : M.slices_SortFunc_128__i_compareUrgency a = some r) :
  Calls Tryz.prog 128 #[SL c a b, .func (.func 129) #[] #[]] w fun e w' => ∃ i, e = .returned (.tuple #[]) ∧ ownS encWaiter r c b i ∧ r.length = a.length ∧ Mem (idsOf [d]) w w' [i] := by
 unfold M.slices_SortFunc_128__i_compareUrgency at hm
 refine cE Tryz.func128 ?_
 have M0 := Mem.start' w [d] hA hN
 refine QA (MW 3 (NO (GR (MW 4 (GD hm fun h t hm => WD (c_math_bits_Len w (IntKind.u64.wrap (a.length : Int)) t) M0 fun j f => MW 1 (GD hm fun v u hm => WC ((c_slices_pdqsortCmpFunc_168__i_compareUrgency j a c b d n 0 (a.length : Int) h (f.hasPick [0]) (f.nodupPick [0] (by kernel_rfl)) u).mono ?_)))))))
 rintro e_ y ⟨x, rfl, o, g, l⟩
 have m := f.callF' [0] [] (by kernel_rfl) l
 refine ⟨_, rfl, ?_⟩
 refine LY 7 c b g (WN ?_)
 obtain rfl := HS hm
 exact N_end [] (RVs_nil) (⟨x, rfl, o, (g.trans rfl), m.pk [0]⟩)
theorem c_i_pendingIrqs (w : World) (b : Queue) (h j) (av : rdS encSlot w b.Slots h j) (P K) (bo : rdS encWaiter w b.Waiting P K) {r : (List Int)} (hm : M.i_pendingIrqs b = some r) :
  Calls Tryz.prog 74 #[.agg #[SL h b.Slots j, SL P b.Waiting K]] w fun e w' => ∃ a0 ar a4, e = .returned (SL a0 r ar) ∧ ownS Gx.encI r a0 ar a4 ∧ Mem [] w w' [a4] := by
 unfold M.i_pendingIrqs at hm
 refine cE Tryz.func74 ?_
 have M0 := Mem.refl [] w
 refine QA (wN (CE 85 [SL h b.Slots j, SL P b.Waiting K]) M0 fun C ct bf => MW 1 (NA (wL (E := encWaiter) ([] : List Waiter) 0 [] 142 bf fun cm bn c7 a7 b6 W => MW 1 (wV (SL P b.Waiting K) a7 (eL false 1 1 (W.blk 0 rfl)) (GD hm fun Z bw hm => wA 16 [iv 0, iv 0] 1 W b6 (bo.mem0 W) bw fun Q L cp db b7 bg => wL (E := Gx.encI) ([] : List Int) 0 [] 3 bg fun g f G V b8 ao => MW 2 (NB (MW 1 (wV (SL h b.Slots j) V (eL false 1 0 (ao.blk 0 rfl)) (MW 2 (NO (GD hm fun u ck b2 => G_meet (fun a w' => ∃ i k T, ownS encWaiter u i k T ∧ Mem [] w w' [G, T] ∧ Sat Tryz.f74.ntmps [(3, SL i u k), (4, SL g ([] : List Int) f)] a) ?_ ?_)))))))))))
 ·refine GB (G_while (σ := List Waiter × Int) (ρ := List Waiter) (fun c a w' => ∃ n m B, ownS encWaiter c.1 n m B ∧ Mem [] w w' [G, B] ∧ Sat Tryz.f74.ntmps [(3, SL n c.1 m), (4, SL g ([] : List Int) f), (15, SL h b.Slots j), (16, iv (b.Slots.length : Int)), (17, iv c.2)] a) ck (fun a ha => ⟨Q, L, cp, b7, ao.pk [2, 1], ha.s⟩) ?_)
  clear hm
  intro c dg hm cg cy ak ⟨n, m, B, af, I, br⟩
  refine G_use br (QA (MW 1 (NE (GT hm (fun ac hm => ?_) fun ac hm => ?_))))
  ·refine KD (GD hm fun d az hm => wV (elemP h (c.2.toNat * 3)) ak (eI (av.mem0 I) rfl az) (wV (.agg #[iv d.State, iv d.Irq, iv d.Priority]) ak (eE true 3 0 (c.2.toNat * 3) (av.mem0 I) az) (wN (CE 117 [iv 0, iv 0, iv 0]) I fun q dc bh => wS true 3 0 (.agg #[iv d.State, iv d.Irq, iv d.Priority]) 2 [iv d.State, iv d.Irq, iv d.Priority] bh rfl fun y J => NE (GD hm fun cl ca bz => G_meet (fun a w' => Mem [] w w' [G, B, (BK q 117 [iv d.State, iv d.Irq, iv d.Priority])] ∧ Sat Tryz.f74.ntmps [(3, SL n c.1 m), (4, SL g ([] : List Int) f), (6, pB q 0), (15, SL h b.Slots j), (16, iv (b.Slots.length : Int)), (17, iv c.2), (28, .bool cl)] a) ?_ ?_))))
   ·have hm := ca
    refine GR (MW 1 (wV (iv d.State) y (eL false 1 0 (J.blk 2 rfl)) (wR 2 [(3, SL n c.1 m), (4, SL g ([] : List Int) f), (6, pB q 0), (15, SL h b.Slots j), (16, iv (b.Slots.length : Int)), (17, iv c.2), (24, .bool (d.State == 1))] y ?_)))
    rcases gx_bif hm with ⟨ad, hm⟩ | ⟨ad, hm⟩
    ·refine wK 24 true ad (MW 4 (WN ?_))
     obtain rfl := HS hm
     exact NM fun a ha => ⟨J.pk [0, 1, 2], ha.s⟩
    refine wK 24 false ad (MW 1 (wV (iv d.State) y (eL false 1 0 (J.blk 2 rfl)) (MW 2 (WN ?_))))
    obtain rfl := HS hm
    exact NM fun a ha => ⟨J.pk [0, 1, 2], ha.s⟩
   intro cz al ⟨X, bs⟩
   refine N_use bs ?_
   have hm := bz
   refine TN (GD hm fun ag cb b0 => G_meet (fun a w' => ∃ F D U, ownS encWaiter ag F D U ∧ Mem [] w w' [G, U] ∧ Sat Tryz.f74.ntmps [(3, SL F ag D), (4, SL g ([] : List Int) f), (15, SL h b.Slots j), (16, iv (b.Slots.length : Int)), (17, iv c.2)] a) ?_ ?_)
   ·have hm := cb
    refine GT hm (fun ae hm => ?_) fun ae hm => ?_
    ·refine GR (MW 1 (wV (.agg #[iv d.State, iv d.Irq, iv d.Priority]) al (eL true 3 0 (X.blk 2 rfl)) (GD hm fun ai ci hm => WD (c_i_waiterOf al d ci) X fun dd bi => wL (E := encWaiter) [ai] 1 [iv ai.Irq, iv ai.Priority] 142 bi fun c5 c3 c8 de cd ap => GD hm fun bl bx hm => wA 16 [iv 0, iv 0] 1 ap af (cd.r ap 3) bx fun a3 au cq cu ce bj => MW 1 (WN ?_))))
     obtain rfl := HS hm
     exact NM fun a ha => ⟨a3, au, cq, ce, bj.pk [0, 1], ha.s⟩
    refine GK ?_
    obtain rfl := HS hm
    exact NM fun a ha => ⟨n, m, B, af, X.pk [0, 1], ha.s⟩
   intro c0 cv ⟨F, D, U, cc, bk, bt⟩
   refine N_use bt ?_
   have hm := b0
   refine BN (TN (GR (MW 2 (WN ?_))))
   cases hm
   exact N_loop fun a ha => ⟨_, rfl, F, D, U, cc, bk.pk [0, 1], ha.s⟩
  refine XA ?_
  obtain rfl := HS hm
  obtain rfl := cg _ rfl
  exact NM fun a ha => ⟨n, m, B, af, I.pk [0, 1], ha.s⟩
 intro c1 a8 ⟨i, k, T, b9, Y, bu⟩
 refine N_use bu ?_
 have hm := b2
 refine NF (MW 1 (GD hm fun l ch hm => WC ((c_slices_SortFunc_128__i_compareUrgency a8 u i k T b9 (Y.hasPick [1]) (Y.nodupPick [1] (by kernel_rfl)) ch).mono ?_)))
 rintro e_ cr ⟨cn, rfl, aw, N, a9⟩
 have bb := Y.callF' [1] [0] (by kernel_rfl) a9
 refine ⟨_, rfl, ?_⟩
 refine LY 3 i k N (LY 35 i k N (NB (MW 3 (NO (GD hm fun O cj b1 => G_meet (fun a w' => ∃ A z S, ownS Gx.encI O A z S ∧ Mem [] w w' [S] ∧ Sat Tryz.f74.ntmps [(4, SL A O z)] a) ?_ ?_)))))
 ·refine GB (G_while (σ := List Int × Int) (ρ := List Int) (fun o a w' => ∃ x v R, ownS Gx.encI o.1 x v R ∧ Mem [] w w' [cn, R] ∧ Sat Tryz.f74.ntmps [(4, SL x o.1 v), (37, SL i l k), (38, iv (l.length : Int)), (39, iv o.2)] a) cj (fun a ha => ⟨g, f, G, b8, bb.pk [1, 0], ha.s⟩) ?_)
  clear hm
  intro o df hm cf cw aj ⟨x, v, R, ax, H, bp⟩
  refine G_use bp (QA (wR 1 [(4, SL x o.1 v), (37, SL i l k), (38, iv (l.length : Int)), (39, iv o.2), (40, .bool (decide (o.2 < (l.length : Int))))] aj (NE (GT hm (fun ab hm => ?_) fun ab hm => ?_))))
  ·refine KD (GD hm fun t ay hm => wV (elemP i (o.2.toNat * 2)) aj (eI (aw.r H 0) rfl ay) (wV (.agg #[iv t.Irq, iv t.Priority]) aj (eE true 2 0 (o.2.toNat * 2) (aw.r H 0) ay) (wN (CE 142 [iv 0, iv 0]) H fun bm c9 bc => wS true 2 0 (.agg #[iv t.Irq, iv t.Priority]) 2 [iv t.Irq, iv t.Priority] bc rfl fun a5 am => NO (GR (MW 2 (wV (iv t.Irq) a5 (eL false 1 0 (am.blk 2 rfl)) (wL (E := Gx.encI) [t.Irq] 1 [iv t.Irq] 3 am fun c4 c2 c6 da b4 an => GD hm fun aq bv hm => wA 8 [iv 0] 1 an ax (b4.r an 3) bv fun ah aa co a6 b5 bd => MW 1 (NG (MW 2 (WN ?_))))))))))
   cases hm
   exact N_loop fun a ha => ⟨_, rfl, ah, aa, co, b5, bd.pk [0, 1], ha.s⟩
  refine XA ?_
  obtain rfl := HS hm
  obtain rfl := cf _ rfl
  exact NM fun a ha => ⟨x, v, R, ax, H.pk [1], ha.s⟩
 intro cx cs ⟨A, z, S, b3, be, bq⟩
 refine N_use bq ?_
 have hm := b1
 refine NF (MW 2 (NC ?_))
 obtain rfl := HS hm
 exact RA [SL A O z] (⟨A, z, S, rfl, b3, be.pk [0]⟩)
theorem c_i_IsIdle_1 (w : World) (b : Interface) (l k) (F : rdS Gx.encI w b.Stack l k) (h f) (u : rdS encSlot w b.Queue.Slots h f) (i g) (v : rdS encWaiter w b.Queue.Waiting i g) {r : Bool} (hm : M.i_IsIdle_1 b = some r) :
  Calls Tryz.prog 73 #[.agg #[iv b.Mask, SL l b.Stack k, SL h b.Queue.Slots f, SL i b.Queue.Waiting g]] w fun e w' => e = .returned (.bool r) ∧ Mem [] w w' [] := by
 unfold M.i_IsIdle_1 at hm
 refine cE Tryz.func73 ?_
 have M0 := Mem.refl [] w
 refine QA (wN (CE 87 [iv b.Mask, SL l b.Stack k, SL h b.Queue.Slots f, SL i b.Queue.Waiting g]) M0 fun j c d => MW 1 (NE (GD hm fun n z y => G_meet (fun a w' => Mem [] w w' [] ∧ Sat Tryz.f73.ntmps [(2, .bool n)] a) ?_ ?_)))
 ·have hm := z
  refine GR (MW 1 (wV (SL l b.Stack k) c (eL false 1 1 (d.blk 0 rfl)) (wR 3 [(1, pB j 0), (7, .bool (decide ((b.Stack.length : Int) > 0)))] c ?_)))
  rcases gx_bif hm with ⟨m, hm⟩ | ⟨m, hm⟩
  ·refine wK 7 true m (MW 7 (WN ?_))
   obtain rfl := HS hm
   exact NM fun a ha => ⟨d.pk [], ha.s⟩
  refine wK 7 false m (MW 1 (wV (.agg #[SL h b.Queue.Slots f, SL i b.Queue.Waiting g]) c (eL true 2 2 (d.blk 0 rfl)) (GD hm fun B A hm => WC ((c_i_pendingIrqs c b.Queue h f (u.mem0 d) i g (v.mem0 d) A).mono ?_))))
  rintro e_ C ⟨H, E, I, rfl, G, o⟩
  have q := d.call o
  refine ⟨_, rfl, ?_⟩
  refine MW 4 (WN ?_)
  obtain rfl := HS hm
  exact NM fun a ha => ⟨q.pk [], ha.s⟩
 intro D J ⟨t, x⟩
 refine N_use x ?_
 have hm := y
 refine TN (G_ret ?_)
 obtain rfl := HS hm
 exact RA [.bool n] (⟨rfl, t.pk []⟩)
theorem c_slices_IndexFunc_127__i_IsIdle_1 (w : World) (c : List Interface) (g h) (B : rdD deepInterface w c g h) {r : Int} (hm : M.slices_IndexFunc_127__i_IsIdle_1 c = some r) :
  Calls Tryz.prog 127 #[SL g c h, .func (.func 73) #[] #[]] w fun e w' => e = .returned (iv r) ∧ Mem [] w w' [] := by
 unfold M.slices_IndexFunc_127__i_IsIdle_1 at hm
 refine cE Tryz.func127 ?_
 have M0 := Mem.refl [] w
 refine QA (MW 1 (NB (MW 3 (NO (GD hm fun H F q => G_meet (fun a w' => ∃ (x : Unit), H = .inl x ∧ Mem [] w w' [] ∧ Sat Tryz.f127.ntmps [] a) ?_ ?_)))))
 ·refine GB (G_while (σ := Int) (ρ := (Unit) ⊕ (Int)) (fun f a w' => Mem [] w w' [] ∧ Sat Tryz.f127.ntmps [(0, SL g c h), (1, .func (.func 73) #[] #[]), (7, iv (c.length : Int)), (8, iv f)] a) F (fun a ha => ⟨M0.pk [], ha.s⟩) ?_)
  clear hm
  intro f N hm t J j ⟨i, C⟩
  refine G_use C (QA (MW 1 (NE (GT hm (fun l hm => ?_) fun l hm => ?_))))
  ·refine KD (MW 2 (NA (MW 3 (GD hm fun d G hm => ?_))))
   obtain ⟨O, v, u, n⟩ := id B
   obtain ⟨b, k⟩ := gxIdx_fst v G
   refine wV (elemP g (f.toNat * 4)) j (eI (u.mem0 i) (len_fst v) k) (wV (.agg #[iv d.Mask, SL ((b 0).1) d.Stack ((b 0).2), SL ((b 1).1) d.Queue.Slots ((b 1).2), SL ((b 2).1) d.Queue.Waiting ((b 2).2)]) j (eE true 4 0 (f.toNat * 4) (u.mem0 i) k) (GD hm fun L E hm => WD (c_i_IsIdle_1 j d ((b 0).1) ((b 0).2) ((n.mem0 i).a_ k 0) ((b 1).1) ((b 1).2) ((n.mem0 i).a_ k 1) ((b 2).1) ((b 2).2) ((n.mem0 i).a_ k 2) E) i fun y o => NO (GT hm (fun m hm => ?_) fun m hm => ?_)))
   ·refine QA (MW 2 (NX ?_))
    obtain rfl := HS hm
    obtain rfl := t _ rfl
    have hm := q; simp only [Sum.elim_inr] at hm
    refine BR (N_meet_ret (TR ?_))
    obtain rfl := HS hm
    exact RA [iv f] (⟨rfl, o.pk []⟩)
   refine KC (MW 2 (WN ?_))
   cases hm
   exact N_loop fun a ha => ⟨_, rfl, o.pk [], ha.s⟩
  refine XA ?_
  obtain rfl := HS hm
  obtain rfl := t _ rfl
  exact NM fun a ha => ⟨_, rfl, i.pk [], ha.s⟩
 intro K I ⟨x, hout_, A, D⟩
 refine N_use D ?_
 subst hout_
 have hm := q; simp only [Sum.elim_inl] at hm
 refine NF (MW 1 (NC ?_))
 cases hm
 exact RA [iv (-1)] (⟨rfl, A.pk []⟩)
theorem c_slices_ContainsFunc_72__i_IsIdle_1 (w : World) (a : List Interface) (c b) (h : rdD deepInterface w a c b) {r : Bool} (hm : M.slices_ContainsFunc_72__i_IsIdle_1 a = some r) :
  Calls Tryz.prog 72 #[SL c a b, .func (.func 73) #[] #[]] w fun e w' => e = .returned (.bool r) ∧ Mem [] w w' [] := by
 unfold M.slices_ContainsFunc_72__i_IsIdle_1 at hm
 refine cE Tryz.func72 ?_
 have M0 := Mem.refl [] w
 refine QA (MW 1 (NA (MW 2 (GD hm fun d i hm => WD (c_slices_IndexFunc_127__i_IsIdle_1 w a c b (h.mem0 M0) i) M0 fun j g => MW 2 (NC ?_)))))
 cases hm
 exact RA [.bool (decide (d ≥ 0))] (⟨rfl, g.pk []⟩)
theorem c_i_IsIdle (w : World) (b : Machine) (n m) (U : rdS encRoute w b.Routes n m) (j l) (x : rdS Gx.encB w b.Enabled j l) (c f) (y : rdS Gx.encB w b.Raised c f) (k i) (H : rdD deepInterface w b.Cpus k i) {r : Bool × Bool} (hm : M.i_IsIdle b = some r) :
  Calls Tryz.prog 24 #[.agg #[SL n b.Routes m, SL j b.Enabled l, SL c b.Raised f, SL k b.Cpus i]] w fun e w' => e = .returned (.tuple #[.bool r.1, .bool r.2]) ∧ Mem [] w w' [] := by
 unfold M.i_IsIdle at hm
 refine cE Tryz.func24 ?_
 have M0 := Mem.refl [] w
 refine QA (wN (CE 32 [SL n b.Routes m, SL j b.Enabled l, SL c b.Raised f, SL k b.Cpus i]) M0 fun d D q => MW 2 (NB (wV (.agg #[SL n b.Routes m, SL j b.Enabled l, SL c b.Raised f, SL k b.Cpus i]) D (eL true 4 0 (q.blk 0 rfl)) (GD hm fun af ab hm => WD (c_i_IsMachine D b n m (U.mem0 q) j l (x.mem0 q) c f (y.mem0 q) k i (H.mem0 q) ab) q fun t u => MW 1 (NO (GT hm (fun z hm => ?_) fun z hm => ?_))))))
 ·refine QA (MW 2 (ND ?_))
  cases hm
  exact RA [.bool false, .bool false] (⟨rfl, u.pk []⟩)
 refine KB (MW 1 (wV (SL c b.Raised f) t (eL false 1 2 (u.blk 0 rfl)) (MW 2 (NO (GD hm fun ae ac I => G_meet (fun a w' => ∃ (N : Unit), ae = .inl N ∧ Mem [] w w' [(BK d 32 [SL n b.Routes m, SL j b.Enabled l, SL c b.Raised f, SL k b.Cpus i])] ∧ Sat Tryz.f24.ntmps [(1, pB d 0)] a) ?_ ?_)))))
 ·refine GB (G_while (σ := Int) (ρ := (Unit) ⊕ (Bool × Bool)) (fun g a w' => Mem [] w w' [(BK d 32 [SL n b.Routes m, SL j b.Enabled l, SL c b.Raised f, SL k b.Cpus i])] ∧ Sat Tryz.f24.ntmps [(1, pB d 0), (10, SL c b.Raised f), (11, iv (b.Raised.length : Int)), (12, iv g)] a) ac (fun a ha => ⟨u.pk [0], ha.s⟩) ?_)
  clear hm
  intro g ak hm J ah h ⟨o, V⟩
  refine G_use V (QA (MW 1 (NE (GT hm (fun A hm => ?_) fun A hm => ?_))))
  ·refine KD (MW 1 (GD hm fun F K hm => wV (elemP c (g.toNat * 1)) h (eI (y.mem0 o) rfl K) (wV (.bool F) h (eE false 1 0 (g.toNat * 1) (y.mem0 o) K) (MW 2 (NE (GD hm fun ad Z Y => G_meet (fun a w' => Mem [] w w' [(BK d 32 [SL n b.Routes m, SL j b.Enabled l, SL c b.Raised f, SL k b.Cpus i])] ∧ Sat Tryz.f24.ntmps [(1, pB d 0), (10, SL c b.Raised f), (11, iv (b.Raised.length : Int)), (12, iv g), (24, .bool ad)] a) ?_ ?_))))))
   ·have hm := Z
    refine GR (wR 2 [(1, pB d 0), (4, iv g), (10, SL c b.Raised f), (11, iv (b.Raised.length : Int)), (12, iv g), (18, .bool F)] h ?_)
    rcases gx_bif hm with ⟨B, hm⟩ | ⟨B, hm⟩
    ·refine wK 18 true B (MW 1 (wV (SL j b.Enabled l) h (eL false 1 1 (o.blk 0 rfl)) (MW 1 (GD hm fun Q L hm => wV (elemP j (g.toNat * 1)) h (eI (x.mem0 o) rfl L) (wV (.bool Q) h (eE false 1 0 (g.toNat * 1) (x.mem0 o) L) (MW 1 (WN ?_)))))))
     obtain rfl := HS hm
     exact NM fun a ha => ⟨o.pk [0], ha.s⟩
    refine wK 18 false B (MW 6 (WN ?_))
    obtain rfl := HS hm
    exact NM fun a ha => ⟨o.pk [0], ha.s⟩
   intro ai P ⟨G, W⟩
   refine N_use W ?_
   have hm := Y
   refine TN (GT hm (fun C hm => ?_) fun C hm => ?_)
   ·refine QA (MW 2 (NX ?_))
    obtain rfl := HS hm
    obtain rfl := J _ rfl
    have hm := I; simp only [Sum.elim_inr] at hm
    refine BR (N_meet_ret (TR ?_))
    cases hm
    exact RA [.bool false, .bool true] (⟨rfl, G.pk []⟩)
   refine KC (MW 2 (WN ?_))
   cases hm
   exact N_loop fun a ha => ⟨_, rfl, G.pk [0], ha.s⟩
  refine XA ?_
  obtain rfl := HS hm
  obtain rfl := J _ rfl
  exact NM fun a ha => ⟨_, rfl, o.pk [0], ha.s⟩
 intro aj E ⟨N, hout_, v, X⟩
 refine N_use X ?_
 subst hout_
 have hm := I; simp only [Sum.elim_inl] at hm
 refine NF (MW 1 (wV (SL k b.Cpus i) E (eL false 1 3 (v.blk 0 rfl)) (GD hm fun O aa hm => WD (c_slices_ContainsFunc_72__i_IsIdle_1 E b.Cpus k i (H.mem0 v) aa) v fun ag T => wR 3 [(2, .bool (!O)), (3, .bool true)] ag (NC ?_))))
 cases hm
 exact RA [.bool (!O), .bool true] (⟨rfl, T.pk []⟩)
end Go.Proofs.YtllhajkgkghhdaaGreat
set_option linter.unusedVariables false
set_option linter.unusedSimpArgs false
set_option maxRecDepth 100000
set_option maxHeartbeats 4000000
namespace Go.Proofs.YtllhajkgkghhdaaGreat
open Go.Gx
theorem c_i_PendingOn (w : World) (b : Machine) (k h) (H : rdS encRoute w b.Routes k h) (l i) (I : rdS Gx.encB w b.Enabled l i) (m j) (J : rdS Gx.encB w b.Raised m j) (f g) (A : rdD deepInterface w b.Cpus f g) (c : Int) {r : (List Int) × Bool} (hm : M.i_PendingOn b c = some r) :
  Calls Tryz.prog 26 #[.agg #[SL k b.Routes h, SL l b.Enabled i, SL m b.Raised j, SL f b.Cpus g], iv c] w fun e w' => ∃ N G P, e = .returned (.tuple #[SL N r.1 G, .bool r.2]) ∧ ownS Gx.encI r.1 N G P ∧ Mem [] w w' [P] := by
 unfold M.i_PendingOn at hm
 refine cE Tryz.func26 ?_
 have M0 := Mem.refl [] w
 refine QA (wN (CE 32 [SL k b.Routes h, SL l b.Enabled i, SL m b.Raised j, SL f b.Cpus g]) M0 fun o F v => MW 2 (NE (GS (GD hm fun ad X W => G_meet (fun a w' => Mem [] w w' [(BK o 32 [SL k b.Routes h, SL l b.Enabled i, SL m b.Raised j, SL f b.Cpus g])] ∧ Sat Tryz.f26.ntmps [(1, iv c), (2, pB o 0), (14, .bool ad)] a) ?_ ?_))))
 ·have hm := X
  refine GR (wV (.agg #[SL k b.Routes h, SL l b.Enabled i, SL m b.Raised j, SL f b.Cpus g]) F (eL true 4 0 (v.blk 0 rfl)) (GD hm fun ae Z hm => WD (c_i_IsMachine F b k h (H.mem0 v) l i (I.mem0 v) m j (J.mem0 v) f g (A.mem0 v) Z) v fun y u => wR 2 [(1, iv c), (2, pB o 0), (9, .bool (!ae))] y ?_))
  rcases gx_bif hm with ⟨B, hm⟩ | ⟨B, hm⟩
  ·refine wK 9 true B (MW 5 (WN ?_))
   obtain rfl := HS hm
   exact NM fun a ha => ⟨u.pk [0], ha.s⟩
  refine wK 9 false B (wV (.agg #[SL k b.Routes h, SL l b.Enabled i, SL m b.Raised j, SL f b.Cpus g]) y (eL true 4 0 (u.blk 0 rfl)) (MW 1 (GD hm fun af aa hm => WD (c_i_Machine_hasCpu y b k h (H.mem0 u) l i (I.mem0 u) m j (J.mem0 u) f g (A.mem0 u) c aa) u fun ah T => MW 2 (WN ?_))))
  obtain rfl := HS hm
  exact NM fun a ha => ⟨T.pk [0], ha.s⟩
 intro aj q ⟨n, V⟩
 refine N_use V ?_
 have hm := W
 refine TN (GT hm (fun C hm => ?_) fun C hm => ?_)
 ·refine QA (MW 2 (ND ?_))
  cases hm
  exact RA [SN, .bool false] (⟨none, 0, [], rfl, ownS_nil, n.pk [100000]⟩)
 refine KA (MW 1 (wV (SL f b.Cpus g) q (eL false 1 3 (n.blk 0 rfl)) (MW 1 (GD hm fun t ac hm => ?_))))
 obtain ⟨ak, L, D, K⟩ := id A
 obtain ⟨d, x⟩ := gxIdx_fst L ac
 refine wV (elemP f (c.toNat * 4)) q (eI (D.mem0 n) (len_fst L) x) (wV (elemP f (c.toNat * 4 + 2)) q (eF 2 (c.toNat * 4) 2 (D.mem0 n) x) (wV (.agg #[SL ((d 1).1) t.Queue.Slots ((d 1).2), SL ((d 2).1) t.Queue.Waiting ((d 2).2)]) q (eE true 2 2 (c.toNat * 4 + 2) (D.mem0 n) x) (GD hm fun O ab hm => WC ((c_i_pendingIrqs q t.Queue ((d 1).1) ((d 1).2) ((K.mem0 n).a_ x 1) ((d 2).1) ((d 2).2) ((K.mem0 n).a_ x 2) ab).mono ?_))))
 rintro e_ ai ⟨E, z, ag, rfl, Y, S⟩
 have U := n.call S
 refine ⟨_, rfl, ?_⟩
 refine MW 2 (NC ?_)
 cases hm
 exact RA [SL E O z, .bool true] (⟨E, z, ag, rfl, Y, U.pk [1]⟩)
theorem c_s_l9Own (w : World) (a : Queue) (y q) (aj : rdS encSlot w a.Slots y q) (z t) (ak : rdS encWaiter w a.Waiting z t) {r : Queue} (hm : M.s_l9Own a = some r) :
  Calls Tryz.prog 183 #[.agg #[SL y a.Slots q, SL z a.Waiting t]] w fun e w' => ∃ U S W V T X, e = .returned (.agg #[SL U r.Slots S, SL V r.Waiting T]) ∧ ownS encSlot r.Slots U S W ∧ ownS encWaiter r.Waiting V T X ∧ Mem [] w w' [W, X] := by
 unfold M.s_l9Own at hm
 refine cE Tryz.func183 ?_
 have M0 := Mem.refl [] w
 refine QA (wN (CE 85 [SL y a.Slots q, SL z a.Waiting t]) M0 fun m a0 Y => wN (CE 85 [SN, SN]) Y fun H a3 Z => NE (GD hm fun l al hm => GU [(0, .agg #[SL y a.Slots q, SL z a.Waiting t]), (1, pB m 0), (2, pB H 0)] (DL 7 [[],[],[1],[0,2],[],[],[5]] [[],[],[],[0],[],[],[]] (EM 7) (EM 7) (EM 7) (EM 7) (fun _ => []) [fun f v s => ∃ A u, v = (.slice A ([] : List Slot).length u : Value) ∧ ownS encSlot ([] : List Slot) A u s, QV (pB m 0), QV (.slice y a.Slots.length q), fun f v s => ∃ d c, v = (.slice d l.length c : Value) ∧ ownS encSlot l d c s, fun f v s => ∃ B x, v = (.slice B ([] : List Waiter).length x : Value) ∧ ownS encWaiter ([] : List Waiter) B x s, QV (pB m 1), QV (.slice z a.Waiting.length t)] [] [3, 4, 6] [3, 4] (Z.preNil 7) (AC ?_ (AC ?_ (AC ?_ (AC ?_ (AC ?_ (AC ?_ (AC ?_ AN))))))) ?_)))
 ·intro n G R a4 aa
  exact wL (E := encSlot) ([] : List Slot) 0 [] 117 aa fun A u ao a5 I ab => WN (oE (SL A ([] : List Slot) u) ao ⟨A, u, rfl, I⟩ (Mem.mid ab))
 ·intro n G R au ac
  exact OM ⟨rfl, rfl⟩ ac
 ·rintro n G v1_ ⟨rfl, _⟩ R av L
  exact OV ⟨rfl, rfl⟩ (eL false 1 0 (L.blk 0 rfl)) L
 ·intro n G v0_ hb0_
  obtain ⟨A, u, rfl, I⟩ := hb0_
  rintro v2_ ⟨rfl, _⟩ R a6 N
  exact wA 24 [iv 0, iv 0, iv 0] 3 N I (aj.mem0 N) al fun d c ap a7 J ad => WN (oE (SL d l c) ap ⟨d, c, rfl, J⟩ (Mem.takeOver ad))
 ·intro n G R a8 ae
  exact wL (E := encWaiter) ([] : List Waiter) 0 [] 142 ae fun B x aq a9 K af => WN (oE (SL B ([] : List Waiter) x) aq ⟨B, x, rfl, K⟩ (Mem.mid af))
 ·intro n G R aw ag
  exact OM ⟨rfl, rfl⟩ ag
 ·rintro n G v5_ ⟨rfl, _⟩ R ax O
  exact OV ⟨rfl, rfl⟩ (eL false 1 1 (O.blk 0 rfl)) O
 intro n G v3_ hb3_
 obtain ⟨d, c, rfl, J⟩ := hb3_
 intro v4_ hb4_
 obtain ⟨B, x, rfl, K⟩ := hb4_
 rintro v6_ ⟨rfl, _⟩ ay ah
 have P : Mem [] w ay [(BK m 85 [SL y a.Slots q, SL z a.Waiting t]), (BK H 85 [SN, SN]), (n 3), (n 4)] := ah
 refine GD hm fun F am hm => wA 16 [iv 0, iv 0] 3 P K (ak.mem0 P) am fun D C ar az an ai => MW 1 (wS true 2 0 (.agg #[SL d l c, SL D F C]) 1 [SL d l c, SL D F C] ai rfl fun ba Q => NC ?_)
 obtain rfl := HS hm
 exact N_ret [.agg #[SL d l c, SL D F C]] (RX true 2 0 (Q.blk 1 rfl) RVs_nil) (⟨d, c, (n 3), D, C, ar, rfl, J, an, Q.pk [2, 3]⟩)
theorem c_s_l10Own (w : World) (a : Interface) (B x) (an : rdS Gx.encI w a.Stack B x) (C y) (ao : rdS encSlot w a.Queue.Slots C y) (D z) (ap : rdS encWaiter w a.Queue.Waiting D z) {r : Interface} (hm : M.s_l10Own a = some r) :
  Calls Tryz.prog 145 #[.agg #[iv a.Mask, SL B a.Stack x, SL C a.Queue.Slots y, SL D a.Queue.Waiting z]] w fun e w' => ∃ Z W ac aa X ad ab Y ae, e = .returned (.agg #[iv r.Mask, SL Z r.Stack W, SL aa r.Queue.Slots X, SL ab r.Queue.Waiting Y]) ∧ ownS Gx.encI r.Stack Z W ac ∧ ownS encSlot r.Queue.Slots aa X ad ∧ ownS encWaiter r.Queue.Waiting ab Y ae ∧ Mem [] w w' [ac, ad, ae] := by
 unfold M.s_l10Own at hm
 refine cE Tryz.func145 ?_
 have M0 := Mem.refl [] w
 refine QA (wN (CE 87 [iv a.Mask, SL B a.Stack x, SL C a.Queue.Slots y, SL D a.Queue.Waiting z]) M0 fun u a5 ah => wN (CE 87 [iv 0, SN, SN, SN]) ah fun I a6 ai => NE (GD hm fun E aq hm => GD hm fun c ar hm => GU [(0, .agg #[iv a.Mask, SL B a.Stack x, SL C a.Queue.Slots y, SL D a.Queue.Waiting z]), (1, pB u 0), (2, pB I 0)] (DL 8 [[],[0],[],[2],[3],[],[5],[6]] (EM 8) (EM 8) (EM 8) (EM 8) (EM 8) (fun _ => []) [QV (pB u 0), QV (iv a.Mask), QV (pB u 1), QV (.slice B a.Stack.length x), fun f v s => ∃ n d, v = (.slice n E.length d : Value) ∧ ownS Gx.encI E n d s, QV (pB u 2), QV (.agg #[SL C a.Queue.Slots y, SL D a.Queue.Waiting z]), fun f v s => ∃ q l F t m G, v = (.agg #[SL q c.Slots l, SL t c.Waiting m] : Value) ∧ s = (F ++ G) ∧ ownS encSlot c.Slots q l F ∧ ownS encWaiter c.Waiting t m G] [] [1, 4, 7] [4, 7] (ai.preNil 8) (AC ?_ (AC ?_ (AC ?_ (AC ?_ (AC ?_ (AC ?_ (AC ?_ (AC ?_ AN)))))))) ?_)))
 ·intro A H R av aj
  exact OM ⟨rfl, rfl⟩ aj
 ·rintro A H v0_ ⟨rfl, _⟩ R aw Q
  exact OV ⟨rfl, rfl⟩ (eL false 1 0 (Q.blk 0 rfl)) Q
 ·intro A H R ax ak
  exact OM ⟨rfl, rfl⟩ ak
 ·rintro A H v2_ ⟨rfl, _⟩ R ay S
  exact OV ⟨rfl, rfl⟩ (eL false 1 1 (S.blk 0 rfl)) S
 ·rintro A H v3_ ⟨rfl, _⟩ R az T
  refine WC ((c_s_l1Own az a.Stack B x (an.mem0 T) aq).mono ?_)
  rintro e_ a7 ⟨n, d, au, rfl, L, af⟩
  refine ⟨_, rfl, ?_⟩
  exact WN (oE (SL n E d) au ⟨n, d, rfl, L⟩ (Mem.callMid T af))
 ·intro A H R a0 al
  exact OM ⟨rfl, rfl⟩ al
 ·rintro A H v5_ ⟨rfl, _⟩ R a3 U
  exact OV ⟨rfl, rfl⟩ (eL true 2 2 (U.blk 0 rfl)) U
 ·rintro A H v6_ ⟨rfl, _⟩ R a4 K
  refine WC ((c_s_l9Own a4 a.Queue C y (ao.mem0 K) D z (ap.mem0 K) ar).mono ?_)
  rintro e_ a8 ⟨q, l, F, t, m, G, rfl, N, O, ag⟩
  refine ⟨_, rfl, ?_⟩
  exact WN (oE (.agg #[SL q c.Slots l, SL t c.Waiting m]) (F ++ G) ⟨q, l, F, t, m, G, rfl, rfl, N, O⟩ (Mem.callMid K (ag.permF (by simp))))
 rintro A H v1_ ⟨rfl, _⟩ v4_ hb4_
 obtain ⟨n, d, rfl, L⟩ := hb4_
 intro v7_ hb7_
 obtain ⟨q, l, F, t, m, G, rfl, hs7_, N, O⟩ := hb7_
 intro P am
 have J : Mem [] w P [(BK u 87 [iv a.Mask, SL B a.Stack x, SL C a.Queue.Slots y, SL D a.Queue.Waiting z]), (BK I 87 [iv 0, SN, SN, SN]), (A 4), F, G] := am.permF (by simp [hs7_, SL])
 refine MW 1 (wS true 4 0 (.agg #[iv a.Mask, SL n E d, SL q c.Slots l, SL t c.Waiting m]) 1 [iv a.Mask, SL n E d, SL q c.Slots l, SL t c.Waiting m] J rfl fun a9 V => NC ?_)
 obtain rfl := HS hm
 exact N_ret [.agg #[iv a.Mask, SL n E d, SL q c.Slots l, SL t c.Waiting m]] (RX true 4 0 (V.blk 1 rfl) RVs_nil) (⟨n, d, (A 4), q, l, F, t, m, G, rfl, L, N, O, V.pk [2, 3, 4]⟩)
theorem c_s_l21Own (w : World) (c : Machine) (Q N) (dq : rdS encRoute w c.Routes Q N) (S O) (dr : rdS Gx.encB w c.Enabled S O) (T P) (ds : rdS Gx.encB w c.Raised T P) (J L) (dt : rdD deepInterface w c.Cpus J L) {r : Machine} (hm : M.s_l21Own c = some r) :
  Calls Tryz.prog 88 #[.agg #[SL Q c.Routes N, SL S c.Enabled O, SL T c.Raised P, SL J c.Cpus L]] w fun e w' => ∃ cg b9 ck ch ca cl ci cb cm cj cc cn co, e = .returned (.agg #[SL cg r.Routes b9, SL ch r.Enabled ca, SL ci r.Raised cb, SL cj r.Cpus cc]) ∧ ownS encRoute r.Routes cg b9 ck ∧ ownS Gx.encB r.Enabled ch ca cl ∧ ownS Gx.encB r.Raised ci cb cm ∧ ownD deepInterface r.Cpus cj cc cn co ∧ Mem [] w w' [ck, cl, cm, cn, co] := by
 unfold M.s_l21Own at hm
 refine cE Tryz.func88 ?_
 have M0 := Mem.refl [] w
 refine QA (wN (CE 32 [SL Q c.Routes N, SL S c.Enabled O, SL T c.Raised P, SL J c.Cpus L]) M0 fun n e2 cu => wN (CE 32 [SN, SN, SN, SN]) cu fun K e3 cv => NE (GD hm fun G dw hm => GD hm fun H dx hm => GD hm fun I dy hm => GU [(0, .agg #[SL Q c.Routes N, SL S c.Enabled O, SL T c.Raised P, SL J c.Cpus L]), (1, pB n 0), (2, pB K 0)] (DL 15 [[],[],[1],[0,2],[],[],[5],[4,6],[],[],[9],[8,10],[],[],[]] [[],[],[],[0],[],[],[],[4],[],[],[],[8],[],[],[]] (EM 15) [[],[],[],[],[],[],[],[],[],[],[],[],[],[3,7,11,12],[]] [[],[],[],[],[],[],[],[],[],[],[],[],[],[3,7,11,12],[]] (EM 15) (fun _ => []) [fun f v s => ∃ ax aq, v = (.slice ax ([] : List Route).length aq : Value) ∧ ownS encRoute ([] : List Route) ax aq s, QV (pB n 0), QV (.slice Q c.Routes.length N), fun f v s => ∃ y t, v = (.slice y G.length t : Value) ∧ ownS encRoute G y t s, fun f v s => ∃ ay ar, v = (.slice ay ([] : List Bool).length ar : Value) ∧ ownS Gx.encB ([] : List Bool) ay ar s, QV (pB n 1), QV (.slice S c.Enabled.length O), fun f v s => ∃ z u, v = (.slice z H.length u : Value) ∧ ownS Gx.encB H z u s, fun f v s => ∃ az au, v = (.slice az ([] : List Bool).length au : Value) ∧ ownS Gx.encB ([] : List Bool) az au s, QV (pB n 2), QV (.slice T c.Raised.length P), fun f v s => ∃ B x, v = (.slice B I.length x : Value) ∧ ownS Gx.encB I B x s, fun f v s => ∃ V U am a3, v = (.slice V ([] : List Interface).length U : Value) ∧ s = (am ++ a3) ∧ ownD deepInterface ([] : List Interface) V U am a3, fun f v s => v = (.agg #[(atPath (f 3) []), (atPath (f 7) []), (atPath (f 11) []), (atPath (f 12) [])] : Value) ∧ s = [], fun f v s => ∃ q, v = (pB q 0 : Value) ∧ s = (BK q 32 [SN, SN, SN, SN])] [] [3, 7, 11, 12, 13, 14] [3, 7, 11, 12, 14] (cv.preNil 15) (AC ?_ (AC ?_ (AC ?_ (AC ?_ (AC ?_ (AC ?_ (AC ?_ (AC ?_ (AC ?_ (AC ?_ (AC ?_ (AC ?_ (AC ?_ (AC ?_ (AC ?_ AN))))))))))))))) ?_)))
 ·intro d W R e4 cw
  exact wL (E := encRoute) ([] : List Route) 0 [] 129 cw fun ax aq ea e5 bi cx => WN (oE (SL ax ([] : List Route) aq) ea ⟨ax, aq, rfl, bi⟩ (Mem.mid cx))
 ·intro d W R eg cy
  exact OM ⟨rfl, rfl⟩ cy
 ·rintro d W v1_ ⟨rfl, _⟩ R eh bw
  exact OV ⟨rfl, rfl⟩ (eL false 1 0 (bw.blk 0 rfl)) bw
 ·intro d W v0_ hb0_
  obtain ⟨ax, aq, rfl, bi⟩ := hb0_
  rintro v2_ ⟨rfl, _⟩ R e6 bx
  exact wA 16 [iv 0, iv 0] 3 bx bi (dq.mem0 bx) dw fun y t eb e7 bj cz => WN (oE (SL y G t) eb ⟨y, t, rfl, bj⟩ (Mem.takeOver cz))
 ·intro d W R e8 c0
  exact wL (E := Gx.encB) ([] : List Bool) 0 [] 4 c0 fun ay ar ec e9 bk c1 => WN (oE (SL ay ([] : List Bool) ar) ec ⟨ay, ar, rfl, bk⟩ (Mem.mid c1))
 ·intro d W R ei c2
  exact OM ⟨rfl, rfl⟩ c2
 ·rintro d W v5_ ⟨rfl, _⟩ R ej bz
  exact OV ⟨rfl, rfl⟩ (eL false 1 1 (bz.blk 0 rfl)) bz
 ·intro d W v4_ hb4_
  obtain ⟨ay, ar, rfl, bk⟩ := hb4_
  rintro v6_ ⟨rfl, _⟩ R fa b0
  exact wA 1 [.bool false] 3 b0 bk (dr.mem0 b0) dx fun z u ed fb bl c3 => WN (oE (SL z H u) ed ⟨z, u, rfl, bl⟩ (Mem.takeOver c3))
 ·intro d W R fc c4
  exact wL (E := Gx.encB) ([] : List Bool) 0 [] 4 c4 fun az au ee fd bm c5 => WN (oE (SL az ([] : List Bool) au) ee ⟨az, au, rfl, bm⟩ (Mem.mid c5))
 ·intro d W R ek c6
  exact OM ⟨rfl, rfl⟩ c6
 ·rintro d W v9_ ⟨rfl, _⟩ R el b1
  exact OV ⟨rfl, rfl⟩ (eL false 1 2 (b1.blk 0 rfl)) b1
 ·intro d W v8_ hb8_
  obtain ⟨az, au, rfl, bm⟩ := hb8_
  rintro v10_ ⟨rfl, _⟩ R fe b2
  exact wA 1 [.bool false] 3 b2 bm (ds.mem0 b2) dy fun B x ef ff bn c7 => WN (oE (SL B I x) ef ⟨B, x, rfl, bn⟩ (Mem.takeOver c7))
 ·intro d W R fg c8
  exact W_litD (D := deepInterface) (s1 := []) [] ([] : List Interface) rfl 0 [] 87 c8 (by kernel_rfl) (by kernel_rfl) (by kernel_rfl) (by kernel_rfl) (by kernel_rfl) ownI_nil fun V U am fh bo c9 => WN (oE (.slice V ([] : List Interface).length U) (am ++ []) ⟨V, U, am, [], rfl, rfl, bo⟩ (Mem.mid (by rw [List.append_nil]; exact c9)))
 ·intro d W v3_ hb3_
  obtain ⟨_, y, t, rfl, _⟩ := hb3_
  intro v7_ hb7_
  obtain ⟨_, z, u, rfl, _⟩ := hb7_
  intro v11_ hb11_
  obtain ⟨_, B, x, rfl, _⟩ := hb11_
  intro v12_ hb12_
  obtain ⟨_, V, U, _, _, rfl, _⟩ := hb12_
  intro R em da
  exact OM ⟨rfl, rfl⟩ da
 ·intro d W R fi db
  exact wN (CE 32 [SN, SN, SN, SN]) db fun q fj dc => WN (oE (pB q 0) (BK q 32 [SN, SN, SN, SN]) ⟨q, rfl, rfl⟩ (Mem.mid dc))
 intro d W v3_ hb3_
 obtain ⟨y, t, rfl, bj⟩ := hb3_
 intro v7_ hb7_
 obtain ⟨z, u, rfl, bl⟩ := hb7_
 intro v11_ hb11_
 obtain ⟨B, x, rfl, bn⟩ := hb11_
 intro v12_ hb12_
 obtain ⟨V, U, am, a3, rfl, hs12_, bo⟩ := hb12_
 intro v13_ hb13_
 obtain ⟨hv13_, _⟩ := hb13_
 obtain rfl : v13_ = (.agg #[SL y G t, SL z H u, SL B I x, SL V ([] : List Interface) U] : Value) := hv13_.trans (by kernel_rfl)
 intro v14_ hb14_
 obtain ⟨q, rfl, hs14_⟩ := hb14_
 intro cp dd
 have a5 : Mem [] w cp [(BK n 32 [SL Q c.Routes N, SL S c.Enabled O, SL T c.Raised P, SL J c.Cpus L]), (BK K 32 [SN, SN, SN, SN]), (d 3), (d 7), (d 11), am, a3, (BK q 32 [SN, SN, SN, SN])] := dd.permF (by simp [hs12_, hs14_, SL])
 refine wS true 4 0 (.agg #[SL y G t, SL z H u, SL B I x, SL V ([] : List Interface) U]) 7 [SL y G t, SL z H u, SL B I x, SL V ([] : List Interface) U] a5 rfl fun en de => NB (MW 1 (NO (GD hm fun aw d7 d1 => G_meet (fun a w' => ∃ ai ad bc bd, ownD deepInterface aw ai ad bc bd ∧ Mem [] w w' [(BK K 32 [SN, SN, SN, SN]), (d 3), (d 7), (d 11), (BK q 32 [SL y G t, SL z H u, SL B I x, SL ai aw ad]), bc, bd] ∧ Sat Tryz.f88.ntmps [(2, pB K 0), (3, pB q 0)] a) ?_ ?_)))
 ·refine GB (G_while (σ := Int × List Interface) (ρ := List Interface) (fun C a w' => ∃ Y X a4 an, ownD deepInterface C.2 Y X a4 an ∧ Mem [] w w' [(BK n 32 [SL Q c.Routes N, SL S c.Enabled O, SL T c.Raised P, SL J c.Cpus L]), (BK K 32 [SN, SN, SN, SN]), (d 3), (d 7), (d 11), (BK q 32 [SL y G t, SL z H u, SL B I x, SL Y C.2 X]), a4, an] ∧ Sat Tryz.f88.ntmps [(1, pB n 0), (2, pB K 0), (3, pB q 0), (4, iv C.1)] a) d7 (fun a ha => ⟨V, U, am, a3, bo, de.pk [0, 1, 2, 3, 4, 7, 5, 6], ha.s⟩) ?_)
  clear hm
  intro C fn hm d4 e0 bu ⟨Y, X, a4, an, cd, be, du⟩
  refine G_use du (QB (MW 2 (wV (SL J c.Cpus L) bu (eL false 1 3 (be.blk 0 rfl)) (MW 2 (NO (GT hm (fun bg hm => ?_) fun bg hm => ?_))))))
  ·refine GK (TN (GS (GB (GD hm fun F d8 hm => ?_))))
   obtain ⟨fo, cf, ce, bh⟩ := id dt
   obtain ⟨m, a7⟩ := gxIdx_fst cf d8
   refine GD hm fun l d5 hm => GU [(1, pB n 0), (2, pB K 0), (3, pB q 0), (4, iv C.1), (23, .bool (decide (C.1 < (c.Cpus.length : Int))))] (DL 9 [[],[0],[],[2],[],[3,4],[5],[6],[7]] [[],[],[],[],[],[],[],[],[7]] (EM 9) (EM 9) (EM 9) (EM 9) (fun _ => []) [QV (pB q 3), QV (.slice Y C.2.length X), QV (pB n 3), QV (.slice J c.Cpus.length L), QV (iv C.1), QV (elemP J (C.1.toNat * 4)), QV (.agg #[iv F.Mask, SL ((m 0).1) F.Stack ((m 0).2), SL ((m 1).1) F.Queue.Slots ((m 1).2), SL ((m 2).1) F.Queue.Waiting ((m 2).2)]), fun f v s => ∃ aj ae Z ak af aa al ag ab, v = (.agg #[iv l.Mask, SL aj l.Stack ae, SL ak l.Queue.Slots af, SL al l.Queue.Waiting ag] : Value) ∧ s = (Z ++ (aa ++ ab)) ∧ ownS Gx.encI l.Stack aj ae Z ∧ ownS encSlot l.Queue.Slots ak af aa ∧ ownS encWaiter l.Queue.Waiting al ag ab, fun f v s => ∃ a0 ap ac ao, v = (.slice a0 [l].length ap : Value) ∧ s = (ac ++ ao) ∧ ownD deepInterface [l] a0 ap ac ao] [] [1, 8] [8] (be.preNil 9) (AC ?_ (AC ?_ (AC ?_ (AC ?_ (AC ?_ (AC ?_ (AC ?_ (AC ?_ (AC ?_ AN))))))))) ?_)
   ·intro ah av R eo df
    exact OM ⟨rfl, rfl⟩ df
   ·rintro ah av v0_ ⟨rfl, _⟩ R ep b3
    exact OV ⟨rfl, rfl⟩ (eL false 1 3 (b3.blk 5 rfl)) b3
   ·intro ah av R er dg
    exact OM ⟨rfl, rfl⟩ dg
   ·rintro ah av v2_ ⟨rfl, _⟩ R es b4
    exact OV ⟨rfl, rfl⟩ (eL false 1 3 (b4.blk 0 rfl)) b4
   ·intro ah av R et dh
    exact OM ⟨rfl, rfl⟩ dh
   ·rintro ah av v3_ ⟨rfl, _⟩
    rintro v4_ ⟨rfl, _⟩ R eu b5
    exact OV ⟨rfl, rfl⟩ (eI (ce.mem0 b5) (len_fst cf) a7) b5
   ·rintro ah av v5_ ⟨rfl, _⟩ R ev b6
    exact OV ⟨rfl, rfl⟩ (eE true 4 0 (C.1.toNat * 4) (ce.mem0 b6) a7) b6
   ·rintro ah av v6_ ⟨rfl, _⟩ R ew a8
    refine WC ((c_s_l10Own ew F ((m 0).1) ((m 0).2) ((bh.mem0 a8).a_ a7 0) ((m 1).1) ((m 1).2) ((bh.mem0 a8).a_ a7 1) ((m 2).1) ((m 2).2) ((bh.mem0 a8).a_ a7 2) d5).mono ?_)
    rintro e_ fk ⟨aj, ae, Z, ak, af, aa, al, ag, ab, rfl, bp, bq, br, ct⟩
    refine ⟨_, rfl, ?_⟩
    exact WN (oE (.agg #[iv l.Mask, SL aj l.Stack ae, SL ak l.Queue.Slots af, SL al l.Queue.Waiting ag]) (Z ++ (aa ++ ab)) ⟨aj, ae, Z, ak, af, aa, al, ag, ab, rfl, rfl, bp, bq, br⟩ (Mem.callMid a8 (ct.permF (by simp))))
   ·intro ah av v7_ hb7_
    obtain ⟨aj, ae, Z, ak, af, aa, al, ag, ab, rfl, hs7_, bp, bq, br⟩ := hb7_
    intro R cq di
    have a9 : Mem [] w cq ([(BK n 32 [SL Q c.Routes N, SL S c.Enabled O, SL T c.Raised P, SL J c.Cpus L]), (BK K 32 [SN, SN, SN, SN]), (d 3), (d 7), (d 11), (BK q 32 [SL y G t, SL z H u, SL B I x, SL Y C.2 X]), a4, an] ++ ([[]] ++ ([(ah 7)] ++ ([] ++ R)))) := di
    rw [hs7_] at a9
    replace a9 : Mem [] w cq ([(BK n 32 [SL Q c.Routes N, SL S c.Enabled O, SL T c.Raised P, SL J c.Cpus L]), (BK K 32 [SN, SN, SN, SN]), (d 3), (d 7), (d 11), (BK q 32 [SL y G t, SL z H u, SL B I x, SL Y C.2 X]), a4, an] ++ ([[]] ++ ([Z, aa, ab] ++ ([] ++ R)))) := a9.permF (by simp)
    exact W_litD (D := deepInterface) [(l, plOf [(aj, ae), (ak, af), (al, ag)])] [l] rfl 1 [iv l.Mask, SL aj l.Stack ae, SL ak l.Queue.Slots af, SL al l.Queue.Waiting ag] 87 a9 (by kernel_rfl) (by kernel_rfl) (by kernel_rfl) (by kernel_rfl) (by kernel_rfl) (ownI_cons (i := ⟨Int, Gx.encI, _, _, _⟩) bp (ownI_cons (i := ⟨Slot, encSlot, _, _, _⟩) bq (ownI_cons (i := ⟨Waiter, encWaiter, _, _, _⟩) br ownI_nil))) fun a0 ap ac fl bs dj => WN (oE (SL a0 [l] ap) (ac ++ (Z ++ (aa ++ (ab ++ [])))) ⟨a0, ap, ac, (Z ++ (aa ++ (ab ++ []))), rfl, rfl, bs⟩ (Mem.midJ (A := [Z, aa, ab]) dj))
   rintro ah av v1_ ⟨rfl, _⟩ v8_ hb8_
   obtain ⟨a0, ap, ac, ao, rfl, hs8_, bs⟩ := hb8_
   intro cr dk
   have a6 : Mem [] w cr [(BK n 32 [SL Q c.Routes N, SL S c.Enabled O, SL T c.Raised P, SL J c.Cpus L]), (BK K 32 [SN, SN, SN, SN]), (d 3), (d 7), (d 11), (BK q 32 [SL y G t, SL z H u, SL B I x, SL Y C.2 X]), a4, an, ac, ao] := dk.permF (by simp [hs8_, SL])
   refine GD hm fun bf dz hm => ?_
   obtain ⟨ez, d9, d6, d0⟩ := id bs
   refine W_appendD (D := deepInterface) (us := ez) (s2 := ao) _ _ _ 80 [iv 0, SN, SN, SN] 6 ap a6 cd (by kernel_rfl) (by kernel_rfl) (by kernel_rfl) rfl (by kernel_rfl) (by kernel_rfl) (by kernel_rfl) (by kernel_rfl) (by kernel_rfl) (by kernel_rfl) (d6.r a6 8) d9 d0 dz ?_
   intro bb ba bt bv d3 dl
   have dm : Mem [] w bv [(BK n 32 [SL Q c.Routes N, SL S c.Enabled O, SL T c.Raised P, SL J c.Cpus L]), (BK K 32 [SN, SN, SN, SN]), (d 3), (d 7), (d 11), (BK q 32 [SL y G t, SL z H u, SL B I x, SL Y C.2 X]), bt, ac, an, ao] := dl.pk [0, 1, 2, 3, 4, 5, 6, 8, 7, 9]
   have dn : Mem [] w bv [(BK n 32 [SL Q c.Routes N, SL S c.Enabled O, SL T c.Raised P, SL J c.Cpus L]), (BK K 32 [SN, SN, SN, SN]), (d 3), (d 7), (d 11), (BK q 32 [SL y G t, SL z H u, SL B I x, SL Y C.2 X]), bt, ac, (an ++ ao)] := dm.regroup (by simp)
   refine MW 1 (wS false 1 3 (SL bb bf ba) 5 [SL y G t, SL z H u, SL B I x, SL bb bf ba] dn rfl fun ex dp => NG (MW 3 (WN ?_)))
   cases hm
   exact N_loop fun a ha => ⟨_, rfl, bb, ba, bt, (an ++ ao), d3, dp.pk [0, 1, 2, 3, 4, 5, 6, 8], ha.s⟩
  refine XA ?_
  obtain rfl := HS hm
  obtain rfl := d4 _ rfl
  exact NM fun a ha => ⟨Y, X, a4, an, cd, be.pk [1, 2, 3, 4, 5, 6, 7], ha.s⟩
 intro e1 ey ⟨ai, ad, bc, bd, d2, b7, dv⟩
 refine N_use dv ?_
 have hm := d1
 refine NF (wV (.agg #[SL y G t, SL z H u, SL B I x, SL ai aw ad]) ey (eL true 4 0 (b7.blk 4 rfl)) (wS true 4 0 (.agg #[SL y G t, SL z H u, SL B I x, SL ai aw ad]) 0 [SL y G t, SL z H u, SL B I x, SL ai aw ad] b7 rfl fun fm b8 => NC ?_))
 obtain rfl := HS hm
 exact N_ret [.agg #[SL y G t, SL z H u, SL B I x, SL ai aw ad]] (RX true 4 0 (b8.blk 0 rfl) RVs_nil) (⟨y, t, (d 3), z, u, (d 7), B, x, (d 11), ai, ad, bc, bd, rfl, bj, bl, bn, d2, b8.pk [1, 2, 3, 5, 6]⟩)
theorem c_s_l8With (w : World) (g : List Slot) (j i) (z : rdS encSlot w g j i) (b : Int) (a : Slot) {r : (List Slot)} (hm : M.s_l8With g b a = some r) :
  Calls Tryz.prog 251 #[SL j g i, iv b, .agg #[iv a.State, iv a.Irq, iv a.Priority]] w fun e w' => ∃ t n u, e = .returned (SL t r n) ∧ ownS encSlot r t n u ∧ Mem [] w w' [u] := by
 unfold M.s_l8With at hm
 refine cE Tryz.func251 ?_
 have M0 := Mem.refl [] w
 refine QA (wN (CE 117 [iv a.State, iv a.Irq, iv a.Priority]) M0 fun h G v => MW 1 (NA (wL (E := encSlot) ([] : List Slot) 0 [] 117 v fun D y K H B m => MW 1 (GD hm fun c A hm => wA 24 [iv 0, iv 0, iv 0] 1 m B (z.mem0 m) A fun d f L k o l => MW 1 (NA (MW 2 (wV (.agg #[iv a.State, iv a.Irq, iv a.Priority]) k (eL true 3 0 (l.blk 0 rfl)) (GD hm fun J q hm => wV (elemP d (b.toNat * 3)) k (eI (o.r l 1) rfl q) (wE true 3 b.toNat 0 (b.toNat * 3) J a (.agg #[iv a.State, iv a.Irq, iv a.Priority]) 1 l o (gxIdx_spec q).2 fun I F C x => LX 7 d f c b.toNat a (LX 11 d f c b.toNat a (NA (MW 2 (NC ?_)))))))))))))
 cases hm
 exact RA [SL d (c.set b.toNat a) f] (⟨d, f, F, rfl, C, x.pk [1]⟩)
theorem c_s_l8Put (w : World) (c : List Slot) (b d) (l : rdS encSlot w c b d) (g : Int) (i : Int) {r : (List Slot) × Bool} (hm : M.s_l8Put c g i = some r) :
  Calls Tryz.prog 223 #[SL b c d, iv g, iv i] w fun e w' => ∃ L J P, e = .returned (.tuple #[SL L r.1 J, .bool r.2]) ∧ ownS encSlot r.1 L J P ∧ Mem [] w w' [P] := by
 unfold M.s_l8Put at hm
 refine cE Tryz.func223 ?_
 have M0 := Mem.refl [] w
 refine QA (MW 2 (NB (MW 2 (GD hm fun h af hm => WD (c_s_l8Find w c b d (l.mem0 M0) g af) M0 fun k n => MW 1 (NA (MW 2 (NO (GT hm (fun B hm => ?_) fun B hm => ?_))))))))
 ·refine QA (MW 2 (GD hm fun f K hm => wV (elemP b (h.toNat * 3)) k (eI (l.mem0 n) rfl K) (wV (.agg #[iv f.State, iv f.Irq, iv f.Priority]) k (eE true 3 0 (h.toNat * 3) (l.mem0 n) K) (wN (CE 117 [iv 0, iv 0, iv 0]) n fun j aq U => wS true 3 0 (.agg #[iv f.State, iv f.Irq, iv f.Priority]) 0 [iv f.State, iv f.Irq, iv f.Priority] U rfl fun q u => NB (MW 1 (wV (iv f.State) q (eL false 1 0 (u.blk 0 rfl)) (MW 1 (NO (GD hm fun o ab aa => G_meet (fun a w' => Mem [] w w' [(BK j 117 [iv o, iv f.Irq, iv f.Priority])] ∧ Sat Tryz.f223.ntmps [(0, SL b c d), (8, iv h), (9, pB j 0)] a) ?_ ?_)))))))))
  ·have hm := ab
   refine GT hm (fun C hm => ?_) fun C hm => ?_
   ·refine GR (MW 1 (wS false 1 0 (iv 3) 0 [iv 3, iv f.Irq, iv f.Priority] u rfl fun ar V => WN ?_))
    obtain rfl := HS hm
    exact NM fun a ha => ⟨V.pk [0], ha.s⟩
   refine GK ?_
   obtain rfl := HS hm
   exact NM fun a ha => ⟨u.pk [0], ha.s⟩
  intro ap I ⟨v, Z⟩
  refine N_use Z ?_
  have hm := aa
  refine NF (MW 2 (wV (.agg #[iv o, iv f.Irq, iv f.Priority]) I (eL true 3 0 (v.blk 0 rfl)) (GD hm fun N ag hm => WC ((c_s_l8With I c b d (l.mem0 v) h (⟨o, f.Irq, f.Priority⟩ : Slot) ag).mono ?_))))
  rintro e_ am ⟨F, y, aj, rfl, ac, R⟩
  have W := v.call R
  refine ⟨_, rfl, ?_⟩
  refine wR 2 [(6, SL F N y), (7, .bool true)] am (ND ?_)
  cases hm
  exact RA [SL F N y, .bool true] (⟨F, y, aj, rfl, ac, W.pk [1]⟩)
 refine KA (MW 1 (GD hm fun m ah hm => WD (c_s_l8Free k c b d (l.mem0 n) ah) n fun t x => MW 1 (NB (MW 2 (NO (GT hm (fun D hm => ?_) fun D hm => ?_))))))
 ·refine QA (wL (E := encSlot) ([] : List Slot) 0 [] 117 x fun G z ak an ad X => MW 2 (ND ?_))
  cases hm
  exact RA [SL G ([] : List Slot) z, .bool false] (⟨G, z, ak, rfl, ad, X.pk [0]⟩)
 refine KA (MW 5 (GD hm fun O ai hm => WC ((c_s_l8With t c b d (l.mem0 x) m (⟨1, g, i⟩ : Slot) ai).mono ?_)))
 rintro e_ ao ⟨H, A, al, rfl, ae, T⟩
 have Y := x.call T
 refine ⟨_, rfl, ?_⟩
 refine MW 2 (NC ?_)
 cases hm
 exact RA [SL H O A, .bool true] (⟨H, A, al, rfl, ae, Y.pk [0]⟩)
theorem c_s_l9Settle (w : World) (H : Queue) (X U) (cl : rdS encSlot w H.Slots X U) (Y V) (cm : rdS encWaiter w H.Waiting Y V) {r : Queue} (hm : M.s_l9Settle H = some r) :
  Calls Tryz.prog 224 #[.agg #[SL X H.Slots U, SL Y H.Waiting V]] w fun e w' => ∃ bn bh bq bo bi br, e = .returned (.agg #[SL bn r.Slots bh, SL bo r.Waiting bi]) ∧ ownS encSlot r.Slots bn bh bq ∧ ownS encWaiter r.Waiting bo bi br ∧ Mem [] w w' [bq, br] := by
 unfold M.s_l9Settle at hm
 refine cE Tryz.func224 ?_
 have M0 := Mem.refl [] w
 refine QA (wN (CE 85 [SL X H.Slots U, SL Y H.Waiting V]) M0 fun d5 d7 b3 => wN (CE 85 [SN, SN]) b3 fun q bt af => NA (wV (.agg #[SL X H.Slots U, SL Y H.Waiting V]) bt (eL true 2 0 (af.blk 0 rfl)) (GD hm fun al c4 hm => WC ((c_s_l9Own bt H X U (cl.mem0 af) Y V (cm.mem0 af) c4).mono ?_))))
 rintro e_ d8 ⟨a0, au, de, a3, av, df, rfl, cu, cv, bw⟩
 have b4 := af.call bw
 refine ⟨_, rfl, ?_⟩
 refine wN (CE 85 [SN, SN]) b4 fun l d9 b5 => wS true 2 0 (.agg #[SL a0 al.Slots au, SL a3 al.Waiting av]) 4 [SL a0 al.Slots au, SL a3 al.Waiting av] b5 rfl fun ea b6 => NE (GD hm fun u da ct => G_meet (fun a w' => ∃ N I an O J ao, ownS encSlot u.1 N I an ∧ ownS encWaiter u.2 O J ao ∧ Mem [] w w' [(BK q 85 [SN, SN]), (BK l 85 [SL N u.1 I, SL O u.2 J]), an, ao] ∧ Sat Tryz.f224.ntmps [(2, pB q 0), (3, pB l 0)] a) ?_ ?_)
 ·refine GB (G_while (σ := List Slot × List Waiter) (ρ := List Slot × List Waiter) (fun d a w' => ∃ c n Z G F aa, ownS encSlot d.1 c n Z ∧ ownS encWaiter d.2 G F aa ∧ Mem [] w w' [(BK q 85 [SN, SN]), (BK l 85 [SL c d.1 n, SL G d.2 F]), Z, aa] ∧ Sat Tryz.f224.ntmps [(2, pB q 0), (3, pB l 0)] a) da (fun a ha => ⟨a0, au, de, a3, av, df, cu, cv, b6.pk [1, 4, 2, 3], ha.s⟩) ?_)
  clear hm
  intro d ef hm c3 d2 bu ⟨c, n, Z, G, F, aa, L, W, ag, cn⟩
  refine G_use cn (QB (wV (.agg #[SL c d.1 n, SL G d.2 F]) bu (eL true 2 0 (ag.blk 1 rfl)) (GD hm fun dc c5 hm => WD (c_s_l9Settled bu (⟨d.1, d.2⟩ : Queue) c n (L.r ag 2) G F (W.r ag 3) c5) ag fun ad ab => MW 1 (NO (GT hm (fun aw hm => ?_) fun aw hm => ?_)))))
  ·refine GK (TN (GB (QA (MW 1 (wV (SL G d.2 F) ad (eL false 1 1 (ab.blk 1 rfl)) (GD hm fun t bl hm => wV (elemP G ((0 : Int).toNat * 2)) ad (eI (W.r ab 3) rfl bl) (wV (.agg #[iv t.Irq, iv t.Priority]) ad (eE true 2 0 ((0 : Int).toNat * 2) (W.r ab 3) bl) (wN (CE 142 [iv 0, iv 0]) ab fun x eb b7 => wS true 2 0 (.agg #[iv t.Irq, iv t.Priority]) 4 [iv t.Irq, iv t.Priority] b7 rfl fun ec b8 => NA (wL (E := encWaiter) ([] : List Waiter) 0 [] 142 b8 fun db ck d6 a5 cy ah => MW 1 (wV (SL G d.2 F) a5 (eL false 1 1 (ah.blk 1 rfl)) (GD hm fun d1 bm hm => wV (SL (subP G (1 : Int).toNat F 2) d1 (F - (1 : Int).toNat)) a5 (E_slice (E := encWaiter) _ _ _ _ d.2.length 1 (d.2.length : Int) rfl (by kernel_rfl) (Or.inr ⟨_, rfl, by kernel_rfl⟩) (Or.inl ⟨rfl, rfl⟩) (by kernel_rfl) (W.r ah 3) rfl bm) (GD hm fun D cq hm => wA 16 [iv 0, iv 0] 5 ah cy ((W.r ah 3).sliceM bm) cq fun C z bs aq bk ar => MW 1 (NA (MW 1 (wV (SL c d.1 n) aq (eL false 1 0 (ar.blk 1 rfl)) (GD hm fun am c6 hm => WD (c_s_l8Free aq d.1 c n (L.r ar 2) c6) ar fun ae ai => MW 1 (NB (MW 2 (NO (GD hm fun y cz cr => G_meet (fun a w' => ∃ P K ap, ownS encWaiter y.1 P K ap ∧ Mem [] w w' [(BK q 85 [SN, SN]), (BK l 85 [SL c d.1 n, SL G d.2 F]), Z, aa, (BK x 142 [iv t.Irq, iv t.Priority]), ap] ∧ Sat Tryz.f224.ntmps [(2, pB q 0), (3, pB l 0), (4, pB x 0), (5, SL P y.1 K), (6, iv y.2)] a) ?_ ?_))))))))))))))))))))
   ·have hm := cz
    refine GT hm (fun ax hm => ?_) fun ax hm => ?_
    ·refine QA (MW 1 (wV (SL c d.1 n) ae (eL false 1 0 (ai.blk 1 rfl)) (GD hm fun m c7 hm => WD (c_s_l8Best ae d.1 c n (L.r ai 2) false c7) ai fun di b9 => MW 1 (NO (GD hm fun Q ay hm => GD hm fun S az hm => GU [(2, pB q 0), (3, pB l 0), (4, pB x 0), (5, SL C D z), (6, iv m)] (DL 14 [[],[],[1],[],[2,3],[4],[5],[],[7],[],[8,9],[10],[11],[6,12]] (EM 14) (EM 14) (EM 14) (EM 14) (EM 14) (fun _ => []) [QV (.slice C D.length z), QV (pB l 0), QV (.slice c d.1.length n), QV (iv m), QV (elemP c (m.toNat * 3)), QV (elemP c (m.toNat * 3 + 1)), QV (iv Q.Irq), QV (pB l 0), QV (.slice c d.1.length n), QV (iv m), QV (elemP c (m.toNat * 3)), QV (elemP c (m.toNat * 3 + 2)), QV (iv S.Priority), QV (.agg #[iv Q.Irq, iv S.Priority])] [] [0, 13] [] (b9.preNil 14) (AC ?_ (AC ?_ (AC ?_ (AC ?_ (AC ?_ (AC ?_ (AC ?_ (AC ?_ (AC ?_ (AC ?_ (AC ?_ (AC ?_ (AC ?_ (AC ?_ AN)))))))))))))) ?_))))))
     ·intro B A R dj ca
      exact OM ⟨rfl, rfl⟩ ca
     ·intro B A R dk cb
      exact OM ⟨rfl, rfl⟩ cb
     ·rintro B A v1_ ⟨rfl, _⟩ R dl a6
      exact OV ⟨rfl, rfl⟩ (eL false 1 0 (a6.blk 1 rfl)) a6
     ·intro B A R dm cc
      exact OM ⟨rfl, rfl⟩ cc
     ·rintro B A v2_ ⟨rfl, _⟩
      rintro v3_ ⟨rfl, _⟩ R dn a7
      exact OV ⟨rfl, rfl⟩ (eI (L.r a7 2) rfl ay) a7
     ·rintro B A v4_ ⟨rfl, _⟩ R dp a8
      exact OV ⟨rfl, rfl⟩ (eF 1 (m.toNat * 3) 1 (L.r a8 2) ay) a8
     ·rintro B A v5_ ⟨rfl, _⟩ R dq a9
      exact OV ⟨rfl, rfl⟩ (eE false 1 1 (m.toNat * 3 + 1) (L.r a9 2) ay) a9
     ·intro B A R dr cd
      exact OM ⟨rfl, rfl⟩ cd
     ·rintro B A v7_ ⟨rfl, _⟩ R ds ba
      exact OV ⟨rfl, rfl⟩ (eL false 1 0 (ba.blk 1 rfl)) ba
     ·intro B A R dt ce
      exact OM ⟨rfl, rfl⟩ ce
     ·rintro B A v8_ ⟨rfl, _⟩
      rintro v9_ ⟨rfl, _⟩ R du bb
      exact OV ⟨rfl, rfl⟩ (eI (L.r bb 2) rfl az) bb
     ·rintro B A v10_ ⟨rfl, _⟩ R dv bc
      exact OV ⟨rfl, rfl⟩ (eF 2 (m.toNat * 3) 2 (L.r bc 2) az) bc
     ·rintro B A v11_ ⟨rfl, _⟩ R dw bd
      exact OV ⟨rfl, rfl⟩ (eE false 1 2 (m.toNat * 3 + 2) (L.r bd 2) az) bd
     ·rintro B A v6_ ⟨rfl, _⟩
      rintro v12_ ⟨rfl, _⟩ R dx cf
      exact OM ⟨rfl, rfl⟩ cf
     rintro B A v0_ ⟨rfl, _⟩
     rintro v13_ ⟨rfl, _⟩ bv cg
     have be : Mem [] w bv [(BK q 85 [SN, SN]), (BK l 85 [SL c d.1 n, SL G d.2 F]), Z, aa, (BK x 142 [iv t.Irq, iv t.Priority]), bs] := cg
     refine GD hm fun dd c8 hm => WC ((c_s_l9Wait bv D C z (bk.r be 5) (⟨Q.Irq, S.Priority⟩ : Waiter) c8).mono ?_)
     rintro e_ dy ⟨bp, bj, dg, rfl, c1, b1⟩
     have ch := be.call b1
     refine ⟨_, rfl, ?_⟩
     refine MW 1 (WN ?_)
     obtain rfl := HS hm
     exact NM fun a ha => ⟨bp, bj, dg, c1, ch.pk [0, 1, 2, 3, 4, 6], ha.s⟩
    refine GK ?_
    obtain rfl := HS hm
    exact NM fun a ha => ⟨C, z, bs, bk, ai.pk [0, 1, 2, 3, 4, 5], ha.s⟩
   intro d3 T ⟨P, K, ap, c0, ac, co⟩
   refine N_use co ?_
   have hm := cr
   refine TN (GR (MW 1 (wV (SL c d.1 n) T (eL false 1 0 (ac.blk 1 rfl)) (MW 2 (wV (iv t.Irq) T (eL false 1 0 (ac.blk 4 rfl)) (MW 1 (wV (iv t.Priority) T (eL false 1 1 (ac.blk 4 rfl)) (wR 1 [(2, pB q 0), (3, pB l 0), (5, SL P y.1 K), (45, SL c d.1 n), (46, iv y.2), (51, .agg #[iv 1, iv t.Irq, iv t.Priority])] T (GD hm fun a4 c9 hm => WC ((c_s_l8With T d.1 c n (L.r ac 2) y.2 (⟨1, t.Irq, t.Priority⟩ : Slot) c9).mono ?_))))))))))
   rintro e_ dz ⟨ak, aj, dh, rfl, c2, b2⟩
   have ci := ac.call b2
   refine ⟨_, rfl, ?_⟩
   refine MW 2 (wS true 2 0 (.agg #[SL ak a4 aj, SL P y.1 K]) 1 [SL ak a4 aj, SL P y.1 K] ci rfl fun ed cj => WN (BN ?_))
   cases hm
   exact N_loop fun a ha => ⟨_, rfl, ak, aj, dh, P, K, ap, c2, c0, cj.pk [0, 1, 6, 5], ha.s⟩
  refine XA ?_
  obtain rfl := HS hm
  obtain rfl := c3 _ rfl
  exact NM fun a ha => ⟨c, n, Z, G, F, aa, L, W, ab.pk [0, 1, 2, 3], ha.s⟩
 intro d4 d0 ⟨N, I, an, O, J, ao, cw, cx, bf, cp⟩
 refine N_use cp ?_
 have hm := ct
 refine NF (wV (.agg #[SL N u.1 I, SL O u.2 J]) d0 (eL true 2 0 (bf.blk 1 rfl)) (wS true 2 0 (.agg #[SL N u.1 I, SL O u.2 J]) 0 [SL N u.1 I, SL O u.2 J] bf rfl fun ee bg => NC ?_))
 obtain rfl := HS hm
 exact N_ret [.agg #[SL N u.1 I, SL O u.2 J]] (RX true 2 0 (bg.blk 0 rfl) RVs_nil) (⟨N, I, an, O, J, ao, rfl, cw, cx, bg.pk [2, 3]⟩)
theorem c_s_l9Has (w : World) (d : List Waiter) (c f) (j : rdS encWaiter w d c f) (g : Int) {r : Int} (hm : M.s_l9Has d g = some r) :
  Calls Tryz.prog 225 #[SL c d f, iv g] w fun e w' => e = .returned (iv r) ∧ Mem [] w w' [] := by
 unfold M.s_l9Has at hm
 refine cE Tryz.func225 ?_
 have M0 := Mem.refl [] w
 refine QA (MW 1 (NB (MW 1 (NO (GD hm fun z y n => G_meet (fun a w' => ∃ (q : Unit), z = .inl q ∧ Mem [] w w' [] ∧ Sat Tryz.f225.ntmps [] a) ?_ ?_)))))
 ·refine GB (G_while (σ := Int) (ρ := (Unit) ⊕ (Int)) (fun b a w' => Mem [] w w' [] ∧ Sat Tryz.f225.ntmps [(0, SL c d f), (1, iv g), (5, iv b)] a) y (fun a ha => ⟨M0.pk [], ha.s⟩) ?_)
  clear hm
  intro b D hm o B h ⟨i, v⟩
  refine G_use v (QB (MW 4 (NO (GT hm (fun k hm => ?_) fun k hm => ?_))))
  ·refine KD (MW 2 (GD hm fun t m hm => wV (elemP c (b.toNat * 2)) h (eI (j.mem0 i) rfl m) (wV (elemP c (b.toNat * 2 + 0)) h (eF 0 (b.toNat * 2) 0 (j.mem0 i) m) (wV (iv t.Irq) h (eE false 1 0 (b.toNat * 2 + 0) (j.mem0 i) m) (MW 2 (NO (GT hm (fun l hm => ?_) fun l hm => ?_)))))))
   ·refine QA (MW 2 (NX ?_))
    obtain rfl := HS hm
    obtain rfl := o _ rfl
    have hm := n; simp only [Sum.elim_inr] at hm
    refine BR (N_meet_ret (TR ?_))
    obtain rfl := HS hm
    exact RA [iv b] (⟨rfl, i.pk []⟩)
   refine KC (MW 3 (WN ?_))
   cases hm
   exact N_loop fun a ha => ⟨_, rfl, i.pk [], ha.s⟩
  refine XA ?_
  obtain rfl := HS hm
  obtain rfl := o _ rfl
  exact NM fun a ha => ⟨_, rfl, i.pk [], ha.s⟩
 intro C A ⟨q, hout_, u, x⟩
 refine N_use x ?_
 subst hout_
 have hm := n; simp only [Sum.elim_inl] at hm
 refine NF (wR 1 [(4, iv (-1))] A (NC ?_))
 cases hm
 exact RA [iv (-1)] (⟨rfl, u.pk []⟩)
theorem c_s_l9Offer (w : World) (a : Queue) (n m) (ab : rdS encSlot w a.Slots n m) (t q) (ac : rdS encWaiter w a.Waiting t q) (c : Int) (l : Int) {r : Queue} (hm : M.s_l9Offer a c l = some r) :
  Calls Tryz.prog 172 #[.agg #[SL n a.Slots m, SL t a.Waiting q], iv c, iv l] w fun e w' => ∃ av ar ay aw au az, e = .returned (.agg #[SL av r.Slots ar, SL aw r.Waiting au]) ∧ ownS encSlot r.Slots av ar ay ∧ ownS encWaiter r.Waiting aw au az ∧ Mem [] w w' [ay, az] := by
 unfold M.s_l9Offer at hm
 refine cE Tryz.func172 ?_
 have M0 := Mem.refl [] w
 refine QA (wN (CE 85 [SL n a.Slots m, SL t a.Waiting q]) M0 fun d cf a9 => wN (CE 85 [SN, SN]) a9 fun u ad ae => NB (MW 1 (wV (SL n a.Slots m) ad (eL false 1 0 (ae.blk 0 rfl)) (MW 1 (GD hm fun bx bq hm => WD (c_s_l8Find ad a.Slots n m (ab.mem0 ae) c bq) ae fun D U => MW 1 (NO (GT hm (fun ag hm => ?_) fun ag hm => ?_)))))))
 ·refine QA (MW 1 (wV (SL n a.Slots m) D (eL false 1 0 (U.blk 0 rfl)) (MW 2 (GD hm fun Y br hm => WC ((c_s_l8Put D a.Slots n m (ab.mem0 U) c l br).mono ?_)))))
  rintro e_ Z ⟨X, W, ce, rfl, bj, a3⟩
  have aa := U.call a3
  refine ⟨_, rfl, ?_⟩
  refine MW 5 (NA (MW 2 (wV (SL t a.Waiting q) Z (eL false 1 1 (aa.blk 0 rfl)) (MW 1 (GD hm fun z bs hm => WC ((c_s_l9Settle Z (⟨Y.1, a.Waiting⟩ : Queue) X W (bj.r aa 2) t q (ac.mem0 aa) bs).mono ?_))))))
  rintro e_ cg ⟨N, G, bz, O, H, b0, rfl, bk, bl, a4⟩
  have ba := aa.call a4
  refine ⟨_, rfl, ?_⟩
  refine wS true 2 0 (.agg #[SL N z.Slots G, SL O z.Waiting H]) 1 [SL N z.Slots G, SL O z.Waiting H] ba rfl fun ch al => ND ?_
  obtain rfl := HS hm
  exact N_ret [.agg #[SL N z.Slots G, SL O z.Waiting H]] (RX true 2 0 (al.blk 1 rfl) RVs_nil) (⟨N, G, bz, O, H, b0, rfl, bk, bl, al.pk [3, 4]⟩)
 refine KB (MW 1 (wV (SL t a.Waiting q) D (eL false 1 1 (U.blk 0 rfl)) (MW 1 (GD hm fun ax bt hm => WD (c_s_l9Has D a.Waiting t q (ac.mem0 U) c bt) U fun aj V => wR 1 [(1, iv c), (2, iv l), (3, pB d 0), (6, pB u 0), (31, .bool (decide (ax ≥ 0)))] aj (NO (GT hm (fun ah hm => ?_) fun ah hm => ?_))))))
 ·refine QA (wV (.agg #[SL n a.Slots m, SL t a.Waiting q]) aj (eL true 2 0 (V.blk 0 rfl)) (GD hm fun A bu hm => WC ((c_s_l9Settle aj a n m (ab.mem0 V) t q (ac.mem0 V) bu).mono ?_)))
  rintro e_ ci ⟨P, I, b1, Q, J, b2, rfl, bm, bn, a6⟩
  have bb := V.call a6
  refine ⟨_, rfl, ?_⟩
  refine wS true 2 0 (.agg #[SL P A.Slots I, SL Q A.Waiting J]) 1 [SL P A.Slots I, SL Q A.Waiting J] bb rfl fun cj am => ND ?_
  obtain rfl := HS hm
  exact N_ret [.agg #[SL P A.Slots I, SL Q A.Waiting J]] (RX true 2 0 (am.blk 1 rfl) RVs_nil) (⟨P, I, b1, Q, J, b2, rfl, bm, bn, am.pk [2, 3]⟩)
 refine GK (TN (GS (GD hm fun F bv hm => GU [(1, iv c), (2, iv l), (3, pB d 0), (6, pB u 0), (31, .bool (decide (ax ≥ 0)))] (DL 8 [[],[0],[],[2],[],[],[4,5],[3,6]] (EM 8) (EM 8) (EM 8) (EM 8) (EM 8) (fun _ => []) [QV (pB d 0), QV (.slice n a.Slots.length m), QV (pB d 1), QV (.slice t a.Waiting.length q), QV (iv c), QV (iv l), QV (.agg #[iv c, iv l]), fun f v s => ∃ y x, v = (.slice y F.length x : Value) ∧ ownS encWaiter F y x s] [] [1, 7] [7] (V.preNil 8) (AC ?_ (AC ?_ (AC ?_ (AC ?_ (AC ?_ (AC ?_ (AC ?_ (AC ?_ AN)))))))) ?_))))
 ·intro C E R b6 bc
  exact OM ⟨rfl, rfl⟩ bc
 ·rintro C E v0_ ⟨rfl, _⟩ R b7 an
  exact OV ⟨rfl, rfl⟩ (eL false 1 0 (an.blk 0 rfl)) an
 ·intro C E R b8 bd
  exact OM ⟨rfl, rfl⟩ bd
 ·rintro C E v2_ ⟨rfl, _⟩ R b9 ao
  exact OV ⟨rfl, rfl⟩ (eL false 1 1 (ao.blk 0 rfl)) ao
 ·intro C E R ca be
  exact OM ⟨rfl, rfl⟩ be
 ·intro C E R cb bf
  exact OM ⟨rfl, rfl⟩ bf
 ·rintro C E v4_ ⟨rfl, _⟩
  rintro v5_ ⟨rfl, _⟩ R cc bg
  exact OM ⟨rfl, rfl⟩ bg
 ·rintro C E v3_ ⟨rfl, _⟩
  rintro v6_ ⟨rfl, _⟩ R cd ap
  refine WC ((c_s_l9Wait cd a.Waiting t q (ac.mem0 ap) (⟨c, l⟩ : Waiter) bv).mono ?_)
  rintro e_ ck ⟨y, x, b3, rfl, ai, a7⟩
  refine ⟨_, rfl, ?_⟩
  exact WN (oE (SL y F x) b3 ⟨y, x, rfl, ai⟩ (Mem.callMid ap a7))
 rintro C E v1_ ⟨rfl, _⟩ v7_ hb7_
 obtain ⟨y, x, rfl, ai⟩ := hb7_
 intro ak bh
 have af : Mem [] w ak [(BK d 85 [SL n a.Slots m, SL t a.Waiting q]), (BK u 85 [SN, SN]), (C 7)] := bh
 refine MW 1 (GD hm fun B bw hm => WC ((c_s_l9Settle ak (⟨a.Slots, F⟩ : Queue) n m (ab.mem0 af) y x (ai.r af 2) bw).mono ?_))
 rintro e_ cl ⟨S, K, b4, T, L, b5, rfl, bo, bp, a8⟩
 have bi := af.call a8
 refine ⟨_, rfl, ?_⟩
 refine wS true 2 0 (.agg #[SL S B.Slots K, SL T B.Waiting L]) 1 [SL S B.Slots K, SL T B.Waiting L] bi rfl fun cm aq => NC ?_
 obtain rfl := HS hm
 exact N_ret [.agg #[SL S B.Slots K, SL T B.Waiting L]] (RX true 2 0 (aq.blk 1 rfl) RVs_nil) (⟨S, K, b4, T, L, b5, rfl, bo, bp, aq.pk [3, 4]⟩)
theorem c_s_l10Raise (w : World) (a : Interface) (B y) (ar : rdS Gx.encI w a.Stack B y) (C z) (au : rdS encSlot w a.Queue.Slots C z) (D A) (av : rdS encWaiter w a.Queue.Waiting D A) (I : Int) (J : Int) {r : Interface} (hm : M.s_l10Raise a I J = some r) :
  Calls Tryz.prog 132 #[.agg #[iv a.Mask, SL B a.Stack y, SL C a.Queue.Slots z, SL D a.Queue.Waiting A], iv I, iv J] w fun e w' => ∃ ab Y ae ac Z af ad aa ag, e = .returned (.agg #[iv r.Mask, SL ab r.Stack Y, SL ac r.Queue.Slots Z, SL ad r.Queue.Waiting aa]) ∧ ownS Gx.encI r.Stack ab Y ae ∧ ownS encSlot r.Queue.Slots ac Z af ∧ ownS encWaiter r.Queue.Waiting ad aa ag ∧ Mem [] w w' [ae, af, ag] := by
 unfold M.s_l10Raise at hm
 refine cE Tryz.func132 ?_
 have M0 := Mem.refl [] w
 refine QA (wN (CE 87 [iv a.Mask, SL B a.Stack y, SL C a.Queue.Slots z, SL D a.Queue.Waiting A]) M0 fun u bb aj => wN (CE 87 [iv 0, SN, SN, SN]) aj fun K bc ak => NE (GD hm fun E aw hm => GD hm fun c ax hm => GU [(0, .agg #[iv a.Mask, SL B a.Stack y, SL C a.Queue.Slots z, SL D a.Queue.Waiting A]), (1, iv I), (2, iv J), (3, pB u 0), (6, pB K 0)] (DL 10 [[],[0],[],[2],[3],[],[5],[],[],[6,7,8]] (EM 10) (EM 10) (EM 10) (EM 10) (EM 10) (fun _ => []) [QV (pB u 0), QV (iv a.Mask), QV (pB u 1), QV (.slice B a.Stack.length y), fun f v s => ∃ n d, v = (.slice n E.length d : Value) ∧ ownS Gx.encI E n d s, QV (pB u 2), QV (.agg #[SL C a.Queue.Slots z, SL D a.Queue.Waiting A]), QV (iv I), QV (iv J), fun f v s => ∃ q l F t m G, v = (.agg #[SL q c.Slots l, SL t c.Waiting m] : Value) ∧ s = (F ++ G) ∧ ownS encSlot c.Slots q l F ∧ ownS encWaiter c.Waiting t m G] [] [1, 4, 9] [4, 9] (ak.preNil 10) (AC ?_ (AC ?_ (AC ?_ (AC ?_ (AC ?_ (AC ?_ (AC ?_ (AC ?_ (AC ?_ (AC ?_ AN)))))))))) ?_)))
 ·intro x H R az al
  exact OM ⟨rfl, rfl⟩ al
 ·rintro x H v0_ ⟨rfl, _⟩ R a0 T
  exact OV ⟨rfl, rfl⟩ (eL false 1 0 (T.blk 0 rfl)) T
 ·intro x H R a3 am
  exact OM ⟨rfl, rfl⟩ am
 ·rintro x H v2_ ⟨rfl, _⟩ R a4 U
  exact OV ⟨rfl, rfl⟩ (eL false 1 1 (U.blk 0 rfl)) U
 ·rintro x H v3_ ⟨rfl, _⟩ R a5 V
  refine WC ((c_s_l1Own a5 a.Stack B y (ar.mem0 V) aw).mono ?_)
  rintro e_ bd ⟨n, d, ay, rfl, O, ah⟩
  refine ⟨_, rfl, ?_⟩
  exact WN (oE (SL n E d) ay ⟨n, d, rfl, O⟩ (Mem.callMid V ah))
 ·intro x H R a6 an
  exact OM ⟨rfl, rfl⟩ an
 ·rintro x H v5_ ⟨rfl, _⟩ R a7 W
  exact OV ⟨rfl, rfl⟩ (eL true 2 2 (W.blk 0 rfl)) W
 ·intro x H R a8 ao
  exact OM ⟨rfl, rfl⟩ ao
 ·intro x H R a9 ap
  exact OM ⟨rfl, rfl⟩ ap
 ·rintro x H v6_ ⟨rfl, _⟩
  rintro v7_ ⟨rfl, _⟩
  rintro v8_ ⟨rfl, _⟩ R ba N
  refine WC ((c_s_l9Offer ba a.Queue C z (au.mem0 N) D A (av.mem0 N) I J ax).mono ?_)
  rintro e_ be ⟨q, l, F, t, m, G, rfl, P, Q, ai⟩
  refine ⟨_, rfl, ?_⟩
  exact WN (oE (.agg #[SL q c.Slots l, SL t c.Waiting m]) (F ++ G) ⟨q, l, F, t, m, G, rfl, rfl, P, Q⟩ (Mem.callMid N (ai.permF (by simp))))
 rintro x H v1_ ⟨rfl, _⟩ v4_ hb4_
 obtain ⟨n, d, rfl, O⟩ := hb4_
 intro v9_ hb9_
 obtain ⟨q, l, F, t, m, G, rfl, hs9_, P, Q⟩ := hb9_
 intro S aq
 have L : Mem [] w S [(BK u 87 [iv a.Mask, SL B a.Stack y, SL C a.Queue.Slots z, SL D a.Queue.Waiting A]), (BK K 87 [iv 0, SN, SN, SN]), (x 4), F, G] := aq.permF (by simp [hs9_, SL])
 refine MW 1 (wS true 4 0 (.agg #[iv a.Mask, SL n E d, SL q c.Slots l, SL t c.Waiting m]) 1 [iv a.Mask, SL n E d, SL q c.Slots l, SL t c.Waiting m] L rfl fun bf X => NC ?_)
 obtain rfl := HS hm
 exact N_ret [.agg #[iv a.Mask, SL n E d, SL q c.Slots l, SL t c.Waiting m]] (RX true 4 0 (X.blk 1 rfl) RVs_nil) (⟨n, d, (x 4), q, l, F, t, m, G, rfl, O, P, Q, X.pk [2, 3, 4]⟩)
end Go.Proofs.YtllhajkgkghhdaaGreat
set_option linter.unusedVariables false
set_option linter.unusedSimpArgs false
set_option maxRecDepth 100000
set_option maxHeartbeats 4000000
namespace Go.Proofs.YtllhajkgkghhdaaGreat
open Go.Gx
theorem c_s_l21Sync (w : World) (d : Machine) (A F) (ak : rdS encRoute w d.Routes A F) (O Q) (bf : rdS Gx.encB w d.Enabled O Q) (P S) (bg : rdS Gx.encB w d.Raised P S) (L T) (b9 : rdD deepInterface w d.Cpus L T) {r : Machine} (hm : M.s_l21Sync d = some r) :
  Calls Tryz.prog 76 #[.agg #[SL A d.Routes F, SL O d.Enabled Q, SL P d.Raised S, SL L d.Cpus T]] w fun e w' => ∃ ce b5 ci cf b6 cj cg b7 ck ch b8 cl cm, e = .returned (.agg #[SL ce r.Routes b5, SL cf r.Enabled b6, SL cg r.Raised b7, SL ch r.Cpus b8]) ∧ ownS encRoute r.Routes ce b5 ci ∧ ownS Gx.encB r.Enabled cf b6 cj ∧ ownS Gx.encB r.Raised cg b7 ck ∧ ownD deepInterface r.Cpus ch b8 cl cm ∧ Mem [] w w' [ci, cj, ck, cl, cm] := by
 unfold M.s_l21Sync at hm
 refine cE Tryz.func76 ?_
 have M0 := Mem.refl [] w
 refine QA (wN (CE 32 [SL A d.Routes F, SL O d.Enabled Q, SL P d.Raised S, SL L d.Cpus T]) M0 fun u fc cu => wN (CE 32 [SN, SN, SN, SN]) cu fun y cn am => NA (wV (.agg #[SL A d.Routes F, SL O d.Enabled Q, SL P d.Raised S, SL L d.Cpus T]) cn (eL true 4 0 (am.blk 0 rfl)) (GD hm fun t d4 hm => WC ((c_s_l21Own cn d A F (ak.mem0 am) O Q (bf.mem0 am) P S (bg.mem0 am) L T (b9.mem0 am) d4).mono ?_))))
 rintro e_ fd ⟨I, G, af, J, H, ag, B, D, ef, x, z, eg, eh, rfl, dp, dq, dr, ds, cq⟩
 have cv := am.call cq
 refine ⟨_, rfl, ?_⟩
 refine wN (CE 32 [SN, SN, SN, SN]) cv fun n fe cw => wS true 4 0 (.agg #[SL I t.Routes G, SL J t.Enabled H, SL B t.Raised D, SL x t.Cpus z]) 7 [SL I t.Routes G, SL J t.Enabled H, SL B t.Raised D, SL x t.Cpus z] cw rfl fun ei cx => NB (MW 1 (NO (GD hm fun N d8 dn => G_meet (fun a w' => ∃ a8 a9 ba, ownS Gx.encB N.1 B D a8 ∧ ownD deepInterface N.2 x z a9 ba ∧ Mem [] w w' [(BK y 32 [SN, SN, SN, SN]), af, ag, (BK n 32 [SL I t.Routes G, SL J t.Enabled H, SL B N.1 D, SL x N.2 z]), a8, a9, ba] ∧ Sat Tryz.f76.ntmps [(2, pB y 0), (3, pB n 0)] a) ?_ ?_)))
 ·refine GB (G_while (σ := Int × List Bool × List Interface) (ρ := List Bool × List Interface) (fun c a w' => ∃ aq ai aj, ownS Gx.encB c.2.1 B D aq ∧ ownD deepInterface c.2.2 x z ai aj ∧ Mem [] w w' [(BK u 32 [SL A d.Routes F, SL O d.Enabled Q, SL P d.Raised S, SL L d.Cpus T]), (BK y 32 [SN, SN, SN, SN]), af, ag, (BK n 32 [SL I t.Routes G, SL J t.Enabled H, SL B c.2.1 D, SL x c.2.2 z]), aq, ai, aj] ∧ Sat Tryz.f76.ntmps [(1, pB u 0), (2, pB y 0), (3, pB n 0), (4, iv c.1)] a) d8 (fun a ha => ⟨ef, eg, eh, dr, ds, cx.pk [0, 1, 2, 3, 7, 4, 5, 6], ha.s⟩) ?_)
  clear hm
  intro c fh hm d2 e6 C ⟨aq, ai, aj, a5, bl, K, dg⟩
  refine G_use dg (QB (MW 2 (NO (GT hm (fun bh hm => ?_) fun bh hm => ?_))))
  ·refine KD (MW 1 (wV (SL A d.Routes F) C (eL false 1 0 (K.blk 0 rfl)) (MW 1 (GD hm fun m bq hm => wV (elemP A (c.1.toNat * 2)) C (eI (ak.mem0 K) rfl bq) (wV (elemP A (c.1.toNat * 2 + 1)) C (eF 1 (c.1.toNat * 2) 1 (ak.mem0 K) bq) (wV (iv m.Target) C (eE false 1 1 (c.1.toNat * 2 + 1) (ak.mem0 K) bq) (MW 1 (NE (GD hm fun ec dv dl => G_meet (fun a w' => Mem [] w w' [(BK u 32 [SL A d.Routes F, SL O d.Enabled Q, SL P d.Raised S, SL L d.Cpus T]), (BK y 32 [SN, SN, SN, SN]), af, ag, (BK n 32 [SL I t.Routes G, SL J t.Enabled H, SL B c.2.1 D, SL x c.2.2 z]), aq, ai, aj] ∧ Sat Tryz.f76.ntmps [(1, pB u 0), (2, pB y 0), (3, pB n 0), (4, iv c.1), (5, iv m.Target), (40, .bool ec)] a) ?_ ?_)))))))))
   ·have hm := dv
    refine GR (MW 1 (wV (SL O d.Enabled Q) C (eL false 1 1 (K.blk 0 rfl)) (MW 1 (GD hm fun co ca hm => wV (elemP O (c.1.toNat * 1)) C (eI (bf.mem0 K) rfl ca) (wV (.bool co) C (eE false 1 0 (c.1.toNat * 1) (bf.mem0 K) ca) (wR 1 [(1, pB u 0), (2, pB y 0), (3, pB n 0), (4, iv c.1), (5, iv m.Target), (23, .bool co)] C ?_))))))
    rcases gx_bif hm with ⟨bi, hm⟩ | ⟨bi, hm⟩
    ·refine wK 23 true bi (MW 1 (wV (SL P d.Raised S) C (eL false 1 2 (K.blk 0 rfl)) (MW 1 (GD hm fun cp cb hm => wV (elemP P (c.1.toNat * 1)) C (eI (bg.mem0 K) rfl cb) (wV (.bool cp) C (eE false 1 0 (c.1.toNat * 1) (bg.mem0 K) cb) (wR 2 [(1, pB u 0), (2, pB y 0), (3, pB n 0), (4, iv c.1), (5, iv m.Target), (30, .bool cp)] C ?_))))))
     rcases gx_bif hm with ⟨bj, hm⟩ | ⟨bj, hm⟩
     ·refine wK 30 true bj (MW 1 (wV (SL L d.Cpus T) C (eL false 1 3 (K.blk 0 rfl)) (MW 1 (GD hm fun ax d9 hm => ?_))))
      obtain ⟨fi, cd, bp, dk⟩ := id b9
      obtain ⟨ah, a0⟩ := gxIdx_fst cd d9
      refine wV (elemP L (m.Target.toNat * 4)) C (eI (bp.mem0 K) (len_fst cd) a0) (wV (elemP L (m.Target.toNat * 4 + 1)) C (eF 1 (m.Target.toNat * 4) 1 (bp.mem0 K) a0) (wV (SL ((ah 0).1) ax.Stack ((ah 0).2)) C (eE false 1 1 (m.Target.toNat * 4 + 1) (bp.mem0 K) a0) (MW 1 (GD hm fun ed d5 hm => WD (c_s_l1Has C ax.Stack ((ah 0).1) ((ah 0).2) ((dk.mem0 K).a_ a0 0) c.1 d5) K fun ej cy => MW 2 (WN ?_)))))
      obtain rfl := HS hm
      exact NM fun a ha => ⟨cy.pk [0, 1, 2, 3, 4, 5, 6, 7], ha.s⟩
     refine wK 30 false bj (MW 10 (WN ?_))
     obtain rfl := HS hm
     exact NM fun a ha => ⟨K.pk [0, 1, 2, 3, 4, 5, 6, 7], ha.s⟩
    refine wK 23 false bi (wR 17 [(1, pB u 0), (2, pB y 0), (3, pB n 0), (4, iv c.1), (5, iv m.Target), (40, .bool false)] C (WN ?_))
    obtain rfl := HS hm
    exact NM fun a ha => ⟨K.pk [0, 1, 2, 3, 4, 5, 6, 7], ha.s⟩
   intro e7 be ⟨ay, dh⟩
   refine N_use dh ?_
   have hm := dl
   refine TN (GD hm fun a7 dw dm => G_meet (fun a w' => ∃ bb bc bd, ownS Gx.encB a7.1 B D bb ∧ ownD deepInterface a7.2 x z bc bd ∧ Mem [] w w' [(BK u 32 [SL A d.Routes F, SL O d.Enabled Q, SL P d.Raised S, SL L d.Cpus T]), (BK y 32 [SN, SN, SN, SN]), af, ag, (BK n 32 [SL I t.Routes G, SL J t.Enabled H, SL B a7.1 D, SL x a7.2 z]), bb, bc, bd] ∧ Sat Tryz.f76.ntmps [(1, pB u 0), (2, pB y 0), (3, pB n 0), (4, iv c.1)] a) ?_ ?_)
   ·have hm := dw
    refine GT hm (fun bk hm => ?_) fun bk hm => ?_
    ·refine QA (MW 1 (wV (SL B c.2.1 D) be (eL false 1 2 (ay.blk 4 rfl)) (MW 1 (GD hm fun e4 cc hm => wV (elemP B (c.1.toNat * 1)) be (eI (a5.r ay 5) rfl cc) (wE false 1 c.1.toNat 0 (c.1.toNat * 1) e4 false (.bool false) 5 ay a5 (gxIdx_spec cc).2 fun ek al dz cz => LX 42 B D c.2.1 c.1.toNat false ?_)))))
     have c0 : Mem [] w ek [(BK u 32 [.slice A d.Routes.length F, .slice O d.Enabled.length Q, .slice P d.Raised.length S, .slice L d.Cpus.length T]), (BK y 32 [.slice none 0 0, .slice none 0 0, .slice none 0 0, .slice none 0 0]), af, ag, (BK n 32 [.slice I t.Routes.length G, .slice J t.Enabled.length H, .slice B (c.2.1.set c.1.toNat false).length D, .slice x c.2.2.length z]), al, ai, aj] := by rw [@List.length_set _ c.2.1 c.1.toNat false]; exact cz
     refine NO (GD hm fun E ea hm => ?_)
     obtain ⟨fj, an, a6, a4⟩ := id bl
     obtain ⟨q, av⟩ := gxIdx_fst an ea
     refine GD hm fun ar br hm => GD hm fun l d6 hm => GU [(1, pB u 0), (2, pB y 0), (3, pB n 0), (4, iv c.1), (5, iv m.Target), (42, SL B (c.2.1.set c.1.toNat false) D), (43, iv c.1), (44, elemP B (c.1.toNat * 1))] (DL 16 [[],[0],[],[],[3],[],[4,5],[6],[],[],[9],[],[10,11],[12],[13],[7,8,14]] (EM 16) (EM 16) (EM 16) (EM 16) (EM 16) (fun _ => []) [QV (pB n 3), QV (.slice x c.2.2.length z), QV (iv m.Target), QV (pB n 3), QV (.slice x c.2.2.length z), QV (iv m.Target), QV (elemP x (m.Target.toNat * 4)), QV (.agg #[iv E.Mask, SL ((q 0).1) E.Stack ((q 0).2), SL ((q 1).1) E.Queue.Slots ((q 1).2), SL ((q 2).1) E.Queue.Waiting ((q 2).2)]), QV (iv c.1), QV (pB u 0), QV (.slice A d.Routes.length F), QV (iv c.1), QV (elemP A (c.1.toNat * 2)), QV (elemP A (c.1.toNat * 2 + 0)), QV (iv ar.Priority), fun f v s => ∃ ac Z W ad aa X ae ab Y, v = (.agg #[iv l.Mask, SL ac l.Stack Z, SL ad l.Queue.Slots aa, SL ae l.Queue.Waiting ab] : Value) ∧ s = (W ++ (X ++ Y)) ∧ ownS Gx.encI l.Stack ac Z W ∧ ownS encSlot l.Queue.Slots ad aa X ∧ ownS encWaiter l.Queue.Waiting ae ab Y] [] [1, 2, 15] [15] (c0.preNil 16) (AC ?_ (AC ?_ (AC ?_ (AC ?_ (AC ?_ (AC ?_ (AC ?_ (AC ?_ (AC ?_ (AC ?_ (AC ?_ (AC ?_ (AC ?_ (AC ?_ (AC ?_ (AC ?_ AN)))))))))))))))) ?_)
     ·intro U V R el c1
      exact OM ⟨rfl, rfl⟩ c1
     ·rintro U V v0_ ⟨rfl, _⟩ R em bu
      exact OV ⟨rfl, rfl⟩ (eL false 1 3 (bu.blk 4 rfl)) bu
     ·intro U V R en c2
      exact OM ⟨rfl, rfl⟩ c2
     ·intro U V R eo c3
      exact OM ⟨rfl, rfl⟩ c3
     ·rintro U V v3_ ⟨rfl, _⟩ R ep bv
      exact OV ⟨rfl, rfl⟩ (eL false 1 3 (bv.blk 4 rfl)) bv
     ·intro U V R er c4
      exact OM ⟨rfl, rfl⟩ c4
     ·rintro U V v4_ ⟨rfl, _⟩
      rintro v5_ ⟨rfl, _⟩ R es bw
      exact OV ⟨rfl, rfl⟩ (eI (a6.r bw 6) (len_fst an) av) bw
     ·rintro U V v6_ ⟨rfl, _⟩ R et bx
      exact OV ⟨rfl, rfl⟩ (eE true 4 0 (m.Target.toNat * 4) (a6.r bx 6) av) bx
     ·intro U V R eu c5
      exact OM ⟨rfl, rfl⟩ c5
     ·intro U V R ev c6
      exact OM ⟨rfl, rfl⟩ c6
     ·rintro U V v9_ ⟨rfl, _⟩ R ew bz
      exact OV ⟨rfl, rfl⟩ (eL false 1 0 (bz.blk 0 rfl)) bz
     ·intro U V R ex c7
      exact OM ⟨rfl, rfl⟩ c7
     ·rintro U V v10_ ⟨rfl, _⟩
      rintro v11_ ⟨rfl, _⟩ R ey b0
      exact OV ⟨rfl, rfl⟩ (eI (ak.mem0 b0) rfl br) b0
     ·rintro U V v12_ ⟨rfl, _⟩ R ez b1
      exact OV ⟨rfl, rfl⟩ (eF 0 (c.1.toNat * 2) 0 (ak.mem0 b1) br) b1
     ·rintro U V v13_ ⟨rfl, _⟩ R e0 b2
      exact OV ⟨rfl, rfl⟩ (eE false 1 0 (c.1.toNat * 2 + 0) (ak.mem0 b2) br) b2
     ·rintro U V v7_ ⟨rfl, _⟩
      rintro v8_ ⟨rfl, _⟩
      rintro v14_ ⟨rfl, _⟩ R e1 az
      refine WC ((c_s_l10Raise e1 E ((q 0).1) ((q 0).2) ((a4.r az 7).a_ av 0) ((q 1).1) ((q 1).2) ((a4.r az 7).a_ av 1) ((q 2).1) ((q 2).2) ((a4.r az 7).a_ av 2) c.1 ar.Priority d6).mono ?_)
      rintro e_ ff ⟨ac, Z, W, ad, aa, X, ae, ab, Y, rfl, bm, bn, bo, ct⟩
      refine ⟨_, rfl, ?_⟩
      exact WN (oE (.agg #[iv l.Mask, SL ac l.Stack Z, SL ad l.Queue.Slots aa, SL ae l.Queue.Waiting ab]) (W ++ (X ++ Y)) ⟨ac, Z, W, ad, aa, X, ae, ab, Y, rfl, rfl, bm, bn, bo⟩ (Mem.callMid az (ct.permF (by simp))))
     rintro U V v1_ ⟨rfl, _⟩
     rintro v2_ ⟨rfl, _⟩ v15_ hb15_
     obtain ⟨ac, Z, W, ad, aa, X, ae, ab, Y, rfl, hs15_, bm, bn, bo⟩ := hb15_
     intro bs c8
     have au : Mem [] w bs [(BK u 32 [SL A d.Routes F, SL O d.Enabled Q, SL P d.Raised S, SL L d.Cpus T]), (BK y 32 [SN, SN, SN, SN]), af, ag, (BK n 32 [SL I t.Routes G, SL J t.Enabled H, SL B (c.2.1.set c.1.toNat false) D, SL x c.2.2 z]), al, ai, aj, W, X, Y] := c8.permF (by simp [hs15_, SL])
     refine GD hm fun e5 eb hm => ?_
     obtain ⟨df, a3⟩ := gxIdx_fst an eb
     refine wV (elemP x (m.Target.toNat * 4)) bs (eI (a6.r au 6) (len_fst an) a3) ?_
     obtain ⟨ao, ee, ap, d7, fa, d3⟩ := a4.lens (gxIdx_spec a3).2
     have c9 := au.cut 7 (sa := ao) (sb := ee) (sc := ap) d7 (by kernel_rfl)
     refine wE true 4 m.Target.toNat 0 (m.Target.toNat * 4) (e5, df) (l, (plOf [(ac, Z), (ad, aa), (ae, ab)])) (.agg #[iv l.Mask, SL ac l.Stack Z, SL ad l.Queue.Slots aa, SL ae l.Queue.Waiting ab]) 6 c9 a6 (gxIdx_spec a3).2 ?_
     intro bt aw d0 da
     have db : Mem [] w bt [(BK u 32 [SL A d.Routes F, SL O d.Enabled Q, SL P d.Raised S, SL L d.Cpus T]), (BK y 32 [SN, SN, SN, SN]), af, ag, (BK n 32 [SL I t.Routes G, SL J t.Enabled H, SL B (c.2.1.set c.1.toNat false) D, SL x c.2.2 z]), al, aw, ao, W, X, Y, ap] := da.pk [0, 1, 2, 3, 4, 5, 6, 7, 8, 9, 10, 12]
     have dc : Mem [] w bt [(BK u 32 [SL A d.Routes F, SL O d.Enabled Q, SL P d.Raised S, SL L d.Cpus T]), (BK y 32 [SN, SN, SN, SN]), af, ag, (BK n 32 [SL I t.Routes G, SL J t.Enabled H, SL B (c.2.1.set c.1.toNat false) D, SL x c.2.2 z]), al, aw, (ao ++ ((W ++ (X ++ (Y ++ []))) ++ ap))] := db.regroup (by simp)
     have d1 : ownD deepInterface (c.2.2.set m.Target.toNat l) x z aw (ao ++ ((W ++ (X ++ (Y ++ []))) ++ ap)) := ⟨_, set_fst an m.Target.toNat (l, (plOf [(ac, Z), (ad, aa), (ae, ab)])), d0, (d3 (l, (plOf [(ac, Z), (ad, aa), (ae, ab)])) _ (ownI_cons (i := ⟨Int, Gx.encI, _, _, _⟩) bm (ownI_cons (i := ⟨Slot, encSlot, _, _, _⟩) bn (ownI_cons (i := ⟨Waiter, encWaiter, _, _, _⟩) bo ownI_nil))))⟩
     have fb := gxIdx_put l (gxIdx_down an a3)
     refine LX 46 x z c.2.2 m.Target.toNat l ?_
     have dd : Mem [] w bt [(BK u 32 [.slice A d.Routes.length F, .slice O d.Enabled.length Q, .slice P d.Raised.length S, .slice L d.Cpus.length T]), (BK y 32 [.slice none 0 0, .slice none 0 0, .slice none 0 0, .slice none 0 0]), af, ag, (BK n 32 [.slice I t.Routes.length G, .slice J t.Enabled.length H, .slice B (c.2.1.set c.1.toNat false).length D, .slice x (c.2.2.set m.Target.toNat l).length z]), al, aw, (ao ++ ((W ++ (X ++ (Y ++ []))) ++ ap))] := by rw [@List.length_set _ c.2.2 m.Target.toNat l]; exact dc
     refine WN ?_
     obtain rfl := HS hm
     exact NM fun a ha => ⟨al, aw, (ao ++ ((W ++ (X ++ (Y ++ []))) ++ ap)), dz, d1, dd.pk [0, 1, 2, 3, 4, 5, 6, 7], ha.s⟩
    refine GK ?_
    obtain rfl := HS hm
    exact NM fun a ha => ⟨aq, ai, aj, a5, bl, ay.pk [0, 1, 2, 3, 4, 5, 6, 7], ha.s⟩
   intro e8 e2 ⟨bb, bc, bd, dx, dy, de, di⟩
   refine N_use di ?_
   have hm := dm
   refine BN (TN (GR (MW 3 (WN ?_))))
   cases hm
   exact N_loop fun a ha => ⟨_, rfl, bb, bc, bd, dx, dy, de.pk [0, 1, 2, 3, 4, 5, 6, 7], ha.s⟩
  refine XA ?_
  obtain rfl := HS hm
  obtain rfl := d2 _ rfl
  exact NM fun a ha => ⟨aq, ai, aj, a5, bl, K.pk [1, 2, 3, 4, 5, 6, 7], ha.s⟩
 intro e9 e3 ⟨a8, a9, ba, dt, du, b3, dj⟩
 refine N_use dj ?_
 have hm := dn
 refine NF (wV (.agg #[SL I t.Routes G, SL J t.Enabled H, SL B N.1 D, SL x N.2 z]) e3 (eL true 4 0 (b3.blk 3 rfl)) (wS true 4 0 (.agg #[SL I t.Routes G, SL J t.Enabled H, SL B N.1 D, SL x N.2 z]) 0 [SL I t.Routes G, SL J t.Enabled H, SL B N.1 D, SL x N.2 z] b3 rfl fun fg b4 => NC ?_))
 obtain rfl := HS hm
 exact N_ret [.agg #[SL I t.Routes G, SL J t.Enabled H, SL B N.1 D, SL x N.2 z]] (RX true 4 0 (b4.blk 0 rfl) RVs_nil) (⟨I, G, af, J, H, ag, B, D, a8, x, z, a9, ba, rfl, dp, dq, dt, du, b4.pk [1, 2, 4, 5, 6]⟩)
theorem c_s_l10Running (w : World) (a : Interface) (h i) (o : rdS Gx.encI w a.Stack h i) (f c) (u : rdS encSlot w a.Queue.Slots f c) (g d) (v : rdS encWaiter w a.Queue.Waiting g d) {r : Int} (hm : M.s_l10Running a = some r) :
  Calls Tryz.prog 175 #[.agg #[iv a.Mask, SL h a.Stack i, SL f a.Queue.Slots c, SL g a.Queue.Waiting d]] w fun e w' => e = .returned (iv r) ∧ Mem [] w w' [] := by
 unfold M.s_l10Running at hm
 refine cE Tryz.func175 ?_
 have M0 := Mem.refl [] w
 refine QA (wN (CE 87 [iv a.Mask, SL h a.Stack i, SL f a.Queue.Slots c, SL g a.Queue.Waiting d]) M0 fun b j l => MW 1 (NB (MW 1 (wV (SL h a.Stack i) j (eL false 1 1 (l.blk 0 rfl)) (MW 2 (NA (MW 2 (NO (GT hm (fun m hm => ?_) fun m hm => ?_)))))))))
 ·refine GS (G_quiet (by kernel_rfl) (by kernel_rfl) l (MZ 1 (zV (.agg #[SL f a.Queue.Slots c, SL g a.Queue.Waiting d]) (fun w_ M_ => (eL true 2 2 (M_.blk 0 rfl))) (MZ 1 (zV (SL h a.Stack i) (fun w_ M_ => (eL false 1 1 (M_.blk 0 rfl))) (MZ 2 (GD hm fun n q hm => zV (elemP h ((w64 ((a.Stack.length : Int) - 1)).toNat * 1)) (fun w_ M_ => (eI (o.mem0 M_) rfl q)) (zV (iv n) (fun w_ M_ => (eE false 1 0 ((w64 ((a.Stack.length : Int) - 1)).toNat * 1) (o.mem0 M_) q)) (GD hm fun k x hm => ZC (iv k) (fun w_ M_ => c_s_l10Level w_ a.Queue f c (u.mem0 M_) g d (v.mem0 M_) n x) (MZ 1 (Z_end fun y t => (TN (G_ret (TR ?_))))))))))))))
  obtain rfl := HS hm
  exact RA [iv k] (⟨rfl, t.pk []⟩)
 refine KA (MW 1 (NC ?_))
 obtain rfl := HS hm
 exact RA [iv 16] (⟨rfl, l.pk []⟩)
theorem c_s_l1Least (w : World) (a : Int) (b : Int) {r : Int} (hm : M.s_l1Least a b = some r) :
  Calls Tryz.prog 174 #[iv a, iv b] w fun e w' => e = .returned (iv r) ∧ Mem [] w w' [] := by
 unfold M.s_l1Least at hm
 refine cE Tryz.func174 ?_
 have M0 := Mem.refl [] w
 refine QA (MW 1 (NB (MW 3 (NO (GT hm (fun c hm => ?_) fun c hm => ?_)))))
 ·refine QA (MW 2 (ND ?_))
  obtain rfl := HS hm
  exact RA [iv a] (⟨rfl, M0.pk []⟩)
 refine KA (MW 2 (NC ?_))
 obtain rfl := HS hm
 exact RA [iv b] (⟨rfl, M0.pk []⟩)
theorem c_s_l8Take (w : World) (d : List Slot) (c g) (y : rdS encSlot w d c g) (u : Int) {r : (List Slot) × Int} (hm : M.s_l8Take d u = some r) :
  Calls Tryz.prog 226 #[SL c d g, iv u] w fun e w' => ∃ L J N, e = .returned (.tuple #[SL L r.1 J, iv r.2]) ∧ ownS encSlot r.1 L J N ∧ Mem [] w w' [N] := by
 unfold M.s_l8Take at hm
 refine cE Tryz.func226 ?_
 have M0 := Mem.refl [] w
 refine QA (MW 2 (NA (MW 1 (GD hm fun k af hm => WD (c_s_l8Best w d c g (y.mem0 M0) true af) M0 fun t z => MW 1 (NE (GS (GD hm fun ah ae ad => G_meet (fun a w' => Mem [] w w' [] ∧ Sat Tryz.f226.ntmps [(0, SL c d g), (6, iv k), (20, .bool ah)] a) ?_ ?_)))))))
 ·have hm := ae
  refine GR (wR 3 [(0, SL c d g), (1, iv u), (6, iv k), (12, .bool (decide (k < 0)))] t ?_)
  rcases gx_bif hm with ⟨C, hm⟩ | ⟨C, hm⟩
  ·refine wK 12 true C (MW 8 (WN ?_))
   obtain rfl := HS hm
   exact NM fun a ha => ⟨z.pk [], ha.s⟩
  refine wK 12 false C (MW 2 (GD hm fun P F hm => wV (elemP c (k.toNat * 3)) t (eI (y.mem0 z) rfl F) (wV (elemP c (k.toNat * 3 + 2)) t (eF 2 (k.toNat * 3) 2 (y.mem0 z) F) (wV (iv P.Priority) t (eE false 1 2 (k.toNat * 3 + 2) (y.mem0 z) F) (MW 3 (WN ?_))))))
  obtain rfl := HS hm
  exact NM fun a ha => ⟨z.pk [], ha.s⟩
 intro ar A ⟨B, ac⟩
 refine N_use ac ?_
 have hm := ad
 refine TN (GT hm (fun D hm => ?_) fun D hm => ?_)
 ·refine QA (wR 3 [(4, SL c d g), (5, iv (-1))] A (ND ?_))
  cases hm
 refine KA (MW 2 (GD hm fun b K hm => wV (elemP c (k.toNat * 3)) A (eI (y.mem0 B) rfl K) (wV (.agg #[iv b.State, iv b.Irq, iv b.Priority]) A (eE true 3 0 (k.toNat * 3) (y.mem0 B) K) (wN (CE 117 [iv 0, iv 0, iv 0]) B fun o au T => wS true 3 0 (.agg #[iv b.State, iv b.Irq, iv b.Priority]) 0 [iv b.State, iv b.Irq, iv b.Priority] T rfl fun aj U => NA (MW 1 (wS false 1 0 (iv 2) 0 [iv 2, iv b.Irq, iv b.Priority] U rfl fun av V => NE (GD hm fun n ag hm => GU [(0, SL c d g), (6, iv k), (7, pB o 0), (26, pB o 0)] (DL 7 [[],[],[],[0,1,2],[],[4],[]] (EM 7) (EM 7) [[],[],[],[],[],[],[3]] [[],[],[],[],[],[],[3]] (EM 7) (fun _ => []) [QV (.slice c d.length g), QV (iv k), QV (.agg #[iv 2, iv b.Irq, iv b.Priority]), fun f v s => ∃ m l, v = (.slice m n.length l : Value) ∧ ownS encSlot n m l s, QV (pB o 1), QV (iv b.Irq), fun f v s => v = ((atPath (f 3) []) : Value) ∧ s = []] [] [3, 5, 6] [3] (V.preNil 7) (AC ?_ (AC ?_ (AC ?_ (AC ?_ (AC ?_ (AC ?_ (AC ?_ AN))))))) ?_))))))))
 ·intro q x R ak W
  exact OM ⟨rfl, rfl⟩ W
 ·intro q x R al X
  exact OM ⟨rfl, rfl⟩ X
 ·intro q x R am G
  exact OV ⟨rfl, rfl⟩ (eL true 3 0 (G.blk 0 rfl)) G
 ·rintro q x v0_ ⟨rfl, _⟩
  rintro v1_ ⟨rfl, _⟩
  rintro v2_ ⟨rfl, _⟩ R an H
  refine WC ((c_s_l8With an d c g (y.mem0 H) k (⟨2, b.Irq, b.Priority⟩ : Slot) ag).mono ?_)
  rintro e_ aw ⟨m, l, ai, rfl, E, S⟩
  refine ⟨_, rfl, ?_⟩
  exact WN (oE (SL m n l) ai ⟨m, l, rfl, E⟩ (Mem.callMid H S))
 ·intro q x R ao Y
  exact OM ⟨rfl, rfl⟩ Y
 ·rintro q x v4_ ⟨rfl, _⟩ R ap I
  exact OV ⟨rfl, rfl⟩ (eL false 1 1 (I.blk 0 rfl)) I
 ·intro q x v3_ hb3_
  obtain ⟨_, m, l, rfl, _⟩ := hb3_
  intro R aq Z
  exact OM ⟨rfl, rfl⟩ Z
 intro q x v3_ hb3_
 obtain ⟨m, l, rfl, E⟩ := hb3_
 rintro v5_ ⟨rfl, _⟩ v6_ hb6_
 obtain ⟨hv6_, _⟩ := hb6_
 obtain rfl : v6_ = (.slice m n.length l : Value) := hv6_.trans (by kernel_rfl)
 intro O aa
 have ab : Mem [] w O [(BK o 117 [iv 2, iv b.Irq, iv b.Priority]), (q 3)] := aa
 refine MW 1 (NC ?_)
 cases hm
 exact RA [SL m n l, iv b.Irq] (⟨m, l, (q 3), rfl, E, ab.pk [1]⟩)
theorem c_s_l8Take__k (w : World) (d : List Slot) (b g) (y : rdS encSlot w d b g) (u : Int) {r : (List Slot) × Int} (hm : M.s_l8Take__k d u = some r) :
  Calls Tryz.prog 226 #[SL b d g, iv u] w fun e w' => e = .returned (.tuple #[SL b d g, iv r.2]) ∧ Mem [] w w' [] := by
 unfold M.s_l8Take__k at hm
 refine cE Tryz.func226 ?_
 have M0 := Mem.refl [] w
 refine QA (MW 2 (NA (MW 1 (GD hm fun k ab hm => WD (c_s_l8Best w d b g (y.mem0 M0) true ab) M0 fun t z => MW 1 (NE (GS (GD hm fun ad aa Z => G_meet (fun a w' => Mem [] w w' [] ∧ Sat Tryz.f226.ntmps [(0, SL b d g), (6, iv k), (20, .bool ad)] a) ?_ ?_)))))))
 ·have hm := aa
  refine GR (wR 3 [(0, SL b d g), (1, iv u), (6, iv k), (12, .bool (decide (k < 0)))] t ?_)
  rcases gx_bif hm with ⟨C, hm⟩ | ⟨C, hm⟩
  ·refine wK 12 true C (MW 8 (WN ?_))
   obtain rfl := HS hm
   exact NM fun a ha => ⟨z.pk [], ha.s⟩
  refine wK 12 false C (MW 2 (GD hm fun L E hm => wV (elemP b (k.toNat * 3)) t (eI (y.mem0 z) rfl E) (wV (elemP b (k.toNat * 3 + 2)) t (eF 2 (k.toNat * 3) 2 (y.mem0 z) E) (wV (iv L.Priority) t (eE false 1 2 (k.toNat * 3 + 2) (y.mem0 z) E) (MW 3 (WN ?_))))))
  obtain rfl := HS hm
  exact NM fun a ha => ⟨z.pk [], ha.s⟩
 intro ao B ⟨A, Y⟩
 refine N_use Y ?_
 have hm := Z
 refine TN (GT hm (fun D hm => ?_) fun D hm => ?_)
 ·refine QA (wR 3 [(4, SL b d g), (5, iv (-1))] B (ND ?_))
  cases hm
  exact RA [SL b d g, iv (-1)] (⟨rfl, A.pk []⟩)
 refine KA (MW 2 (GD hm fun c J hm => wV (elemP b (k.toNat * 3)) B (eI (y.mem0 A) rfl J) (wV (.agg #[iv c.State, iv c.Irq, iv c.Priority]) B (eE true 3 0 (k.toNat * 3) (y.mem0 A) J) (wN (CE 117 [iv 0, iv 0, iv 0]) A fun n ap P => wS true 3 0 (.agg #[iv c.State, iv c.Irq, iv c.Priority]) 0 [iv c.State, iv c.Irq, iv c.Priority] P rfl fun af Q => NA (MW 1 (wS false 1 0 (iv 2) 0 [iv 2, iv c.Irq, iv c.Priority] Q rfl fun aq S => NE (GD hm fun o ac hm => GU [(0, SL b d g), (6, iv k), (7, pB n 0), (26, pB n 0)] (DL 7 [[],[],[],[0,1,2],[],[4],[]] (EM 7) (EM 7) [[],[],[],[],[],[],[3]] [[],[],[],[],[],[],[3]] (EM 7) (fun _ => []) [QV (.slice b d.length g), QV (iv k), QV (.agg #[iv 2, iv c.Irq, iv c.Priority]), fun f v s => ∃ m l, v = (.slice m o.length l : Value) ∧ ownS encSlot o m l s, QV (pB n 1), QV (iv c.Irq), fun f v s => v = ((atPath (f 3) []) : Value) ∧ s = []] [] [3, 5, 6] [3] (S.preNil 7) (AC ?_ (AC ?_ (AC ?_ (AC ?_ (AC ?_ (AC ?_ (AC ?_ AN))))))) ?_))))))))
 ·intro q x R ag T
  exact OM ⟨rfl, rfl⟩ T
 ·intro q x R ah U
  exact OM ⟨rfl, rfl⟩ U
 ·intro q x R ai F
  exact OV ⟨rfl, rfl⟩ (eL true 3 0 (F.blk 0 rfl)) F
 ·rintro q x v0_ ⟨rfl, _⟩
  rintro v1_ ⟨rfl, _⟩
  rintro v2_ ⟨rfl, _⟩ R aj G
  refine WC ((c_s_l8With aj d b g (y.mem0 G) k (⟨2, c.Irq, c.Priority⟩ : Slot) ac).mono ?_)
  rintro e_ ar ⟨m, l, ae, rfl, I, O⟩
  refine ⟨_, rfl, ?_⟩
  exact WN (oE (SL m o l) ae ⟨m, l, rfl, I⟩ (Mem.callMid G O))
 ·intro q x R ak V
  exact OM ⟨rfl, rfl⟩ V
 ·rintro q x v4_ ⟨rfl, _⟩ R al H
  exact OV ⟨rfl, rfl⟩ (eL false 1 1 (H.blk 0 rfl)) H
 ·intro q x v3_ hb3_
  obtain ⟨_, m, l, rfl, _⟩ := hb3_
  intro R am W
  exact OM ⟨rfl, rfl⟩ W
 intro q x v3_ hb3_
 obtain ⟨m, l, rfl, I⟩ := hb3_
 rintro v5_ ⟨rfl, _⟩ v6_ hb6_
 obtain ⟨hv6_, _⟩ := hb6_
 obtain rfl : v6_ = (.slice m o.length l : Value) := hv6_.trans (by kernel_rfl)
 intro K X
 have an : Mem [] w K [(BK n 117 [iv 2, iv c.Irq, iv c.Priority]), (q 3)] := X
 refine MW 1 (NC ?_)
 cases hm
theorem c_s_l9Take (w : World) (a : Queue) (A z) (af : rdS encSlot w a.Slots A z) (J G) (ay : rdS encWaiter w a.Waiting J G) (X : Int) {r : Queue × Int} (hm : M.s_l9Take a X = some r) :
  Calls Tryz.prog 173 #[.agg #[SL A a.Slots z, SL J a.Waiting G], iv X] w fun e w' => ∃ az aw a3 a0 ax a4, e = .returned (.tuple #[.agg #[SL az r.1.Slots aw, SL a0 r.1.Waiting ax], iv r.2]) ∧ ownS encSlot r.1.Slots az aw a3 ∧ ownS encWaiter r.1.Waiting a0 ax a4 ∧ Mem [] w w' [a3, a4] := by
 unfold M.s_l9Take at hm
 refine cE Tryz.func173 ?_
 have M0 := Mem.refl [] w
 refine QA (wN (CE 85 [SL A a.Slots z, SL J a.Waiting G]) M0 fun y cy bc => wN (CE 85 [SN, SN]) bc fun c ab ac => MW 1 (NA (MW 1 (wV (SL A a.Slots z) ab (eL false 1 0 (ac.blk 0 rfl)) (wR 1 [(2, pB y 0), (4, pB c 0), (10, SL A a.Slots z), (11, iv X)] ab ?_)))))
 rcases gx_alt hm with ⟨Y, cd, hm⟩ | hm
 ·refine WD (c_s_l8Take__k ab a.Slots A z (af.mem0 ac) X cd) ac fun a6 bd => MW 5 (NE (GD hm fun B b8 hm => GD hm fun C b9 hm => ?_))
  have be : Mem [] w a6 ([(BK y 85 [SL A a.Slots z, SL J a.Waiting G])] ++ (List.range 10).map (fun i => ([[], [], [], [], [], [], [], [], [], (BK c 85 [SN, SN])] : List Seg).getD i [])) := bd.pk [0, 300000, 300001, 300002, 300003, 300004, 300005, 300006, 300007, 300008, 1]
  refine GU [(2, pB y 0), (4, pB c 0), (6, SL A a.Slots z), (7, iv Y.2)] (DL 10 [[],[],[0,1],[],[],[4],[3,5],[],[],[7]] [[],[],[0],[],[],[],[3],[],[],[]] (EM 10) [[],[],[],[],[],[],[],[2,6],[],[2,6]] [[],[],[],[],[],[],[],[2,6],[],[2,6]] (EM 10) (fun i => ([[], [], [], [], [], [], [], [], [], (BK c 85 [SN, SN])] : List Seg).getD i []) [fun f v s => ∃ T O, v = (.slice T ([] : List Slot).length O : Value) ∧ ownS encSlot ([] : List Slot) T O s, QV (.slice A a.Slots.length z), fun f v s => ∃ q d, v = (.slice q B.length d : Value) ∧ ownS encSlot B q d s, fun f v s => ∃ U P, v = (.slice U ([] : List Waiter).length P : Value) ∧ ownS encWaiter ([] : List Waiter) U P s, QV (pB y 1), QV (.slice J a.Waiting.length G), fun f v s => ∃ t l, v = (.slice t C.length l : Value) ∧ ownS encWaiter C t l s, fun f v s => v = (.agg #[(atPath (f 2) []), (atPath (f 6) [])] : Value) ∧ s = [], QV (iv Y.2), fun f v s => v = undef ∧ s = (BK c 85 [(atPath (f 2) []), (atPath (f 6) [])])] [] [2, 6, 8, 9] [2, 6, 9] be (AC ?_ (AC ?_ (AC ?_ (AC ?_ (AC ?_ (AC ?_ (AC ?_ (AC ?_ (AC ?_ (AC ?_ AN)))))))))) ?_)
  ·intro H L R cz bf
   exact wL (E := encSlot) ([] : List Slot) 0 [] 117 bf fun T O cf c0 ag bg => WN (oE (SL T ([] : List Slot) O) cf ⟨T, O, rfl, ag⟩ (Mem.mid bg))
  ·intro H L R cn bh
   exact OM ⟨rfl, rfl⟩ bh
  ·intro H L v0_ hb0_
   obtain ⟨T, O, rfl, ag⟩ := hb0_
   rintro v1_ ⟨rfl, _⟩ R c1 ao
   exact wA 24 [iv 0, iv 0, iv 0] 2 ao ag (af.mem0 ao) b8 fun q d cg c2 ah bi => WN (oE (SL q B d) cg ⟨q, d, rfl, ah⟩ (Mem.takeOver bi))
  ·intro H L R c3 bj
   exact wL (E := encWaiter) ([] : List Waiter) 0 [] 142 bj fun U P ch c4 ai bk => WN (oE (SL U ([] : List Waiter) P) ch ⟨U, P, rfl, ai⟩ (Mem.mid bk))
  ·intro H L R co bl
   exact OM ⟨rfl, rfl⟩ bl
  ·rintro H L v4_ ⟨rfl, _⟩ R cp ap
   exact OV ⟨rfl, rfl⟩ (eL false 1 1 (ap.blk 0 rfl)) ap
  ·intro H L v3_ hb3_
   obtain ⟨U, P, rfl, ai⟩ := hb3_
   rintro v5_ ⟨rfl, _⟩ R c5 aq
   exact wA 16 [iv 0, iv 0] 2 aq ai (ay.mem0 aq) b9 fun t l ci c6 aj bm => WN (oE (SL t C l) ci ⟨t, l, rfl, aj⟩ (Mem.takeOver bm))
  ·intro H L v2_ hb2_
   obtain ⟨_, q, d, rfl, _⟩ := hb2_
   intro v6_ hb6_
   obtain ⟨_, t, l, rfl, _⟩ := hb6_
   intro R cq bn
   exact OM ⟨rfl, rfl⟩ bn
  ·intro H L R cr bo
   exact OM ⟨rfl, rfl⟩ bo
  ·intro H L v2_ hb2_
   obtain ⟨_, q, d, rfl, _⟩ := hb2_
   intro v6_ hb6_
   obtain ⟨_, t, l, rfl, _⟩ := hb6_
   intro v7_ hb7_
   obtain ⟨hv7_, _⟩ := hb7_
   obtain rfl : v7_ = (.agg #[SL q B d, SL t C l] : Value) := hv7_.trans (by kernel_rfl)
   intro R c7 bp
   exact wS true 2 0 (.agg #[SL q B d, SL t C l]) 1 [SL q B d, SL t C l] bp rfl fun c8 bq => WN (ob_none (BK c 85 [SL q B d, SL t C l]) rfl ⟨rfl, by kernel_rfl⟩ bq)
  intro H L v2_ hb2_
  obtain ⟨q, d, rfl, ah⟩ := hb2_
  intro v6_ hb6_
  obtain ⟨t, l, rfl, aj⟩ := hb6_
  rintro v8_ ⟨rfl, _⟩ v9_ hb9_
  obtain ⟨rfl, hs9_⟩ := hb9_
  replace hs9_ := hs9_.trans (show _ = (BK c 85 [SL q B d, SL t C l]) by kernel_rfl)
  intro a7 br
  have ad : Mem [] w a7 [(BK y 85 [SL A a.Slots z, SL J a.Waiting G]), (H 2), (H 6), (H 9)] := br
  rw [hs9_] at ad
  refine MW 1 (NC ?_)
  obtain rfl := HS hm
  exact N_ret [.agg #[SL q B d, SL t C l], iv Y.2] (RX true 2 0 (ad.blk 3 rfl) (rC RVs_nil)) (⟨q, d, (H 2), t, l, (H 6), rfl, ah, aj, ad.pk [1, 2]⟩)
 refine GD hm fun K ce hm => WC ((c_s_l8Take ab a.Slots A z (af.mem0 ac) X ce).mono ?_)
 rintro e_ a8 ⟨aa, Z, a5, rfl, cc, bb⟩
 have bs := ac.call bb
 refine ⟨_, rfl, ?_⟩
 refine MW 5 (NE (GD hm fun D ca hm => GD hm fun F cb hm => ?_))
 have bt : Mem [] w a8 ([(BK y 85 [SL A a.Slots z, SL J a.Waiting G]), a5] ++ (List.range 10).map (fun i => ([[], [], [], [], [], [], [], [], [], (BK c 85 [SN, SN])] : List Seg).getD i [])) := bs.pk [0, 2, 300000, 300001, 300002, 300003, 300004, 300005, 300006, 300007, 300008, 1]
 refine GU [(2, pB y 0), (4, pB c 0), (6, SL aa K.1 Z), (7, iv K.2)] (DL 10 [[],[],[0,1],[],[],[4],[3,5],[],[],[7]] [[],[],[0],[],[],[],[3],[],[],[]] (EM 10) [[],[],[],[],[],[],[],[2,6],[],[2,6]] [[],[],[],[],[],[],[],[2,6],[],[2,6]] (EM 10) (fun i => ([[], [], [], [], [], [], [], [], [], (BK c 85 [SN, SN])] : List Seg).getD i []) [fun f v s => ∃ V Q, v = (.slice V ([] : List Slot).length Q : Value) ∧ ownS encSlot ([] : List Slot) V Q s, QV (.slice aa K.1.length Z), fun f v s => ∃ u m, v = (.slice u D.length m : Value) ∧ ownS encSlot D u m s, fun f v s => ∃ W S, v = (.slice W ([] : List Waiter).length S : Value) ∧ ownS encWaiter ([] : List Waiter) W S s, QV (pB y 1), QV (.slice J a.Waiting.length G), fun f v s => ∃ x n, v = (.slice x F.length n : Value) ∧ ownS encWaiter F x n s, fun f v s => v = (.agg #[(atPath (f 2) []), (atPath (f 6) [])] : Value) ∧ s = [], QV (iv K.2), fun f v s => v = undef ∧ s = (BK c 85 [(atPath (f 2) []), (atPath (f 6) [])])] [] [2, 6, 8, 9] [2, 6, 9] bt (AC ?_ (AC ?_ (AC ?_ (AC ?_ (AC ?_ (AC ?_ (AC ?_ (AC ?_ (AC ?_ (AC ?_ AN)))))))))) ?_)
 ·intro I N R c9 bu
  exact wL (E := encSlot) ([] : List Slot) 0 [] 117 bu fun V Q cj da ak bv => WN (oE (SL V ([] : List Slot) Q) cj ⟨V, Q, rfl, ak⟩ (Mem.mid bv))
 ·intro I N R ct bw
  exact OM ⟨rfl, rfl⟩ bw
 ·intro I N v0_ hb0_
  obtain ⟨V, Q, rfl, ak⟩ := hb0_
  rintro v1_ ⟨rfl, _⟩ R db ar
  exact wA 24 [iv 0, iv 0, iv 0] 3 ar ak (cc.r ar 1) ca fun u m ck dc al bx => WN (oE (SL u D m) ck ⟨u, m, rfl, al⟩ (Mem.takeOver bx))
 ·intro I N R dd bz
  exact wL (E := encWaiter) ([] : List Waiter) 0 [] 142 bz fun W S cl de am b0 => WN (oE (SL W ([] : List Waiter) S) cl ⟨W, S, rfl, am⟩ (Mem.mid b0))
 ·intro I N R cu b1
  exact OM ⟨rfl, rfl⟩ b1
 ·rintro I N v4_ ⟨rfl, _⟩ R cv au
  exact OV ⟨rfl, rfl⟩ (eL false 1 1 (au.blk 0 rfl)) au
 ·intro I N v3_ hb3_
  obtain ⟨W, S, rfl, am⟩ := hb3_
  rintro v5_ ⟨rfl, _⟩ R df av
  exact wA 16 [iv 0, iv 0] 3 av am (ay.mem0 av) cb fun x n cm dg an b2 => WN (oE (SL x F n) cm ⟨x, n, rfl, an⟩ (Mem.takeOver b2))
 ·intro I N v2_ hb2_
  obtain ⟨_, u, m, rfl, _⟩ := hb2_
  intro v6_ hb6_
  obtain ⟨_, x, n, rfl, _⟩ := hb6_
  intro R cw b3
  exact OM ⟨rfl, rfl⟩ b3
 ·intro I N R cx b4
  exact OM ⟨rfl, rfl⟩ b4
 ·intro I N v2_ hb2_
  obtain ⟨_, u, m, rfl, _⟩ := hb2_
  intro v6_ hb6_
  obtain ⟨_, x, n, rfl, _⟩ := hb6_
  intro v7_ hb7_
  obtain ⟨hv7_, _⟩ := hb7_
  obtain rfl : v7_ = (.agg #[SL u D m, SL x F n] : Value) := hv7_.trans (by kernel_rfl)
  intro R dh b5
  exact wS true 2 0 (.agg #[SL u D m, SL x F n]) 2 [SL u D m, SL x F n] b5 rfl fun di b6 => WN (ob_none (BK c 85 [SL u D m, SL x F n]) rfl ⟨rfl, by kernel_rfl⟩ b6)
 intro I N v2_ hb2_
 obtain ⟨u, m, rfl, al⟩ := hb2_
 intro v6_ hb6_
 obtain ⟨x, n, rfl, an⟩ := hb6_
 rintro v8_ ⟨rfl, _⟩ v9_ hb9_
 obtain ⟨rfl, hs9_⟩ := hb9_
 replace hs9_ := hs9_.trans (show _ = (BK c 85 [SL u D m, SL x F n]) by kernel_rfl)
 intro a9 b7
 have ae : Mem [] w a9 [(BK y 85 [SL A a.Slots z, SL J a.Waiting G]), a5, (I 2), (I 6), (I 9)] := b7
 rw [hs9_] at ae
 refine MW 1 (NC ?_)
 obtain rfl := HS hm
 exact N_ret [.agg #[SL u D m, SL x F n], iv K.2] (RX true 2 0 (ae.blk 4 rfl) (rC RVs_nil)) (⟨u, m, (I 2), x, n, (I 6), rfl, al, an, ae.pk [2, 3]⟩)
theorem c_s_l10Take (w : World) (d : Interface) (z u) (a3 : rdS Gx.encI w d.Stack z u) (A x) (a4 : rdS encSlot w d.Queue.Slots A x) (B y) (a5 : rdS encWaiter w d.Queue.Waiting B y) {r : Interface × Int} (hm : M.s_l10Take d = some r) :
  Calls Tryz.prog 133 #[.agg #[iv d.Mask, SL z d.Stack u, SL A d.Queue.Slots x, SL B d.Queue.Waiting y]] w fun e w' => ∃ a6 ay a9 a7 az ba a8 a0 bb, e = .returned (.tuple #[.agg #[iv r.1.Mask, SL a6 r.1.Stack ay, SL a7 r.1.Queue.Slots az, SL a8 r.1.Queue.Waiting a0], iv r.2]) ∧ ownS Gx.encI r.1.Stack a6 ay a9 ∧ ownS encSlot r.1.Queue.Slots a7 az ba ∧ ownS encWaiter r.1.Queue.Waiting a8 a0 bb ∧ Mem [] w w' [a9, ba, bb] := by
 unfold M.s_l10Take at hm
 refine cE Tryz.func133 ?_
 have M0 := Mem.refl [] w
 refine QA (wN (CE 87 [iv d.Mask, SL z d.Stack u, SL A d.Queue.Slots x, SL B d.Queue.Waiting y]) M0 fun t c8 bi => wN (CE 87 [iv 0, SN, SN, SN]) bi fun C ch bj => MW 1 (NE (GD hm fun V cb hm => GD hm fun W cc hm => GD hm fun c cd hm => GU [(1, pB t 0), (2, pB C 0)] (DL 13 [[],[0],[],[2],[],[4],[3,5],[1,6],[],[8],[8],[],[9,11]] [[],[],[],[],[],[],[],[],[],[],[],[],[11]] (EM 13) [[],[],[],[],[],[],[],[],[7],[7],[7],[],[7]] [[],[],[],[],[],[],[],[],[7],[7],[],[],[7,11]] (EM 13) (fun _ => []) [QV (pB t 2), QV (.agg #[SL A d.Queue.Slots x, SL B d.Queue.Waiting y]), QV (pB t 0), QV (iv d.Mask), QV (.agg #[iv d.Mask, SL z d.Stack u, SL A d.Queue.Slots x, SL B d.Queue.Waiting y]), QV (iv V), QV (iv W), fun f v s => ∃ n l K q m L, v = (.tuple #[.agg #[SL n c.1.Slots l, SL q c.1.Waiting m], iv c.2] : Value) ∧ s = (K ++ L) ∧ ownS encSlot c.1.Slots n l K ∧ ownS encWaiter c.1.Waiting q m L, fun f v s => v = (.tuple #[.agg #[(atPath (f 7) [0, 0]), (atPath (f 7) [0, 1])], iv c.2] : Value) ∧ s = [], fun f v s => v = (.agg #[(atPath (f 7) [0, 0]), (atPath (f 7) [0, 1])] : Value) ∧ s = [], QV (iv c.2), fun f v s => ∃ D, v = (pB D 0 : Value) ∧ s = (BK D 85 [SN, SN]), fun f v s => v = undef ∧ s = [((blkOf (f 11)), .cells ⟨[(atPath (f 7) [0, 0]), (atPath (f 7) [0, 1])]⟩ 85 (0, 0))]] [11] [7, 10, 12] [7, 12] (bj.preNil 13) (AC ?_ (AC ?_ (AC ?_ (AC ?_ (AC ?_ (AC ?_ (AC ?_ (AC ?_ (AC ?_ (AC ?_ (AC ?_ (AC ?_ (AC ?_ AN))))))))))))) ?_))))
 ·intro I J R ci bk
  exact OM ⟨rfl, rfl⟩ bk
 ·rintro I J v0_ ⟨rfl, _⟩ R cj al
  exact OV ⟨rfl, rfl⟩ (eL true 2 2 (al.blk 0 rfl)) al
 ·intro I J R ck bl
  exact OM ⟨rfl, rfl⟩ bl
 ·rintro I J v2_ ⟨rfl, _⟩ R cl am
  exact OV ⟨rfl, rfl⟩ (eL false 1 0 (am.blk 0 rfl)) am
 ·intro I J R cm an
  exact OV ⟨rfl, rfl⟩ (eL true 4 0 (an.blk 0 rfl)) an
 ·rintro I J v4_ ⟨rfl, _⟩ R cn X
  refine WC ((c_s_l10Running cn d z u (a3.mem0 X) A x (a4.mem0 X) B y (a5.mem0 X) cb).mono ?_)
  rintro e_ c9 ⟨rfl, be⟩
  refine ⟨_, rfl, ?_⟩
  exact WN (oE (iv V) [] ⟨rfl, rfl⟩ (X.call0 be))
 ·rintro I J v3_ ⟨rfl, _⟩
  rintro v5_ ⟨rfl, _⟩ R co bm
  refine WC ((c_s_l1Least co d.Mask V cc).mono ?_)
  rintro e_ da ⟨rfl, bf⟩
  refine ⟨_, rfl, ?_⟩
  exact WN (oE (iv W) [] ⟨rfl, rfl⟩ (bm.call0 bf))
 ·rintro I J v1_ ⟨rfl, _⟩
  rintro v6_ ⟨rfl, _⟩ R cp ae
  refine WC ((c_s_l9Take cp d.Queue A x (a4.mem0 ae) B y (a5.mem0 ae) W cd).mono ?_)
  rintro e_ db ⟨n, l, K, q, m, L, rfl, ai, aj, bg⟩
  refine ⟨_, rfl, ?_⟩
  exact WN (oE (.tuple #[.agg #[SL n c.1.Slots l, SL q c.1.Waiting m], iv c.2]) (K ++ L) ⟨n, l, K, q, m, L, rfl, rfl, ai, aj⟩ (Mem.callMid ae (bg.permF (by simp))))
 ·intro I J v7_ hb7_
  obtain ⟨_, n, l, _, q, m, _, rfl, _⟩ := hb7_
  intro R cq bn
  exact OM ⟨rfl, rfl⟩ bn
 ·intro I J v7_ hb7_
  obtain ⟨_, n, l, _, q, m, _, rfl, _⟩ := hb7_
  intro v8_ hb8_
  obtain ⟨hv8_, _⟩ := hb8_
  obtain rfl : v8_ = (.tuple #[.agg #[SL n c.1.Slots l, SL q c.1.Waiting m], iv c.2] : Value) := hv8_.trans (by kernel_rfl)
  intro R cr bo
  exact OM ⟨rfl, rfl⟩ bo
 ·intro I J v7_ hb7_
  obtain ⟨_, n, l, _, q, m, _, rfl, _⟩ := hb7_
  intro v8_ hb8_
  obtain ⟨hv8_, _⟩ := hb8_
  obtain rfl : v8_ = (.tuple #[.agg #[SL n c.1.Slots l, SL q c.1.Waiting m], iv c.2] : Value) := hv8_.trans (by kernel_rfl)
  intro R ct bp
  exact OM ⟨rfl, rfl⟩ bp
 ·intro I J R dc bq
  exact wN (CE 85 [SN, SN]) bq fun D dd br => WN (oE (pB D 0) (BK D 85 [SN, SN]) ⟨D, rfl, rfl⟩ (Mem.mid br))
 ·intro I J v7_ hb7_
  obtain ⟨_, n, l, _, q, m, _, rfl, _⟩ := hb7_
  intro v9_ hb9_
  obtain ⟨hv9_, _⟩ := hb9_
  obtain rfl : v9_ = (.agg #[SL n c.1.Slots l, SL q c.1.Waiting m] : Value) := hv9_.trans (by kernel_rfl)
  intro v11_ hb11_
  obtain ⟨D, rfl, hs11_⟩ := hb11_
  intro R bc bs
  have Y : Mem [] w bc ([(BK t 87 [iv d.Mask, SL z d.Stack u, SL A d.Queue.Slots x, SL B d.Queue.Waiting y]), (BK C 87 [iv 0, SN, SN, SN])] ++ ([[]] ++ ([(I 11)] ++ ([] ++ R)))) := bs
  rw [hs11_] at Y
  replace Y : Mem [] w bc ([(BK t 87 [iv d.Mask, SL z d.Stack u, SL A d.Queue.Slots x, SL B d.Queue.Waiting y]), (BK C 87 [iv 0, SN, SN, SN])] ++ ([[]] ++ ([(BK D 85 [SN, SN])] ++ ([] ++ R)))) := Y.permF (by simp)
  exact wS true 2 0 (.agg #[SL n c.1.Slots l, SL q c.1.Waiting m]) 3 [SL n c.1.Slots l, SL q c.1.Waiting m] Y rfl fun de bt => WN (ob_none (BK D 85 [SL n c.1.Slots l, SL q c.1.Waiting m]) rfl ⟨rfl, by kernel_rfl⟩ (Mem.takeOver bt))
 intro I J v11_ hb11_
 obtain ⟨_, D, rfl, hs11_⟩ := hb11_
 intro v7_ hb7_
 obtain ⟨n, l, K, q, m, L, rfl, hs7_, ai, aj⟩ := hb7_
 rintro v10_ ⟨rfl, _⟩ v12_ hb12_
 obtain ⟨rfl, hs12_⟩ := hb12_
 replace hs12_ := hs12_.trans (show _ = (BK D 85 [SL n c.1.Slots l, SL q c.1.Waiting m]) by kernel_rfl)
 intro ak bu
 have U : Mem [] w ak [(BK t 87 [iv d.Mask, SL z d.Stack u, SL A d.Queue.Slots x, SL B d.Queue.Waiting y]), (BK C 87 [iv 0, SN, SN, SN]), K, L, (BK D 85 [SL n c.1.Slots l, SL q c.1.Waiting m])] := bu.permF (by simp [hs7_, hs12_, SL])
 refine MW 1 (NE (GD hm fun P ce hm => GU [(1, pB t 0), (2, pB C 0), (4, pB D 0), (5, iv c.2)] (DL 8 [[],[0],[],[2],[3],[],[1,5],[]] (EM 8) (EM 8) [[],[],[],[],[],[],[4],[]] [[],[],[],[],[],[],[4],[]] (EM 8) (fun _ => []) [QV (pB t 0), QV (iv d.Mask), QV (pB t 1), QV (.slice z d.Stack.length u), fun f v s => ∃ H G, v = (.slice H P.length G : Value) ∧ ownS Gx.encI P H G s, QV (.agg #[SL n c.1.Slots l, SL q c.1.Waiting m]), fun f v s => v = (.agg #[iv d.Mask, (atPath (f 4) []), SL n c.1.Slots l, SL q c.1.Waiting m] : Value) ∧ s = [], fun f v s => ∃ F, v = (pB F 0 : Value) ∧ s = (BK F 87 [iv 0, SN, SN, SN])] [] [4, 6, 7] [4, 7] (U.preNil 8) (AC ?_ (AC ?_ (AC ?_ (AC ?_ (AC ?_ (AC ?_ (AC ?_ (AC ?_ AN)))))))) ?_)))
 ·intro Q T R cu bv
  exact OM ⟨rfl, rfl⟩ bv
 ·rintro Q T v0_ ⟨rfl, _⟩ R cv ao
  exact OV ⟨rfl, rfl⟩ (eL false 1 0 (ao.blk 0 rfl)) ao
 ·intro Q T R cw bw
  exact OM ⟨rfl, rfl⟩ bw
 ·rintro Q T v2_ ⟨rfl, _⟩ R cx ap
  exact OV ⟨rfl, rfl⟩ (eL false 1 1 (ap.blk 0 rfl)) ap
 ·rintro Q T v3_ ⟨rfl, _⟩ R cy aq
  refine WC ((c_s_l1Own cy d.Stack z u (a3.mem0 aq) ce).mono ?_)
  rintro e_ df ⟨H, G, cf, rfl, aa, bh⟩
  refine ⟨_, rfl, ?_⟩
  exact WN (oE (SL H P G) cf ⟨H, G, rfl, aa⟩ (Mem.callMid aq bh))
 ·intro Q T R cz ar
  exact OV ⟨rfl, rfl⟩ (eL true 2 0 (ar.blk 4 rfl)) ar
 ·intro Q T v4_ hb4_
  obtain ⟨_, H, G, rfl, _⟩ := hb4_
  rintro v1_ ⟨rfl, _⟩
  rintro v5_ ⟨rfl, _⟩ R c0 bx
  exact OM ⟨rfl, rfl⟩ bx
 ·intro Q T R dg bz
  exact wN (CE 87 [iv 0, SN, SN, SN]) bz fun F dh b0 => WN (oE (pB F 0) (BK F 87 [iv 0, SN, SN, SN]) ⟨F, rfl, rfl⟩ (Mem.mid b0))
 intro Q T v4_ hb4_
 obtain ⟨H, G, rfl, aa⟩ := hb4_
 intro v6_ hb6_
 obtain ⟨hv6_, _⟩ := hb6_
 obtain rfl : v6_ = (.agg #[iv d.Mask, SL H P G, SL n c.1.Slots l, SL q c.1.Waiting m] : Value) := hv6_.trans (by kernel_rfl)
 intro v7_ hb7_
 obtain ⟨F, rfl, hs7_⟩ := hb7_
 intro c1 b1
 have au : Mem [] w c1 [(BK t 87 [iv d.Mask, SL z d.Stack u, SL A d.Queue.Slots x, SL B d.Queue.Waiting y]), (BK C 87 [iv 0, SN, SN, SN]), K, L, (BK D 85 [SL n c.1.Slots l, SL q c.1.Waiting m]), (Q 4), (Q 7)] := b1
 rw [hs7_] at au
 refine wS true 4 0 (.agg #[iv d.Mask, SL H P G, SL n c.1.Slots l, SL q c.1.Waiting m]) 6 [iv d.Mask, SL H P G, SL n c.1.Slots l, SL q c.1.Waiting m] au rfl fun ad af => NB (MW 2 (NO (GD hm fun S b7 b6 => G_meet (fun a w' => ∃ O N ac, ownS Gx.encI S O N ac ∧ Mem [] w w' [(BK C 87 [iv 0, SN, SN, SN]), K, L, (BK F 87 [iv d.Mask, SL O S N, SL n c.1.Slots l, SL q c.1.Waiting m]), ac] ∧ Sat Tryz.f133.ntmps [(2, pB C 0), (5, iv c.2), (6, pB F 0)] a) ?_ ?_)))
 ·have hm := b7
  refine GT hm (fun ah hm => ?_) fun ah hm => ?_
  ·refine GR (MW 1 (wV (SL H P G) ad (eL false 1 1 (af.blk 6 rfl)) (MW 1 (wL (E := Gx.encI) [c.2] 1 [iv c.2] 3 af fun c6 c5 c7 di b9 av => GD hm fun ag b5 hm => wA 8 [iv 0] 5 av aa (b9.r av 7) b5 fun ab Z cg c2 ca b2 => MW 1 (wS false 1 1 (SL ab ag Z) 6 [iv d.Mask, SL ab ag Z, SL n c.1.Slots l, SL q c.1.Waiting m] b2 rfl fun dj b3 => WN ?_)))))
   obtain rfl := HS hm
   exact NM fun a ha => ⟨ab, Z, cg, ca, b3.pk [1, 2, 3, 6, 5], ha.s⟩
  refine GK ?_
  obtain rfl := HS hm
  exact NM fun a ha => ⟨H, G, (Q 4), aa, af.pk [1, 2, 3, 6, 5], ha.s⟩
 intro c4 bd ⟨O, N, ac, b8, aw, b4⟩
 refine N_use b4 ?_
 have hm := b6
 refine NF (wV (.agg #[iv d.Mask, SL O S N, SL n c.1.Slots l, SL q c.1.Waiting m]) bd (eL true 4 0 (aw.blk 3 rfl)) (MW 1 (wS true 4 0 (.agg #[iv d.Mask, SL O S N, SL n c.1.Slots l, SL q c.1.Waiting m]) 0 [iv d.Mask, SL O S N, SL n c.1.Slots l, SL q c.1.Waiting m] aw rfl fun c3 ax => MW 1 (NC ?_))))
 obtain rfl := HS hm
 exact N_ret [.agg #[iv d.Mask, SL O S N, SL n c.1.Slots l, SL q c.1.Waiting m], iv c.2] (RX true 4 0 (ax.blk 0 rfl) (rC RVs_nil)) (⟨O, N, ac, n, l, K, q, m, L, rfl, b8, ai, aj, ax.pk [4, 1, 2]⟩)
theorem c_s_l8End (w : World) (d : List Slot) (b f) (h : rdS encSlot w d b f) (l : Int) {r : (List Slot) × Bool} (hm : M.s_l8End d l = some r) :
  Calls Tryz.prog 227 #[SL b d f, iv l] w fun e w' => ∃ I G L, e = .returned (.tuple #[SL I r.1 G, .bool r.2]) ∧ ownS encSlot r.1 I G L ∧ Mem [] w w' [L] := by
 unfold M.s_l8End at hm
 refine cE Tryz.func227 ?_
 have M0 := Mem.refl [] w
 refine QA (MW 2 (NA (MW 2 (GD hm fun c ad hm => WD (c_s_l8Find w d b f (h.mem0 M0) l ad) M0 fun k m => MW 1 (NE (GS (GD hm fun ag Z Y => G_meet (fun a w' => Mem [] w w' [] ∧ Sat Tryz.f227.ntmps [(0, SL b d f), (6, iv c), (20, .bool ag)] a) ?_ ?_)))))))
 ·have hm := Z
  refine GR (wR 3 [(0, SL b d f), (6, iv c), (13, .bool (decide (c < 0)))] k ?_)
  rcases gx_bif hm with ⟨v, hm⟩ | ⟨v, hm⟩
  ·refine wK 13 true v (MW 7 (WN ?_))
   obtain rfl := HS hm
   exact NM fun a ha => ⟨m.pk [], ha.s⟩
  refine wK 13 false v (MW 2 (GD hm fun N z hm => wV (elemP b (c.toNat * 3)) k (eI (h.mem0 m) rfl z) (wV (elemP b (c.toNat * 3 + 0)) k (eF 0 (c.toNat * 3) 0 (h.mem0 m) z) (wV (iv N.State) k (eE false 1 0 (c.toNat * 3 + 0) (h.mem0 m) z) (MW 2 (WN ?_))))))
  obtain rfl := HS hm
  exact NM fun a ha => ⟨m.pk [], ha.s⟩
 intro ao i ⟨j, X⟩
 refine N_use X ?_
 have hm := Y
 refine TN (GT hm (fun x hm => ?_) fun x hm => ?_)
 ·refine QA (wL (E := encSlot) ([] : List Slot) 0 [] 117 j fun B q ah ak aa S => MW 2 (ND ?_))
  cases hm
  exact RA [SL B ([] : List Slot) q, .bool false] (⟨B, q, ah, rfl, aa, S.pk [0]⟩)
 refine KB (MW 2 (GD hm fun O A hm => wV (elemP b (c.toNat * 3)) i (eI (h.mem0 j) rfl A) (wV (elemP b (c.toNat * 3 + 0)) i (eF 0 (c.toNat * 3) 0 (h.mem0 j) A) (wV (iv O.State) i (eE false 1 0 (c.toNat * 3 + 0) (h.mem0 j) A) (wR 1 [(0, SL b d f), (6, iv c), (27, .bool (O.State == 2))] i (NO (GT hm (fun y hm => ?_) fun y hm => ?_)))))))
 ·refine QA (MW 3 (GD hm fun J ae hm => WC ((c_s_l8With i d b f (h.mem0 j) c (⟨0, 0, 0⟩ : Slot) ae).mono ?_)))
  rintro e_ al ⟨C, t, ai, rfl, ab, Q⟩
  have T := j.call Q
  refine ⟨_, rfl, ?_⟩
  refine MW 2 (ND ?_)
  cases hm
  exact RA [SL C J t, .bool true] (⟨C, t, ai, rfl, ab, T.pk [0]⟩)
 refine KA (MW 2 (GD hm fun g H hm => wV (elemP b (c.toNat * 3)) i (eI (h.mem0 j) rfl H) (wV (.agg #[iv g.State, iv g.Irq, iv g.Priority]) i (eE true 3 0 (c.toNat * 3) (h.mem0 j) H) (wN (CE 117 [iv 0, iv 0, iv 0]) j fun o ap U => wS true 3 0 (.agg #[iv g.State, iv g.Irq, iv g.Priority]) 0 [iv g.State, iv g.Irq, iv g.Priority] U rfl fun am V => NA (MW 1 (wS false 1 0 (iv 1) 0 [iv 1, iv g.Irq, iv g.Priority] V rfl fun F n => NA (MW 2 (wV (.agg #[iv 1, iv g.Irq, iv g.Priority]) F (eL true 3 0 (n.blk 0 rfl)) (GD hm fun K af hm => WC ((c_s_l8With F d b f (h.mem0 n) c (⟨1, g.Irq, g.Priority⟩ : Slot) af).mono ?_))))))))))
 rintro e_ an ⟨D, u, aj, rfl, ac, R⟩
 have W := n.call R
 refine ⟨_, rfl, ?_⟩
 refine MW 2 (NC ?_)
 cases hm
 exact RA [SL D K u, .bool true] (⟨D, u, aj, rfl, ac, W.pk [1]⟩)
theorem c_s_l9End (w : World) (a : Queue) (n i) (S : rdS encSlot w a.Slots n i) (q j) (T : rdS encWaiter w a.Waiting q j) (y : Int) {r : Queue × Bool} (hm : M.s_l9End a y = some r) :
  Calls Tryz.prog 176 #[.agg #[SL n a.Slots i, SL q a.Waiting j], iv y] w fun e w' => ∃ J H L K I N, e = .returned (.tuple #[.agg #[SL J r.1.Slots H, SL K r.1.Waiting I], .bool r.2]) ∧ ownS encSlot r.1.Slots J H L ∧ ownS encWaiter r.1.Waiting K I N ∧ Mem [] w w' [L, N] := by
 unfold M.s_l9End at hm
 refine cE Tryz.func176 ?_
 have M0 := Mem.refl [] w
 refine QA (wN (CE 85 [SL n a.Slots i, SL q a.Waiting j]) M0 fun h ae Q => wN (CE 85 [SN, SN]) Q fun c C D => MW 1 (NA (MW 1 (wV (SL n a.Slots i) C (eL false 1 0 (D.blk 0 rfl)) (MW 1 (GD hm fun f X hm => WC ((c_s_l8End C a.Slots n i (S.mem0 D) y X).mono ?_)))))))
 rintro e_ x ⟨A, z, ad, rfl, U, O⟩
 have B := D.call O
 refine ⟨_, rfl, ?_⟩
 refine MW 5 (NB (MW 2 (NO (GT hm (fun E hm => ?_) fun E hm => ?_))))
 ·refine QA (MW 1 (wS true 2 0 (.agg #[SN, SN]) 1 [SN, SN] B rfl fun ab F => MW 1 (ND ?_)))
  obtain rfl := HS hm
  exact N_ret [.agg #[SN, SN], .bool false] (RX true 2 0 (F.blk 1 rfl) (rC RVs_nil)) (⟨none, 0, [], none, 0, [], rfl, ownS_nil, ownS_nil, F.pk [100000, 100001]⟩)
 refine KA (MW 2 (wV (SL q a.Waiting j) x (eL false 1 1 (B.blk 0 rfl)) (MW 1 (GD hm fun d Y hm => WC ((c_s_l9Settle x (⟨f.1, a.Waiting⟩ : Queue) A z (U.r B 2) q j (T.mem0 B) Y).mono ?_)))))
 rintro e_ af ⟨t, l, Z, u, m, aa, rfl, V, W, P⟩
 have R := B.call P
 refine ⟨_, rfl, ?_⟩
 refine wS true 2 0 (.agg #[SL t d.Slots l, SL u d.Waiting m]) 1 [SL t d.Slots l, SL u d.Waiting m] R rfl fun ac G => wR 1 [(4, pB c 0), (5, .bool true)] ac (NC ?_)
 obtain rfl := HS hm
 exact N_ret [.agg #[SL t d.Slots l, SL u d.Waiting m], .bool true] (RX true 2 0 (G.blk 1 rfl) (rC RVs_nil)) (⟨t, l, Z, u, m, aa, rfl, V, W, G.pk [3, 4]⟩)
theorem c_s_l10Leave (w : World) (a : Interface) (q t) (O : rdS Gx.encI w a.Stack q t) (F C) (b0 : rdS encSlot w a.Queue.Slots F C) (G D) (b1 : rdS encWaiter w a.Queue.Waiting G D) {r : Interface × Int} (hm : M.s_l10Leave a = some r) :
  Calls Tryz.prog 134 #[.agg #[iv a.Mask, SL q a.Stack t, SL F a.Queue.Slots C, SL G a.Queue.Waiting D]] w fun e w' => ∃ ay aq a3 az ar a4 a0 au a5, e = .returned (.tuple #[.agg #[iv r.1.Mask, SL ay r.1.Stack aq, SL az r.1.Queue.Slots ar, SL a0 r.1.Queue.Waiting au], iv r.2]) ∧ ownS Gx.encI r.1.Stack ay aq a3 ∧ ownS encSlot r.1.Queue.Slots az ar a4 ∧ ownS encWaiter r.1.Queue.Waiting a0 au a5 ∧ Mem [] w w' [a3, a4, a5] := by
 unfold M.s_l10Leave at hm
 refine cE Tryz.func134 ?_
 have M0 := Mem.refl [] w
 refine QA (wN (CE 87 [iv a.Mask, SL q a.Stack t, SL F a.Queue.Slots C, SL G a.Queue.Waiting D]) M0 fun u c0 ba => wN (CE 87 [iv 0, SN, SN, SN]) ba fun z P V => MW 1 (NA (MW 1 (wV (SL q a.Stack t) P (eL false 1 1 (V.blk 0 rfl)) (MW 2 (NB (MW 2 (NO (GT hm (fun aa hm => ?_) fun aa hm => ?_)))))))))
 ·refine QA (wV (.agg #[iv a.Mask, SL q a.Stack t, SL F a.Queue.Slots C, SL G a.Queue.Waiting D]) P (eL true 4 0 (V.blk 0 rfl)) (wS true 4 0 (.agg #[iv a.Mask, SL q a.Stack t, SL F a.Queue.Slots C, SL G a.Queue.Waiting D]) 1 [iv a.Mask, SL q a.Stack t, SL F a.Queue.Slots C, SL G a.Queue.Waiting D] V rfl fun b5 cz => MW 1 (ND ?_)))
  cases hm
 refine GK (TN (GS (GD hm fun Q av hm => GD hm fun c b2 hm => GU [(1, pB u 0), (2, pB z 0), (4, iv (a.Stack.length : Int)), (11, .bool ((a.Stack.length : Int) == 0))] (DL 14 [[],[0],[],[2],[],[4],[3,5],[6],[1,7],[],[9],[9],[],[10,12]] [[],[],[],[],[],[],[],[],[],[],[],[],[],[12]] (EM 14) [[],[],[],[],[],[],[],[],[],[8],[8],[8],[],[8]] [[],[],[],[],[],[],[],[],[],[8],[8],[],[],[8,12]] (EM 14) (fun _ => []) [QV (pB u 2), QV (.agg #[SL F a.Queue.Slots C, SL G a.Queue.Waiting D]), QV (pB u 1), QV (.slice q a.Stack.length t), QV (iv (a.Stack.length : Int)), QV (iv (w64 ((a.Stack.length : Int) - 1))), QV (elemP q ((w64 ((a.Stack.length : Int) - 1)).toNat * 1)), QV (iv Q), fun f v s => ∃ m d L n l N, v = (.tuple #[.agg #[SL m c.1.Slots d, SL n c.1.Waiting l], .bool c.2] : Value) ∧ s = (L ++ N) ∧ ownS encSlot c.1.Slots m d L ∧ ownS encWaiter c.1.Waiting n l N, fun f v s => v = (.tuple #[.agg #[(atPath (f 8) [0, 0]), (atPath (f 8) [0, 1])], .bool c.2] : Value) ∧ s = [], fun f v s => v = (.agg #[(atPath (f 8) [0, 0]), (atPath (f 8) [0, 1])] : Value) ∧ s = [], QV (.bool c.2), fun f v s => ∃ B, v = (pB B 0 : Value) ∧ s = (BK B 85 [SN, SN]), fun f v s => v = undef ∧ s = [((blkOf (f 12)), .cells ⟨[(atPath (f 8) [0, 0]), (atPath (f 8) [0, 1])]⟩ 85 (0, 0))]] [12] [8, 11, 13] [8, 13] (V.preNil 14) (AC ?_ (AC ?_ (AC ?_ (AC ?_ (AC ?_ (AC ?_ (AC ?_ (AC ?_ (AC ?_ (AC ?_ (AC ?_ (AC ?_ (AC ?_ (AC ?_ AN)))))))))))))) ?_))))
 ·intro I K R b6 bb
  exact OM ⟨rfl, rfl⟩ bb
 ·rintro I K v0_ ⟨rfl, _⟩ R b7 ae
  exact OV ⟨rfl, rfl⟩ (eL true 2 2 (ae.blk 0 rfl)) ae
 ·intro I K R b8 bc
  exact OM ⟨rfl, rfl⟩ bc
 ·rintro I K v2_ ⟨rfl, _⟩ R b9 af
  exact OV ⟨rfl, rfl⟩ (eL false 1 1 (af.blk 0 rfl)) af
 ·intro I K R ca bd
  exact OM ⟨rfl, rfl⟩ bd
 ·rintro I K v4_ ⟨rfl, _⟩ R cb be
  exact OM ⟨rfl, rfl⟩ be
 ·rintro I K v3_ ⟨rfl, _⟩
  rintro v5_ ⟨rfl, _⟩ R cc ag
  exact OV ⟨rfl, rfl⟩ (eI (O.mem0 ag) rfl av) ag
 ·rintro I K v6_ ⟨rfl, _⟩ R cd ah
  exact OV ⟨rfl, rfl⟩ (eE false 1 0 ((w64 ((a.Stack.length : Int) - 1)).toNat * 1) (O.mem0 ah) av) ah
 ·rintro I K v1_ ⟨rfl, _⟩
  rintro v7_ ⟨rfl, _⟩ R ce Y
  refine WC ((c_s_l9End ce a.Queue F C (b0.mem0 Y) G D (b1.mem0 Y) Q b2).mono ?_)
  rintro e_ c1 ⟨m, d, L, n, l, N, rfl, ab, ac, a8⟩
  refine ⟨_, rfl, ?_⟩
  exact WN (oE (.tuple #[.agg #[SL m c.1.Slots d, SL n c.1.Waiting l], .bool c.2]) (L ++ N) ⟨m, d, L, n, l, N, rfl, rfl, ab, ac⟩ (Mem.callMid Y (a8.permF (by simp))))
 ·intro I K v8_ hb8_
  obtain ⟨_, m, d, _, n, l, _, rfl, _⟩ := hb8_
  intro R cf bf
  exact OM ⟨rfl, rfl⟩ bf
 ·intro I K v8_ hb8_
  obtain ⟨_, m, d, _, n, l, _, rfl, _⟩ := hb8_
  intro v9_ hb9_
  obtain ⟨hv9_, _⟩ := hb9_
  obtain rfl : v9_ = (.tuple #[.agg #[SL m c.1.Slots d, SL n c.1.Waiting l], .bool c.2] : Value) := hv9_.trans (by kernel_rfl)
  intro R cg bg
  exact OM ⟨rfl, rfl⟩ bg
 ·intro I K v8_ hb8_
  obtain ⟨_, m, d, _, n, l, _, rfl, _⟩ := hb8_
  intro v9_ hb9_
  obtain ⟨hv9_, _⟩ := hb9_
  obtain rfl : v9_ = (.tuple #[.agg #[SL m c.1.Slots d, SL n c.1.Waiting l], .bool c.2] : Value) := hv9_.trans (by kernel_rfl)
  intro R ch bh
  exact OM ⟨rfl, rfl⟩ bh
 ·intro I K R c2 bi
  exact wN (CE 85 [SN, SN]) bi fun B c3 bj => WN (oE (pB B 0) (BK B 85 [SN, SN]) ⟨B, rfl, rfl⟩ (Mem.mid bj))
 ·intro I K v8_ hb8_
  obtain ⟨_, m, d, _, n, l, _, rfl, _⟩ := hb8_
  intro v10_ hb10_
  obtain ⟨hv10_, _⟩ := hb10_
  obtain rfl : v10_ = (.agg #[SL m c.1.Slots d, SL n c.1.Waiting l] : Value) := hv10_.trans (by kernel_rfl)
  intro v12_ hb12_
  obtain ⟨B, rfl, hs12_⟩ := hb12_
  intro R a6 bk
  have W : Mem [] w a6 ([(BK u 87 [iv a.Mask, SL q a.Stack t, SL F a.Queue.Slots C, SL G a.Queue.Waiting D]), (BK z 87 [iv 0, SN, SN, SN])] ++ ([[]] ++ ([(I 12)] ++ ([] ++ R)))) := bk
  rw [hs12_] at W
  replace W : Mem [] w a6 ([(BK u 87 [iv a.Mask, SL q a.Stack t, SL F a.Queue.Slots C, SL G a.Queue.Waiting D]), (BK z 87 [iv 0, SN, SN, SN])] ++ ([[]] ++ ([(BK B 85 [SN, SN])] ++ ([] ++ R)))) := W.permF (by simp)
  exact wS true 2 0 (.agg #[SL m c.1.Slots d, SL n c.1.Waiting l]) 3 [SL m c.1.Slots d, SL n c.1.Waiting l] W rfl fun c4 bl => WN (ob_none (BK B 85 [SL m c.1.Slots d, SL n c.1.Waiting l]) rfl ⟨rfl, by kernel_rfl⟩ (Mem.takeOver bl))
 intro I K v12_ hb12_
 obtain ⟨_, B, rfl, hs12_⟩ := hb12_
 intro v8_ hb8_
 obtain ⟨m, d, L, n, l, N, rfl, hs8_, ab, ac⟩ := hb8_
 rintro v11_ ⟨rfl, _⟩ v13_ hb13_
 obtain ⟨rfl, hs13_⟩ := hb13_
 replace hs13_ := hs13_.trans (show _ = (BK B 85 [SL m c.1.Slots d, SL n c.1.Waiting l]) by kernel_rfl)
 intro X bm
 have U : Mem [] w X [(BK u 87 [iv a.Mask, SL q a.Stack t, SL F a.Queue.Slots C, SL G a.Queue.Waiting D]), (BK z 87 [iv 0, SN, SN, SN]), L, N, (BK B 85 [SL m c.1.Slots d, SL n c.1.Waiting l])] := bm.permF (by simp [hs8_, hs13_, SL])
 refine MW 1 (NE (GD hm fun T ax hm => GD hm fun J b3 hm => GD hm fun S aw hm => ?_))
 have bn : Mem [] w X ([(BK u 87 [iv a.Mask, SL q a.Stack t, SL F a.Queue.Slots C, SL G a.Queue.Waiting D]), L, N, (BK B 85 [SL m c.1.Slots d, SL n c.1.Waiting l])] ++ (List.range 17).map (fun i => ([[], [], [], [], [], [], [], [], [], [], [], [], [], [], [], [], (BK z 87 [iv 0, SN, SN, SN])] : List Seg).getD i [])) := U.pk [0, 2, 3, 4, 300000, 300001, 300002, 300003, 300004, 300005, 300006, 300007, 300008, 300009, 300010, 300011, 300012, 300013, 300014, 300015, 1]
 refine GU [(1, pB u 0), (2, pB z 0), (4, iv (a.Stack.length : Int)), (5, pB B 0)] (DL 17 [[],[0],[],[2],[],[4],[3,5],[6],[],[1,8],[],[10],[],[12],[11,13],[14],[9]] (EM 17) (EM 17) [[],[],[],[],[],[],[],[],[],[7],[],[],[],[],[],[],[7]] [[],[],[],[],[],[],[],[],[],[7],[],[],[],[],[],[],[7]] (EM 17) (fun i => ([[], [], [], [], [], [], [], [], [], [], [], [], [], [], [], [], (BK z 87 [iv 0, SN, SN, SN])] : List Seg).getD i []) [QV (pB u 0), QV (iv a.Mask), QV (pB u 1), QV (.slice q a.Stack.length t), QV (iv (a.Stack.length : Int)), QV (iv (w64 ((a.Stack.length : Int) - 1))), QV (.slice (subP q (0 : Int).toNat t 1) T.length (t - (0 : Int).toNat)), fun f v s => ∃ y x, v = (.slice y J.length x : Value) ∧ ownS Gx.encI J y x s, QV (.agg #[SL m c.1.Slots d, SL n c.1.Waiting l]), fun f v s => v = (.agg #[iv a.Mask, (atPath (f 7) []), SL m c.1.Slots d, SL n c.1.Waiting l] : Value) ∧ s = [], QV (pB u 1), QV (.slice q a.Stack.length t), QV (iv (a.Stack.length : Int)), QV (iv (w64 ((a.Stack.length : Int) - 1))), QV (elemP q ((w64 ((a.Stack.length : Int) - 1)).toNat * 1)), QV (iv S), fun f v s => v = undef ∧ s = (BK z 87 [iv a.Mask, (atPath (f 7) []), SL m c.1.Slots d, SL n c.1.Waiting l])] [] [7, 15, 16] [7, 16] bn (AC ?_ (AC ?_ (AC ?_ (AC ?_ (AC ?_ (AC ?_ (AC ?_ (AC ?_ (AC ?_ (AC ?_ (AC ?_ (AC ?_ (AC ?_ (AC ?_ (AC ?_ (AC ?_ (AC ?_ AN))))))))))))))))) ?_)
 ·intro A H R ci bo
  exact OM ⟨rfl, rfl⟩ bo
 ·rintro A H v0_ ⟨rfl, _⟩ R cj ai
  exact OV ⟨rfl, rfl⟩ (eL false 1 0 (ai.blk 0 rfl)) ai
 ·intro A H R ck bp
  exact OM ⟨rfl, rfl⟩ bp
 ·rintro A H v2_ ⟨rfl, _⟩ R cl aj
  exact OV ⟨rfl, rfl⟩ (eL false 1 1 (aj.blk 0 rfl)) aj
 ·intro A H R cm bq
  exact OM ⟨rfl, rfl⟩ bq
 ·rintro A H v4_ ⟨rfl, _⟩ R cn br
  exact OM ⟨rfl, rfl⟩ br
 ·rintro A H v3_ ⟨rfl, _⟩
  rintro v5_ ⟨rfl, _⟩ R co ak
  exact OV ⟨rfl, rfl⟩ (E_slice (E := Gx.encI) _ _ _ _ a.Stack.length 0 (w64 ((a.Stack.length : Int) - 1)) rfl (by kernel_rfl) (Or.inl ⟨rfl, rfl⟩) (Or.inr ⟨_, rfl, by kernel_rfl⟩) (by kernel_rfl) (O.mem0 ak) rfl ax) ak
 ·rintro A H v6_ ⟨rfl, _⟩ R cp al
  refine WC ((c_s_l1Own cp T (subP q (0 : Int).toNat t 1) (t - (0 : Int).toNat) ((O.mem0 al).sliceM ax) b3).mono ?_)
  rintro e_ c5 ⟨y, x, b4, rfl, ad, a9⟩
  refine ⟨_, rfl, ?_⟩
  exact WN (oE (SL y J x) b4 ⟨y, x, rfl, ad⟩ (Mem.callMid al a9))
 ·intro A H R cq am
  exact OV ⟨rfl, rfl⟩ (eL true 2 0 (am.blk 3 rfl)) am
 ·intro A H v7_ hb7_
  obtain ⟨_, y, x, rfl, _⟩ := hb7_
  rintro v1_ ⟨rfl, _⟩
  rintro v8_ ⟨rfl, _⟩ R cr bs
  exact OM ⟨rfl, rfl⟩ bs
 ·intro A H R ct bt
  exact OM ⟨rfl, rfl⟩ bt
 ·rintro A H v10_ ⟨rfl, _⟩ R cu an
  exact OV ⟨rfl, rfl⟩ (eL false 1 1 (an.blk 0 rfl)) an
 ·intro A H R cv bu
  exact OM ⟨rfl, rfl⟩ bu
 ·rintro A H v12_ ⟨rfl, _⟩ R cw bv
  exact OM ⟨rfl, rfl⟩ bv
 ·rintro A H v11_ ⟨rfl, _⟩
  rintro v13_ ⟨rfl, _⟩ R cx ao
  exact OV ⟨rfl, rfl⟩ (eI (O.mem0 ao) rfl aw) ao
 ·rintro A H v14_ ⟨rfl, _⟩ R cy ap
  exact OV ⟨rfl, rfl⟩ (eE false 1 0 ((w64 ((a.Stack.length : Int) - 1)).toNat * 1) (O.mem0 ap) aw) ap
 ·intro A H v7_ hb7_
  obtain ⟨_, y, x, rfl, _⟩ := hb7_
  intro v9_ hb9_
  obtain ⟨hv9_, _⟩ := hb9_
  obtain rfl : v9_ = (.agg #[iv a.Mask, SL y J x, SL m c.1.Slots d, SL n c.1.Waiting l] : Value) := hv9_.trans (by kernel_rfl)
  intro R c6 bw
  exact wS true 4 0 (.agg #[iv a.Mask, SL y J x, SL m c.1.Slots d, SL n c.1.Waiting l]) 4 [iv a.Mask, SL y J x, SL m c.1.Slots d, SL n c.1.Waiting l] bw rfl fun c7 bx => WN (ob_none (BK z 87 [iv a.Mask, SL y J x, SL m c.1.Slots d, SL n c.1.Waiting l]) rfl ⟨rfl, by kernel_rfl⟩ bx)
 intro A H v7_ hb7_
 obtain ⟨y, x, rfl, ad⟩ := hb7_
 rintro v15_ ⟨rfl, _⟩ v16_ hb16_
 obtain ⟨rfl, hs16_⟩ := hb16_
 replace hs16_ := hs16_.trans (show _ = (BK z 87 [iv a.Mask, SL y J x, SL m c.1.Slots d, SL n c.1.Waiting l]) by kernel_rfl)
 intro a7 bz
 have Z : Mem [] w a7 [(BK u 87 [iv a.Mask, SL q a.Stack t, SL F a.Queue.Slots C, SL G a.Queue.Waiting D]), L, N, (BK B 85 [SL m c.1.Slots d, SL n c.1.Waiting l]), (A 7), (A 16)] := bz
 rw [hs16_] at Z
 refine MW 1 (NC ?_)
 obtain rfl := HS hm
 exact N_ret [.agg #[iv a.Mask, SL y J x, SL m c.1.Slots d, SL n c.1.Waiting l], iv S] (RX true 4 0 (Z.blk 5 rfl) (rC RVs_nil)) (⟨y, x, (A 7), m, d, L, n, l, N, rfl, ad, ab, ac, Z.pk [4, 1, 2]⟩)
end Go.Proofs.YtllhajkgkghhdaaGreat
set_option linter.unusedVariables false
set_option linter.unusedSimpArgs false
set_option maxRecDepth 100000
set_option maxHeartbeats 4000000
namespace Go.Proofs.YtllhajkgkghhdaaGreat
open Go.Gx
theorem c_s_l10Leave__k (w : World) (a : Interface) (d l) (O : rdS Gx.encI w a.Stack d l) (z x) (br : rdS encSlot w a.Queue.Slots z x) (A y) (bs : rdS encWaiter w a.Queue.Waiting A y) {r : Interface × Int} (hm : M.s_l10Leave__k a = some r) :
  Calls Tryz.prog 134 #[.agg #[iv a.Mask, SL d a.Stack l, SL z a.Queue.Slots x, SL A a.Queue.Waiting y]] w fun e w' => e = .returned (.tuple #[.agg #[iv r.1.Mask, SL d a.Stack l, SL z a.Queue.Slots x, SL A a.Queue.Waiting y], iv r.2]) ∧ Mem [] w w' [] := by
 unfold M.s_l10Leave__k at hm
 refine cE Tryz.func134 ?_
 have M0 := Mem.refl [] w
 refine QA (wN (CE 87 [iv a.Mask, SL d a.Stack l, SL z a.Queue.Slots x, SL A a.Queue.Waiting y]) M0 fun u cq az => wN (CE 87 [iv 0, SN, SN, SN]) az fun B P V => MW 1 (NA (MW 1 (wV (SL d a.Stack l) P (eL false 1 1 (V.blk 0 rfl)) (MW 2 (NB (MW 2 (NO (GT hm (fun Z hm => ?_) fun Z hm => ?_)))))))))
 ·refine QA (wV (.agg #[iv a.Mask, SL d a.Stack l, SL z a.Queue.Slots x, SL A a.Queue.Waiting y]) P (eL true 4 0 (V.blk 0 rfl)) (wS true 4 0 (.agg #[iv a.Mask, SL d a.Stack l, SL z a.Queue.Slots x, SL A a.Queue.Waiting y]) 1 [iv a.Mask, SL d a.Stack l, SL z a.Queue.Slots x, SL A a.Queue.Waiting y] V rfl fun bw aa => MW 1 (ND ?_)))
  obtain rfl := HS hm
  exact N_ret [.agg #[iv a.Mask, SL d a.Stack l, SL z a.Queue.Slots x, SL A a.Queue.Waiting y], iv (-1)] (RX true 4 0 (aa.blk 1 rfl) (rC RVs_nil)) (⟨rfl, aa.pk []⟩)
 refine GK (TN (GS (GD hm fun Q aq hm => GD hm fun c bt hm => GU [(1, pB u 0), (2, pB B 0), (4, iv (a.Stack.length : Int)), (11, .bool ((a.Stack.length : Int) == 0))] (DL 14 [[],[0],[],[2],[],[4],[3,5],[6],[1,7],[],[9],[9],[],[10,12]] [[],[],[],[],[],[],[],[],[],[],[],[],[],[12]] (EM 14) [[],[],[],[],[],[],[],[],[],[8],[8],[8],[],[8]] [[],[],[],[],[],[],[],[],[],[8],[8],[],[],[8,12]] (EM 14) (fun _ => []) [QV (pB u 2), QV (.agg #[SL z a.Queue.Slots x, SL A a.Queue.Waiting y]), QV (pB u 1), QV (.slice d a.Stack.length l), QV (iv (a.Stack.length : Int)), QV (iv (w64 ((a.Stack.length : Int) - 1))), QV (elemP d ((w64 ((a.Stack.length : Int) - 1)).toNat * 1)), QV (iv Q), fun f v s => ∃ q m L t n N, v = (.tuple #[.agg #[SL q c.1.Slots m, SL t c.1.Waiting n], .bool c.2] : Value) ∧ s = (L ++ N) ∧ ownS encSlot c.1.Slots q m L ∧ ownS encWaiter c.1.Waiting t n N, fun f v s => v = (.tuple #[.agg #[(atPath (f 8) [0, 0]), (atPath (f 8) [0, 1])], .bool c.2] : Value) ∧ s = [], fun f v s => v = (.agg #[(atPath (f 8) [0, 0]), (atPath (f 8) [0, 1])] : Value) ∧ s = [], QV (.bool c.2), fun f v s => ∃ C, v = (pB C 0 : Value) ∧ s = (BK C 85 [SN, SN]), fun f v s => v = undef ∧ s = [((blkOf (f 12)), .cells ⟨[(atPath (f 8) [0, 0]), (atPath (f 8) [0, 1])]⟩ 85 (0, 0))]] [12] [8, 11, 13] [8, 13] (V.preNil 14) (AC ?_ (AC ?_ (AC ?_ (AC ?_ (AC ?_ (AC ?_ (AC ?_ (AC ?_ (AC ?_ (AC ?_ (AC ?_ (AC ?_ (AC ?_ (AC ?_ AN)))))))))))))) ?_))))
 ·intro I J R bx a0
  exact OM ⟨rfl, rfl⟩ a0
 ·rintro I J v0_ ⟨rfl, _⟩ R bz ab
  exact OV ⟨rfl, rfl⟩ (eL true 2 2 (ab.blk 0 rfl)) ab
 ·intro I J R b0 a3
  exact OM ⟨rfl, rfl⟩ a3
 ·rintro I J v2_ ⟨rfl, _⟩ R b1 ac
  exact OV ⟨rfl, rfl⟩ (eL false 1 1 (ac.blk 0 rfl)) ac
 ·intro I J R b2 a4
  exact OM ⟨rfl, rfl⟩ a4
 ·rintro I J v4_ ⟨rfl, _⟩ R b3 a5
  exact OM ⟨rfl, rfl⟩ a5
 ·rintro I J v3_ ⟨rfl, _⟩
  rintro v5_ ⟨rfl, _⟩ R b4 ad
  exact OV ⟨rfl, rfl⟩ (eI (O.mem0 ad) rfl aq) ad
 ·rintro I J v6_ ⟨rfl, _⟩ R b5 ae
  exact OV ⟨rfl, rfl⟩ (eE false 1 0 ((w64 ((a.Stack.length : Int) - 1)).toNat * 1) (O.mem0 ae) aq) ae
 ·rintro I J v1_ ⟨rfl, _⟩
  rintro v7_ ⟨rfl, _⟩ R b6 Y
  refine WC ((c_s_l9End b6 a.Queue z x (br.mem0 Y) A y (bs.mem0 Y) Q bt).mono ?_)
  rintro e_ cr ⟨q, m, L, t, n, N, rfl, an, ao, ax⟩
  refine ⟨_, rfl, ?_⟩
  exact WN (oE (.tuple #[.agg #[SL q c.1.Slots m, SL t c.1.Waiting n], .bool c.2]) (L ++ N) ⟨q, m, L, t, n, N, rfl, rfl, an, ao⟩ (Mem.callMid Y (ax.permF (by simp))))
 ·intro I J v8_ hb8_
  obtain ⟨_, q, m, _, t, n, _, rfl, _⟩ := hb8_
  intro R b7 a6
  exact OM ⟨rfl, rfl⟩ a6
 ·intro I J v8_ hb8_
  obtain ⟨_, q, m, _, t, n, _, rfl, _⟩ := hb8_
  intro v9_ hb9_
  obtain ⟨hv9_, _⟩ := hb9_
  obtain rfl : v9_ = (.tuple #[.agg #[SL q c.1.Slots m, SL t c.1.Waiting n], .bool c.2] : Value) := hv9_.trans (by kernel_rfl)
  intro R b8 a7
  exact OM ⟨rfl, rfl⟩ a7
 ·intro I J v8_ hb8_
  obtain ⟨_, q, m, _, t, n, _, rfl, _⟩ := hb8_
  intro v9_ hb9_
  obtain ⟨hv9_, _⟩ := hb9_
  obtain rfl : v9_ = (.tuple #[.agg #[SL q c.1.Slots m, SL t c.1.Waiting n], .bool c.2] : Value) := hv9_.trans (by kernel_rfl)
  intro R b9 a8
  exact OM ⟨rfl, rfl⟩ a8
 ·intro I J R ct a9
  exact wN (CE 85 [SN, SN]) a9 fun C cu ba => WN (oE (pB C 0) (BK C 85 [SN, SN]) ⟨C, rfl, rfl⟩ (Mem.mid ba))
 ·intro I J v8_ hb8_
  obtain ⟨_, q, m, _, t, n, _, rfl, _⟩ := hb8_
  intro v10_ hb10_
  obtain ⟨hv10_, _⟩ := hb10_
  obtain rfl : v10_ = (.agg #[SL q c.1.Slots m, SL t c.1.Waiting n] : Value) := hv10_.trans (by kernel_rfl)
  intro v12_ hb12_
  obtain ⟨C, rfl, hs12_⟩ := hb12_
  intro R av bb
  have W : Mem [] w av ([(BK u 87 [iv a.Mask, SL d a.Stack l, SL z a.Queue.Slots x, SL A a.Queue.Waiting y]), (BK B 87 [iv 0, SN, SN, SN])] ++ ([[]] ++ ([(I 12)] ++ ([] ++ R)))) := bb
  rw [hs12_] at W
  replace W : Mem [] w av ([(BK u 87 [iv a.Mask, SL d a.Stack l, SL z a.Queue.Slots x, SL A a.Queue.Waiting y]), (BK B 87 [iv 0, SN, SN, SN])] ++ ([[]] ++ ([(BK C 85 [SN, SN])] ++ ([] ++ R)))) := W.permF (by simp)
  exact wS true 2 0 (.agg #[SL q c.1.Slots m, SL t c.1.Waiting n]) 3 [SL q c.1.Slots m, SL t c.1.Waiting n] W rfl fun cv bc => WN (ob_none (BK C 85 [SL q c.1.Slots m, SL t c.1.Waiting n]) rfl ⟨rfl, by kernel_rfl⟩ (Mem.takeOver bc))
 intro I J v12_ hb12_
 obtain ⟨_, C, rfl, hs12_⟩ := hb12_
 intro v8_ hb8_
 obtain ⟨q, m, L, t, n, N, rfl, hs8_, an, ao⟩ := hb8_
 rintro v11_ ⟨rfl, _⟩ v13_ hb13_
 obtain ⟨rfl, hs13_⟩ := hb13_
 replace hs13_ := hs13_.trans (show _ = (BK C 85 [SL q c.1.Slots m, SL t c.1.Waiting n]) by kernel_rfl)
 intro X bd
 have T : Mem [] w X [(BK u 87 [iv a.Mask, SL d a.Stack l, SL z a.Queue.Slots x, SL A a.Queue.Waiting y]), (BK B 87 [iv 0, SN, SN, SN]), L, N, (BK C 85 [SL q c.1.Slots m, SL t c.1.Waiting n])] := bd.permF (by simp [hs8_, hs13_, SL])
 refine MW 1 (NE (GD hm fun S au hm => GD hm fun K bu hm => GD hm fun U ar hm => ?_))
 have be : Mem [] w X ([(BK u 87 [iv a.Mask, SL d a.Stack l, SL z a.Queue.Slots x, SL A a.Queue.Waiting y]), L, N, (BK C 85 [SL q c.1.Slots m, SL t c.1.Waiting n])] ++ (List.range 17).map (fun i => ([[], [], [], [], [], [], [], [], [], [], [], [], [], [], [], [], (BK B 87 [iv 0, SN, SN, SN])] : List Seg).getD i [])) := T.pk [0, 2, 3, 4, 300000, 300001, 300002, 300003, 300004, 300005, 300006, 300007, 300008, 300009, 300010, 300011, 300012, 300013, 300014, 300015, 1]
 refine GU [(1, pB u 0), (2, pB B 0), (4, iv (a.Stack.length : Int)), (5, pB C 0)] (DL 17 [[],[0],[],[2],[],[4],[3,5],[6],[],[1,8],[],[10],[],[12],[11,13],[14],[9]] (EM 17) (EM 17) [[],[],[],[],[],[],[],[],[],[7],[],[],[],[],[],[],[7]] [[],[],[],[],[],[],[],[],[],[7],[],[],[],[],[],[],[7]] (EM 17) (fun i => ([[], [], [], [], [], [], [], [], [], [], [], [], [], [], [], [], (BK B 87 [iv 0, SN, SN, SN])] : List Seg).getD i []) [QV (pB u 0), QV (iv a.Mask), QV (pB u 1), QV (.slice d a.Stack.length l), QV (iv (a.Stack.length : Int)), QV (iv (w64 ((a.Stack.length : Int) - 1))), QV (.slice (subP d (0 : Int).toNat l 1) S.length (l - (0 : Int).toNat)), fun f v s => ∃ G F, v = (.slice G K.length F : Value) ∧ ownS Gx.encI K G F s, QV (.agg #[SL q c.1.Slots m, SL t c.1.Waiting n]), fun f v s => v = (.agg #[iv a.Mask, (atPath (f 7) []), SL q c.1.Slots m, SL t c.1.Waiting n] : Value) ∧ s = [], QV (pB u 1), QV (.slice d a.Stack.length l), QV (iv (a.Stack.length : Int)), QV (iv (w64 ((a.Stack.length : Int) - 1))), QV (elemP d ((w64 ((a.Stack.length : Int) - 1)).toNat * 1)), QV (iv U), fun f v s => v = undef ∧ s = (BK B 87 [iv a.Mask, (atPath (f 7) []), SL q c.1.Slots m, SL t c.1.Waiting n])] [] [7, 15, 16] [7, 16] be (AC ?_ (AC ?_ (AC ?_ (AC ?_ (AC ?_ (AC ?_ (AC ?_ (AC ?_ (AC ?_ (AC ?_ (AC ?_ (AC ?_ (AC ?_ (AC ?_ (AC ?_ (AC ?_ (AC ?_ AN))))))))))))))))) ?_)
 ·intro D H R ca bf
  exact OM ⟨rfl, rfl⟩ bf
 ·rintro D H v0_ ⟨rfl, _⟩ R cb af
  exact OV ⟨rfl, rfl⟩ (eL false 1 0 (af.blk 0 rfl)) af
 ·intro D H R cc bg
  exact OM ⟨rfl, rfl⟩ bg
 ·rintro D H v2_ ⟨rfl, _⟩ R cd ag
  exact OV ⟨rfl, rfl⟩ (eL false 1 1 (ag.blk 0 rfl)) ag
 ·intro D H R ce bh
  exact OM ⟨rfl, rfl⟩ bh
 ·rintro D H v4_ ⟨rfl, _⟩ R cf bi
  exact OM ⟨rfl, rfl⟩ bi
 ·rintro D H v3_ ⟨rfl, _⟩
  rintro v5_ ⟨rfl, _⟩ R cg ah
  exact OV ⟨rfl, rfl⟩ (E_slice (E := Gx.encI) _ _ _ _ a.Stack.length 0 (w64 ((a.Stack.length : Int) - 1)) rfl (by kernel_rfl) (Or.inl ⟨rfl, rfl⟩) (Or.inr ⟨_, rfl, by kernel_rfl⟩) (by kernel_rfl) (O.mem0 ah) rfl au) ah
 ·rintro D H v6_ ⟨rfl, _⟩ R ch ai
  refine WC ((c_s_l1Own ch S (subP d (0 : Int).toNat l 1) (l - (0 : Int).toNat) ((O.mem0 ai).sliceM au) bu).mono ?_)
  rintro e_ cw ⟨G, F, bv, rfl, ap, ay⟩
  refine ⟨_, rfl, ?_⟩
  exact WN (oE (SL G K F) bv ⟨G, F, rfl, ap⟩ (Mem.callMid ai ay))
 ·intro D H R ci aj
  exact OV ⟨rfl, rfl⟩ (eL true 2 0 (aj.blk 3 rfl)) aj
 ·intro D H v7_ hb7_
  obtain ⟨_, G, F, rfl, _⟩ := hb7_
  rintro v1_ ⟨rfl, _⟩
  rintro v8_ ⟨rfl, _⟩ R cj bj
  exact OM ⟨rfl, rfl⟩ bj
 ·intro D H R ck bk
  exact OM ⟨rfl, rfl⟩ bk
 ·rintro D H v10_ ⟨rfl, _⟩ R cl ak
  exact OV ⟨rfl, rfl⟩ (eL false 1 1 (ak.blk 0 rfl)) ak
 ·intro D H R cm bl
  exact OM ⟨rfl, rfl⟩ bl
 ·rintro D H v12_ ⟨rfl, _⟩ R cn bm
  exact OM ⟨rfl, rfl⟩ bm
 ·rintro D H v11_ ⟨rfl, _⟩
  rintro v13_ ⟨rfl, _⟩ R co al
  exact OV ⟨rfl, rfl⟩ (eI (O.mem0 al) rfl ar) al
 ·rintro D H v14_ ⟨rfl, _⟩ R cp am
  exact OV ⟨rfl, rfl⟩ (eE false 1 0 ((w64 ((a.Stack.length : Int) - 1)).toNat * 1) (O.mem0 am) ar) am
 ·intro D H v7_ hb7_
  obtain ⟨_, G, F, rfl, _⟩ := hb7_
  intro v9_ hb9_
  obtain ⟨hv9_, _⟩ := hb9_
  obtain rfl : v9_ = (.agg #[iv a.Mask, SL G K F, SL q c.1.Slots m, SL t c.1.Waiting n] : Value) := hv9_.trans (by kernel_rfl)
  intro R cx bn
  exact wS true 4 0 (.agg #[iv a.Mask, SL G K F, SL q c.1.Slots m, SL t c.1.Waiting n]) 4 [iv a.Mask, SL G K F, SL q c.1.Slots m, SL t c.1.Waiting n] bn rfl fun cy bo => WN (ob_none (BK B 87 [iv a.Mask, SL G K F, SL q c.1.Slots m, SL t c.1.Waiting n]) rfl ⟨rfl, by kernel_rfl⟩ bo)
 intro D H v7_ hb7_
 obtain ⟨G, F, rfl, ap⟩ := hb7_
 rintro v15_ ⟨rfl, _⟩ v16_ hb16_
 obtain ⟨rfl, hs16_⟩ := hb16_
 replace hs16_ := hs16_.trans (show _ = (BK B 87 [iv a.Mask, SL G K F, SL q c.1.Slots m, SL t c.1.Waiting n]) by kernel_rfl)
 intro aw bp
 have bq : Mem [] w aw [(BK u 87 [iv a.Mask, SL d a.Stack l, SL z a.Queue.Slots x, SL A a.Queue.Waiting y]), L, N, (BK C 85 [SL q c.1.Slots m, SL t c.1.Waiting n]), (D 7), (D 16)] := bp
 rw [hs16_] at bq
 refine MW 1 (NC ?_)
 cases hm
theorem c_s_l21Make (w : World) (q : Machine) (W U) (dc : rdS encRoute w q.Routes W U) (X V) (dd : rdS Gx.encB w q.Enabled X V) (K P) (b7 : rdS Gx.encB w q.Raised K P) (O Q) (b8 : rdD deepInterface w q.Cpus O Q) (c : MachStep) {r : Machine × Int × Bool} (hm : M.s_l21Make q c = some r) :
  Calls Tryz.prog 77 #[.agg #[SL W q.Routes U, SL X q.Enabled V, SL K q.Raised P, SL O q.Cpus Q], .agg #[iv c.Kind, iv c.Irq, iv c.Cpu, iv c.Value]] w fun e w' => ∃ dr c8 dv ds c9 dw dt da dx du db dy dz, e = .returned (.tuple #[.agg #[SL dr r.1.Routes c8, SL ds r.1.Enabled c9, SL dt r.1.Raised da, SL du r.1.Cpus db], iv r.2.1, .bool r.2.2]) ∧ (r.2.2 = true → ownS encRoute r.1.Routes dr c8 dv) ∧ (r.2.2 = true → ownS Gx.encB r.1.Enabled ds c9 dw) ∧ (r.2.2 = true → ownS Gx.encB r.1.Raised dt da dx) ∧ (r.2.2 = true → ownD deepInterface r.1.Cpus du db dy dz) ∧ Mem [] w w' [dv, dw, dx, dy, dz] := by
 unfold M.s_l21Make at hm
 refine cE Tryz.func77 ?_
 have M0 := Mem.refl [] w
 refine QA (wN (CE 32 [SL W q.Routes U, SL X q.Enabled V, SL K q.Raised P, SL O q.Cpus Q]) M0 fun N hh ea => wN (CE 51 [iv c.Kind, iv c.Irq, iv c.Cpu, iv c.Value]) ea fun F hi eb => wN (CE 32 [SN, SN, SN, SN]) eb fun B cn a8 => MW 2 (NA (wV (.agg #[SL W q.Routes U, SL X q.Enabled V, SL K q.Raised P, SL O q.Cpus Q]) cn (eL true 4 0 (a8.blk 0 rfl)) (GD hm fun a f0 hm => WC ((c_s_l21Own cn q W U (dc.mem0 a8) X V (dd.mem0 a8) K P (b7.mem0 a8) O Q (b8.mem0 a8) f0).mono ?_)))))
 rintro e_ hj ⟨D, C, Y, x, z, Z, y, A, ab, m, n, bl, aq, rfl, bu, bd, be, bf, d5⟩
 have ec := a8.call d5
 refine ⟨_, rfl, ?_⟩
 refine wN (CE 32 [SN, SN, SN, SN]) ec fun G hk ed => wS true 4 0 (.agg #[SL D a.Routes C, SL x a.Enabled z, SL y a.Raised A, SL m a.Cpus n]) 8 [SL D a.Routes C, SL x a.Enabled z, SL y a.Raised A, SL m a.Cpus n] ed rfl fun I J => NB (MW 1 (wV (iv c.Kind) I (eL false 1 0 (J.blk 1 rfl)) (NO (GB (QA (MW 2 (NO (GT hm (fun cg hm => ?_) fun cg hm => ?_))))))))
 ·refine QA (MW 1 (wV (SL y a.Raised A) I (eL false 1 2 (J.blk 8 rfl)) (MW 1 (wV (iv c.Irq) I (eL false 1 1 (J.blk 1 rfl)) (GD hm fun g4 dk hm => wV (elemP y (c.Irq.toNat * 1)) I (eI (be.r J 5) rfl dk) (wE false 1 c.Irq.toNat 0 (c.Irq.toNat * 1) g4 true (.bool true) 5 J be (gxIdx_spec dk).2 fun d1 ce ff ee => LX 20 y A a.Raised c.Irq.toNat true ?_))))))
  have ef : Mem [] w d1 [(BK N 32 [.slice W q.Routes.length U, .slice X q.Enabled.length V, .slice K q.Raised.length P, .slice O q.Cpus.length Q]), (BK F 51 [iv c.Kind, iv c.Irq, iv c.Cpu, iv c.Value]), (BK B 32 [.slice none 0 0, .slice none 0 0, .slice none 0 0, .slice none 0 0]), Y, Z, ce, bl, aq, (BK G 32 [.slice D a.Routes.length C, .slice x a.Enabled.length z, .slice y (a.Raised.set c.Irq.toNat true).length A, .slice m a.Cpus.length n])] := by rw [@List.length_set _ a.Raised c.Irq.toNat true]; exact ee
  refine NE (GD hm fun ar dl hm => ?_)
  have eg : Mem [] w d1 ([(BK N 32 [SL W q.Routes U, SL X q.Enabled V, SL K q.Raised P, SL O q.Cpus Q]), (BK F 51 [iv c.Kind, iv c.Irq, iv c.Cpu, iv c.Value]), Y, Z, ce, bl, aq, (BK G 32 [SL D a.Routes C, SL x a.Enabled z, SL y (a.Raised.set c.Irq.toNat true) A, SL m a.Cpus n])] ++ (List.range 10).map (fun i => ([[], [], [], [], [], [], [], [], (BK B 32 [SN, SN, SN, SN]), []] : List Seg).getD i [])) := ef.pk [0, 1, 3, 4, 5, 6, 7, 8, 300000, 300001, 300002, 300003, 300004, 300005, 300006, 300007, 2, 300009]
  refine GU [(2, pB N 0), (3, pB F 0), (4, pB B 0), (7, pB G 0), (20, SL y (a.Raised.set c.Irq.toNat true) A), (21, pB F 1), (22, iv c.Irq), (23, elemP y (c.Irq.toNat * 1))] (DL 10 [[],[],[1],[],[3],[2,4],[5],[6],[0],[]] (EM 10) (EM 10) (EM 10) (EM 10) (EM 10) (fun i => ([[], [], [], [], [], [], [], [], (BK B 32 [SN, SN, SN, SN]), []] : List Seg).getD i []) [QV (.agg #[SL D a.Routes C, SL x a.Enabled z, SL y (a.Raised.set c.Irq.toNat true) A, SL m a.Cpus n]), QV (pB N 2), QV (.slice K q.Raised.length P), QV (pB F 1), QV (iv c.Irq), QV (elemP K (c.Irq.toNat * 1)), QV (.bool ar), QV (.bool (!ar)), fun f v s => v = undef ∧ s = (BK B 32 [SL D a.Routes C, SL x a.Enabled z, SL y (a.Raised.set c.Irq.toNat true) A, SL m a.Cpus n]), QV (iv (-1))] [] [7, 8, 9] [8] eg (AC ?_ (AC ?_ (AC ?_ (AC ?_ (AC ?_ (AC ?_ (AC ?_ (AC ?_ (AC ?_ (AC ?_ AN)))))))))) ?_)
  ·intro ai ap R gm cq
   exact OV ⟨rfl, rfl⟩ (eL true 4 0 (cq.blk 7 rfl)) cq
  ·intro ai ap R gn eh
   exact OM ⟨rfl, rfl⟩ eh
  ·rintro ai ap v1_ ⟨rfl, _⟩ R go cr
   exact OV ⟨rfl, rfl⟩ (eL false 1 2 (cr.blk 0 rfl)) cr
  ·intro ai ap R gp ei
   exact OM ⟨rfl, rfl⟩ ei
  ·rintro ai ap v3_ ⟨rfl, _⟩ R gq ct
   exact OV ⟨rfl, rfl⟩ (eL false 1 1 (ct.blk 1 rfl)) ct
  ·rintro ai ap v2_ ⟨rfl, _⟩
   rintro v4_ ⟨rfl, _⟩ R gr cu
   exact OV ⟨rfl, rfl⟩ (eI (b7.mem0 cu) rfl dl) cu
  ·rintro ai ap v5_ ⟨rfl, _⟩ R gs cv
   exact OV ⟨rfl, rfl⟩ (eE false 1 0 (c.Irq.toNat * 1) (b7.mem0 cv) dl) cv
  ·rintro ai ap v6_ ⟨rfl, _⟩ R gt ej
   exact OM ⟨rfl, rfl⟩ ej
  ·rintro ai ap v0_ ⟨rfl, _⟩ R hl ek
   exact wS true 4 0 (.agg #[SL D a.Routes C, SL x a.Enabled z, SL y (a.Raised.set c.Irq.toNat true) A, SL m a.Cpus n]) 8 [SL D a.Routes C, SL x a.Enabled z, SL y (a.Raised.set c.Irq.toNat true) A, SL m a.Cpus n] ek rfl fun hn el => WN (ob_none (BK B 32 [SL D a.Routes C, SL x a.Enabled z, SL y (a.Raised.set c.Irq.toNat true) A, SL m a.Cpus n]) rfl ⟨rfl, by kernel_rfl⟩ el)
  ·intro ai ap R gu em
   exact OM ⟨rfl, rfl⟩ em
  rintro ai ap v7_ ⟨rfl, _⟩ v8_ hb8_
  obtain ⟨rfl, hs8_⟩ := hb8_
  replace hs8_ := hs8_.trans (show _ = (BK B 32 [SL D a.Routes C, SL x a.Enabled z, SL y (a.Raised.set c.Irq.toNat true) A, SL m a.Cpus n]) by kernel_rfl)
  rintro v9_ ⟨rfl, _⟩ d2 en
  have cf : Mem [] w d2 [(BK N 32 [SL W q.Routes U, SL X q.Enabled V, SL K q.Raised P, SL O q.Cpus Q]), (BK F 51 [iv c.Kind, iv c.Irq, iv c.Cpu, iv c.Value]), Y, Z, ce, bl, aq, (BK G 32 [SL D a.Routes C, SL x a.Enabled z, SL y (a.Raised.set c.Irq.toNat true) A, SL m a.Cpus n]), (ai 8)] := en
  rw [hs8_] at cf
  refine MW 1 (NC (BR (TR ?_)))
  obtain rfl := HS hm
  exact N_ret [.agg #[SL D a.Routes C, SL x a.Enabled z, SL y (a.Raised.set c.Irq.toNat true) A, SL m a.Cpus n], iv (-1), .bool (!ar)] (RX true 4 0 (cf.blk 8 rfl) (rC (rC RVs_nil))) (⟨D, C, Y, x, z, Z, y, A, ce, m, n, bl, aq, rfl, (fun _ => bu), (fun _ => bd), (fun _ => ff), (fun _ => bf), cf.pk [2, 3, 4, 5, 6]⟩)
 refine QA (MW 2 (NO (GT hm (fun ch hm => ?_) fun ch hm => ?_)))
 ·refine QA (wV (.agg #[SL W q.Routes U, SL X q.Enabled V, SL K q.Raised P, SL O q.Cpus Q]) I (eL true 4 0 (J.blk 0 rfl)) (GD hm fun T f1 hm => WC ((c_s_l21Sync I q W U (dc.mem0 J) X V (dd.mem0 J) K P (b7.mem0 J) O Q (b8.mem0 J) f1).mono ?_)))
  rintro e_ ho ⟨az, av, gg, a0, aw, gh, a3, ax, gi, a4, ay, gj, gk, rfl, fg, fh, fi, fj, d6⟩
  have eo := J.call d6
  refine ⟨_, rfl, ?_⟩
  refine wS true 4 0 (.agg #[SL az T.Routes av, SL a0 T.Enabled aw, SL a3 T.Raised ax, SL a4 T.Cpus ay]) 2 [SL az T.Routes av, SL a0 T.Enabled aw, SL a3 T.Raised ax, SL a4 T.Cpus ay] eo rfl fun gv cw => MW 2 (NC (BR (TR ?_)))
  obtain rfl := HS hm
  exact N_ret [.agg #[SL az T.Routes av, SL a0 T.Enabled aw, SL a3 T.Raised ax, SL a4 T.Cpus ay], iv (-1), .bool true] (RX true 4 0 (cw.blk 2 rfl) (rC (rC RVs_nil))) (⟨az, av, gg, a0, aw, gh, a3, ax, gi, a4, ay, gj, gk, rfl, (fun _ => fg), (fun _ => fh), (fun _ => fi), (fun _ => fj), cw.pk [9, 10, 11, 12, 13]⟩)
 refine QA (MW 2 (NO (GT hm (fun ci hm => ?_) fun ci hm => ?_)))
 ·refine QA (MW 1 (wV (SL O q.Cpus Q) I (eL false 1 3 (J.blk 0 rfl)) (wR 1 [(3, pB F 0), (4, pB B 0), (7, pB G 0), (40, SL O q.Cpus Q), (41, pB F 2)] I (wV (iv c.Cpu) I (eL false 1 2 (J.blk 1 rfl)) (GD hm fun aa f7 hm => ?_)))))
  obtain ⟨hu, dn, df, cl⟩ := id b8
  obtain ⟨S, bs⟩ := gxIdx_fst dn f7
  refine wV (elemP O (c.Cpu.toNat * 4)) I (eI (df.mem0 J) (len_fst dn) bs) (wV (.agg #[iv aa.Mask, SL ((S 0).1) aa.Stack ((S 0).2), SL ((S 1).1) aa.Queue.Slots ((S 1).2), SL ((S 2).1) aa.Queue.Waiting ((S 2).2)]) I (eE true 4 0 (c.Cpu.toNat * 4) (df.mem0 J) bs) (GD hm fun d f2 hm => WC ((c_s_l10Take I aa ((S 0).1) ((S 0).2) ((cl.mem0 J).a_ bs 0) ((S 1).1) ((S 1).2) ((cl.mem0 J).a_ bs 1) ((S 2).1) ((S 2).2) ((cl.mem0 J).a_ bs 2) f2).mono ?_)))
  rintro e_ gw ⟨aj, ac, bv, ak, ad, bw, al, ae, bx, rfl, fk, fl, fm, d7⟩
  have ep := J.call d7
  refine ⟨_, rfl, ?_⟩
  refine MW 3 (wN (CE 87 [iv 0, SN, SN, SN]) ep fun a9 hp er => wS true 4 0 (.agg #[iv d.1.Mask, SL aj d.1.Stack ac, SL ak d.1.Queue.Slots ad, SL al d.1.Queue.Waiting ae]) 12 [iv d.1.Mask, SL aj d.1.Stack ac, SL ak d.1.Queue.Slots ad, SL al d.1.Queue.Waiting ae] er rfl fun a5 bn => MW 1 (NA (MW 1 (wV (SL m a.Cpus n) a5 (eL false 1 3 (bn.blk 8 rfl)) (MW 1 (wV (iv c.Cpu) a5 (eL false 1 2 (bn.blk 1 rfl)) (wV (.agg #[iv d.1.Mask, SL aj d.1.Stack ac, SL ak d.1.Queue.Slots ad, SL al d.1.Queue.Waiting ae]) a5 (eL true 4 0 (bn.blk 12 rfl)) (GD hm fun g5 f8 hm => ?_))))))))
  obtain ⟨hv, cc, dg, fc⟩ := id bf
  obtain ⟨e8, b9⟩ := gxIdx_fst cc f8
  refine wV (elemP m (c.Cpu.toNat * 4)) a5 (eI (dg.r bn 6) (len_fst cc) b9) ?_
  obtain ⟨bh, ge, bj, f5, ha, fy⟩ := fc.lens (gxIdx_spec b9).2
  have es := bn.cut 7 (sa := bh) (sb := ge) (sc := bj) f5 (by kernel_rfl)
  refine wE true 4 c.Cpu.toNat 0 (c.Cpu.toNat * 4) (g5, e8) (d.1, (plOf [(aj, ac), (ak, ad), (al, ae)])) (.agg #[iv d.1.Mask, SL aj d.1.Stack ac, SL ak d.1.Queue.Slots ad, SL al d.1.Queue.Waiting ae]) 6 es dg (gxIdx_spec b9).2 ?_
  intro b4 bz fn et
  have eu : Mem [] w b4 [(BK N 32 [SL W q.Routes U, SL X q.Enabled V, SL K q.Raised P, SL O q.Cpus Q]), (BK F 51 [iv c.Kind, iv c.Irq, iv c.Cpu, iv c.Value]), (BK B 32 [SN, SN, SN, SN]), Y, Z, ab, bz, (BK G 32 [SL D a.Routes C, SL x a.Enabled z, SL y a.Raised A, SL m a.Cpus n]), (BK a9 87 [iv d.1.Mask, SL aj d.1.Stack ac, SL ak d.1.Queue.Slots ad, SL al d.1.Queue.Waiting ae]), bh, bv, bw, bx, bj] := et.pk [0, 1, 2, 3, 4, 5, 6, 8, 12, 7, 9, 10, 11, 14]
  have ev : Mem [] w b4 [(BK N 32 [SL W q.Routes U, SL X q.Enabled V, SL K q.Raised P, SL O q.Cpus Q]), (BK F 51 [iv c.Kind, iv c.Irq, iv c.Cpu, iv c.Value]), (BK B 32 [SN, SN, SN, SN]), Y, Z, ab, bz, (BK G 32 [SL D a.Routes C, SL x a.Enabled z, SL y a.Raised A, SL m a.Cpus n]), (BK a9 87 [iv d.1.Mask, SL aj d.1.Stack ac, SL ak d.1.Queue.Slots ad, SL al d.1.Queue.Waiting ae]), (bh ++ ((bv ++ (bw ++ (bx ++ []))) ++ bj))] := eu.regroup (by simp)
  have fo : ownD deepInterface (a.Cpus.set c.Cpu.toNat d.1) m n bz (bh ++ ((bv ++ (bw ++ (bx ++ []))) ++ bj)) := ⟨_, set_fst cc c.Cpu.toNat (d.1, (plOf [(aj, ac), (ak, ad), (al, ae)])), fn, (fy (d.1, (plOf [(aj, ac), (ak, ad), (al, ae)])) _ (ownI_cons (i := ⟨Int, Gx.encI, _, _, _⟩) fk (ownI_cons (i := ⟨Slot, encSlot, _, _, _⟩) fl (ownI_cons (i := ⟨Waiter, encWaiter, _, _, _⟩) fm ownI_nil))))⟩
  have he := gxIdx_put d.1 (gxIdx_down cc b9)
  refine LX 49 m n a.Cpus c.Cpu.toNat d.1 ?_
  have cx : Mem [] w b4 [(BK N 32 [.slice W q.Routes.length U, .slice X q.Enabled.length V, .slice K q.Raised.length P, .slice O q.Cpus.length Q]), (BK F 51 [iv c.Kind, iv c.Irq, iv c.Cpu, iv c.Value]), (BK B 32 [.slice none 0 0, .slice none 0 0, .slice none 0 0, .slice none 0 0]), Y, Z, ab, bz, (BK G 32 [.slice D a.Routes.length C, .slice x a.Enabled.length z, .slice y a.Raised.length A, .slice m (a.Cpus.set c.Cpu.toNat d.1).length n]), (BK a9 87 [iv d.1.Mask, .slice aj d.1.Stack.length ac, .slice ak d.1.Queue.Slots.length ad, .slice al d.1.Queue.Waiting.length ae]), (bh ++ ((bv ++ (bw ++ (bx ++ []))) ++ bj))] := by rw [@List.length_set _ a.Cpus c.Cpu.toNat d.1]; exact ev
  refine NA (wV (.agg #[SL D a.Routes C, SL x a.Enabled z, SL y a.Raised A, SL m (a.Cpus.set c.Cpu.toNat d.1) n]) b4 (eL true 4 0 (cx.blk 7 rfl)) (MW 3 (wS true 4 0 (.agg #[SL D a.Routes C, SL x a.Enabled z, SL y a.Raised A, SL m (a.Cpus.set c.Cpu.toNat d.1) n]) 2 [SL D a.Routes C, SL x a.Enabled z, SL y a.Raised A, SL m (a.Cpus.set c.Cpu.toNat d.1) n] cx rfl fun gx cy => MW 2 (NC (BR (TR ?_))))))
  obtain rfl := HS hm
  exact N_ret [.agg #[SL D a.Routes C, SL x a.Enabled z, SL y a.Raised A, SL m (a.Cpus.set c.Cpu.toNat d.1) n], iv d.2, .bool (decide (d.2 ≥ 0))] (RX true 4 0 (cy.blk 2 rfl) (rC (rC RVs_nil))) (⟨D, C, Y, x, z, Z, y, A, ab, m, n, bz, (bh ++ ((bv ++ (bw ++ (bx ++ []))) ++ bj)), rfl, (fun _ => bu), (fun _ => bd), (fun _ => be), (fun _ => fo), cy.pk [3, 4, 5, 6, 9]⟩)
 refine QA (MW 2 (NO (GT hm (fun cj hm => ?_) fun cj hm => ?_)))
 ·refine QA (MW 1 (wV (SL O q.Cpus Q) I (eL false 1 3 (J.blk 0 rfl)) (MW 1 (wV (iv c.Cpu) I (eL false 1 2 (J.blk 1 rfl)) (GD hm fun u f9 hm => ?_)))))
  obtain ⟨hw, dp, dh, bc⟩ := id b8
  obtain ⟨t, au⟩ := gxIdx_fst dp f9
  refine wV (elemP O (c.Cpu.toNat * 4)) I (eI (dh.mem0 J) (len_fst dp) au) (wV (.agg #[iv u.Mask, SL ((t 0).1) u.Stack ((t 0).2), SL ((t 1).1) u.Queue.Slots ((t 1).2), SL ((t 2).1) u.Queue.Waiting ((t 2).2)]) I (eE true 4 0 (c.Cpu.toNat * 4) (dh.mem0 J) au) ?_)
  rcases gx_alt hm with ⟨L, f3, hm⟩ | hm
  ·refine WD (c_s_l10Leave__k I u ((t 0).1) ((t 0).2) ((bc.mem0 J).a_ au 0) ((t 1).1) ((t 1).2) ((bc.mem0 J).a_ au 1) ((t 2).1) ((t 2).2) ((bc.mem0 J).a_ au 2) f3) J fun gy ew => MW 3 (wN (CE 87 [iv 0, SN, SN, SN]) ew fun b6 hq ex => wS true 4 0 (.agg #[iv L.1.Mask, SL ((t 0).1) u.Stack ((t 0).2), SL ((t 1).1) u.Queue.Slots ((t 1).2), SL ((t 2).1) u.Queue.Waiting ((t 2).2)]) 9 [iv L.1.Mask, SL ((t 0).1) u.Stack ((t 0).2), SL ((t 1).1) u.Queue.Slots ((t 1).2), SL ((t 2).1) u.Queue.Waiting ((t 2).2)] ex rfl fun a6 bo => MW 1 (NA (MW 1 (wV (SL m a.Cpus n) a6 (eL false 1 3 (bo.blk 8 rfl)) (wR 1 [(4, pB B 0), (7, pB G 0), (10, pB b6 0), (11, iv L.2), (71, SL m a.Cpus n), (72, pB F 2)] a6 (wV (iv c.Cpu) a6 (eL false 1 2 (bo.blk 1 rfl)) (wV (.agg #[iv L.1.Mask, SL ((t 0).1) u.Stack ((t 0).2), SL ((t 1).1) u.Queue.Slots ((t 1).2), SL ((t 2).1) u.Queue.Waiting ((t 2).2)]) a6 (eL true 4 0 (bo.blk 9 rfl)) (GD hm fun g6 ga hm => ?_))))))))
   obtain ⟨hx, dq, di, hc⟩ := id bf
   obtain ⟨e9, de⟩ := gxIdx_fst dq ga
   refine wV (elemP m (c.Cpu.toNat * 4)) a6 (eI (di.r bo 6) (len_fst dq) de) (wE true 4 c.Cpu.toNat 0 (c.Cpu.toNat * 4) (g6, e9) ((⟨L.1.Mask, u.Stack, u.Queue⟩ : Interface), (plOf [((t 0).1, (t 0).2), ((t 1).1, (t 1).2), ((t 2).1, (t 2).2)])) (.agg #[iv L.1.Mask, SL ((t 0).1) u.Stack ((t 0).2), SL ((t 1).1) u.Queue.Slots ((t 1).2), SL ((t 2).1) u.Queue.Waiting ((t 2).2)]) 6 bo di (gxIdx_spec de).2 fun co gl hd ey => LX 71 m n a.Cpus c.Cpu.toNat (⟨L.1.Mask, u.Stack, u.Queue⟩ : Interface) ?_)
   have cz : Mem [] w co [(BK N 32 [.slice W q.Routes.length U, .slice X q.Enabled.length V, .slice K q.Raised.length P, .slice O q.Cpus.length Q]), (BK F 51 [iv c.Kind, iv c.Irq, iv c.Cpu, iv c.Value]), (BK B 32 [.slice none 0 0, .slice none 0 0, .slice none 0 0, .slice none 0 0]), Y, Z, ab, gl, aq, (BK G 32 [.slice D a.Routes.length C, .slice x a.Enabled.length z, .slice y a.Raised.length A, .slice m (a.Cpus.set c.Cpu.toNat (⟨L.1.Mask, u.Stack, u.Queue⟩ : Interface)).length n]), (BK b6 87 [iv L.1.Mask, .slice ((t 0).1) u.Stack.length ((t 0).2), .slice ((t 1).1) u.Queue.Slots.length ((t 1).2), .slice ((t 2).1) u.Queue.Waiting.length ((t 2).2)])] := by rw [@List.length_set _ a.Cpus c.Cpu.toNat (⟨L.1.Mask, u.Stack, u.Queue⟩ : Interface)]; exact ey
   refine NA (wV (.agg #[SL D a.Routes C, SL x a.Enabled z, SL y a.Raised A, SL m (a.Cpus.set c.Cpu.toNat (⟨L.1.Mask, u.Stack, u.Queue⟩ : Interface)) n]) co (eL true 4 0 (cz.blk 8 rfl)) (MW 3 (wS true 4 0 (.agg #[SL D a.Routes C, SL x a.Enabled z, SL y a.Raised A, SL m (a.Cpus.set c.Cpu.toNat (⟨L.1.Mask, u.Stack, u.Queue⟩ : Interface)) n]) 2 [SL D a.Routes C, SL x a.Enabled z, SL y a.Raised A, SL m (a.Cpus.set c.Cpu.toNat (⟨L.1.Mask, u.Stack, u.Queue⟩ : Interface)) n] cz rfl fun gz c0 => MW 2 (NC (BR (TR ?_))))))
   rcases gx_bif hm with ⟨br, hm⟩ | ⟨br, hm⟩
   ·cases hm
   obtain rfl := HS hm
   exact N_ret [.agg #[SL D a.Routes C, SL x a.Enabled z, SL y a.Raised A, SL m (a.Cpus.set c.Cpu.toNat (⟨L.1.Mask, u.Stack, u.Queue⟩ : Interface)) n], iv L.2, .bool (decide (L.2 ≥ 0))] (RX true 4 0 (c0.blk 2 rfl) (rC (rC RVs_nil))) (⟨D, C, [], x, z, [], y, A, [], m, n, [], [], rfl, (fun h_ => Bool.noConfusion (br.symm.trans h_)), (fun h_ => Bool.noConfusion (br.symm.trans h_)), (fun h_ => Bool.noConfusion (br.symm.trans h_)), (fun h_ => Bool.noConfusion (br.symm.trans h_)), c0.pk [100000, 100001, 100002, 100003, 100004]⟩)
  refine GD hm fun l f4 hm => WC ((c_s_l10Leave I u ((t 0).1) ((t 0).2) ((bc.mem0 J).a_ au 0) ((t 1).1) ((t 1).2) ((bc.mem0 J).a_ au 1) ((t 2).1) ((t 2).2) ((bc.mem0 J).a_ au 2) f4).mono ?_)
  rintro e_ g0 ⟨am, af, b0, an, ag, b1, ao, ah, b2, rfl, fp, fq, fs, d9⟩
  have ez := J.call d9
  refine ⟨_, rfl, ?_⟩
  refine MW 3 (wN (CE 87 [iv 0, SN, SN, SN]) ez fun ba hr e0 => wS true 4 0 (.agg #[iv l.1.Mask, SL am l.1.Stack af, SL an l.1.Queue.Slots ag, SL ao l.1.Queue.Waiting ah]) 12 [iv l.1.Mask, SL am l.1.Stack af, SL an l.1.Queue.Slots ag, SL ao l.1.Queue.Waiting ah] e0 rfl fun a7 bp => MW 1 (NA (MW 1 (wV (SL m a.Cpus n) a7 (eL false 1 3 (bp.blk 8 rfl)) (MW 1 (wV (iv c.Cpu) a7 (eL false 1 2 (bp.blk 1 rfl)) (wV (.agg #[iv l.1.Mask, SL am l.1.Stack af, SL an l.1.Queue.Slots ag, SL ao l.1.Queue.Waiting ah]) a7 (eL true 4 0 (bp.blk 12 rfl)) (GD hm fun g7 gb hm => ?_))))))))
  obtain ⟨hy, cd, dj, fd⟩ := id bf
  obtain ⟨fa, ca⟩ := gxIdx_fst cd gb
  refine wV (elemP m (c.Cpu.toNat * 4)) a7 (eI (dj.r bp 6) (len_fst cd) ca) ?_
  obtain ⟨bi, gf, bk, f6, hb, fz⟩ := fd.lens (gxIdx_spec ca).2
  have e1 := bp.cut 7 (sa := bi) (sb := gf) (sc := bk) f6 (by kernel_rfl)
  refine wE true 4 c.Cpu.toNat 0 (c.Cpu.toNat * 4) (g7, fa) (l.1, (plOf [(am, af), (an, ag), (ao, ah)])) (.agg #[iv l.1.Mask, SL am l.1.Stack af, SL an l.1.Queue.Slots ag, SL ao l.1.Queue.Waiting ah]) 6 e1 dj (gxIdx_spec ca).2 ?_
  intro b5 b3 ft e2
  have e3 : Mem [] w b5 [(BK N 32 [SL W q.Routes U, SL X q.Enabled V, SL K q.Raised P, SL O q.Cpus Q]), (BK F 51 [iv c.Kind, iv c.Irq, iv c.Cpu, iv c.Value]), (BK B 32 [SN, SN, SN, SN]), Y, Z, ab, b3, (BK G 32 [SL D a.Routes C, SL x a.Enabled z, SL y a.Raised A, SL m a.Cpus n]), (BK ba 87 [iv l.1.Mask, SL am l.1.Stack af, SL an l.1.Queue.Slots ag, SL ao l.1.Queue.Waiting ah]), bi, b0, b1, b2, bk] := e2.pk [0, 1, 2, 3, 4, 5, 6, 8, 12, 7, 9, 10, 11, 14]
  have e4 : Mem [] w b5 [(BK N 32 [SL W q.Routes U, SL X q.Enabled V, SL K q.Raised P, SL O q.Cpus Q]), (BK F 51 [iv c.Kind, iv c.Irq, iv c.Cpu, iv c.Value]), (BK B 32 [SN, SN, SN, SN]), Y, Z, ab, b3, (BK G 32 [SL D a.Routes C, SL x a.Enabled z, SL y a.Raised A, SL m a.Cpus n]), (BK ba 87 [iv l.1.Mask, SL am l.1.Stack af, SL an l.1.Queue.Slots ag, SL ao l.1.Queue.Waiting ah]), (bi ++ ((b0 ++ (b1 ++ (b2 ++ []))) ++ bk))] := e3.regroup (by simp)
  have fu : ownD deepInterface (a.Cpus.set c.Cpu.toNat l.1) m n b3 (bi ++ ((b0 ++ (b1 ++ (b2 ++ []))) ++ bk)) := ⟨_, set_fst cd c.Cpu.toNat (l.1, (plOf [(am, af), (an, ag), (ao, ah)])), ft, (fz (l.1, (plOf [(am, af), (an, ag), (ao, ah)])) _ (ownI_cons (i := ⟨Int, Gx.encI, _, _, _⟩) fp (ownI_cons (i := ⟨Slot, encSlot, _, _, _⟩) fq (ownI_cons (i := ⟨Waiter, encWaiter, _, _, _⟩) fs ownI_nil))))⟩
  have hf := gxIdx_put l.1 (gxIdx_down cd ca)
  refine LX 71 m n a.Cpus c.Cpu.toNat l.1 ?_
  have c1 : Mem [] w b5 [(BK N 32 [.slice W q.Routes.length U, .slice X q.Enabled.length V, .slice K q.Raised.length P, .slice O q.Cpus.length Q]), (BK F 51 [iv c.Kind, iv c.Irq, iv c.Cpu, iv c.Value]), (BK B 32 [.slice none 0 0, .slice none 0 0, .slice none 0 0, .slice none 0 0]), Y, Z, ab, b3, (BK G 32 [.slice D a.Routes.length C, .slice x a.Enabled.length z, .slice y a.Raised.length A, .slice m (a.Cpus.set c.Cpu.toNat l.1).length n]), (BK ba 87 [iv l.1.Mask, .slice am l.1.Stack.length af, .slice an l.1.Queue.Slots.length ag, .slice ao l.1.Queue.Waiting.length ah]), (bi ++ ((b0 ++ (b1 ++ (b2 ++ []))) ++ bk))] := by rw [@List.length_set _ a.Cpus c.Cpu.toNat l.1]; exact e4
  refine NA (wV (.agg #[SL D a.Routes C, SL x a.Enabled z, SL y a.Raised A, SL m (a.Cpus.set c.Cpu.toNat l.1) n]) b5 (eL true 4 0 (c1.blk 7 rfl)) (MW 3 (wS true 4 0 (.agg #[SL D a.Routes C, SL x a.Enabled z, SL y a.Raised A, SL m (a.Cpus.set c.Cpu.toNat l.1) n]) 2 [SL D a.Routes C, SL x a.Enabled z, SL y a.Raised A, SL m (a.Cpus.set c.Cpu.toNat l.1) n] c1 rfl fun g1 c2 => wR 2 [(4, pB B 0), (5, iv l.2), (6, .bool (decide (l.2 ≥ 0)))] g1 (NC (BR (TR ?_))))))
  obtain rfl := HS hm
  exact N_ret [.agg #[SL D a.Routes C, SL x a.Enabled z, SL y a.Raised A, SL m (a.Cpus.set c.Cpu.toNat l.1) n], iv l.2, .bool (decide (l.2 ≥ 0))] (RX true 4 0 (c2.blk 2 rfl) (rC (rC RVs_nil))) (⟨D, C, Y, x, z, Z, y, A, ab, m, n, b3, (bi ++ ((b0 ++ (b1 ++ (b2 ++ []))) ++ bk)), rfl, (fun _ => bu), (fun _ => bd), (fun _ => be), (fun _ => fu), c2.pk [3, 4, 5, 6, 9]⟩)
 refine QA (MW 2 (NO (GT hm (fun ck hm => ?_) fun ck hm => ?_)))
 ·refine QA (MW 1 (wV (SL m a.Cpus n) I (eL false 1 3 (J.blk 8 rfl)) (MW 1 (wV (iv c.Cpu) I (eL false 1 2 (J.blk 1 rfl)) (GD hm fun E gc hm => ?_)))))
  obtain ⟨hz, bg, cb, fe⟩ := id bf
  obtain ⟨H, bt⟩ := gxIdx_fst bg gc
  refine wV (elemP m (c.Cpu.toNat * 4)) I (eI (cb.r J 6) (len_fst bg) bt) (wV (.agg #[iv E.Mask, SL ((H 0).1) E.Stack ((H 0).2), SL ((H 1).1) E.Queue.Slots ((H 1).2), SL ((H 2).1) E.Queue.Waiting ((H 2).2)]) I (eE true 4 0 (c.Cpu.toNat * 4) (cb.r J 6) bt) (wN (CE 87 [iv 0, SN, SN, SN]) J fun bb hs e5 => wS true 4 0 (.agg #[iv E.Mask, SL ((H 0).1) E.Stack ((H 0).2), SL ((H 1).1) E.Queue.Slots ((H 1).2), SL ((H 2).1) E.Queue.Waiting ((H 2).2)]) 9 [iv E.Mask, SL ((H 0).1) E.Stack ((H 0).2), SL ((H 1).1) E.Queue.Slots ((H 1).2), SL ((H 2).1) E.Queue.Waiting ((H 2).2)] e5 rfl fun cp c3 => NA (MW 1 (wV (iv c.Value) cp (eL false 1 3 (c3.blk 1 rfl)) (MW 1 (wS false 1 0 (iv c.Value) 9 [iv c.Value, SL ((H 0).1) E.Stack ((H 0).2), SL ((H 1).1) E.Queue.Slots ((H 1).2), SL ((H 2).1) E.Queue.Waiting ((H 2).2)] c3 rfl fun bm bq => NA (MW 1 (wV (SL m a.Cpus n) bm (eL false 1 3 (bq.blk 8 rfl)) (MW 1 (wV (iv c.Cpu) bm (eL false 1 2 (bq.blk 1 rfl)) (wV (.agg #[iv c.Value, SL ((H 0).1) E.Stack ((H 0).2), SL ((H 1).1) E.Queue.Slots ((H 1).2), SL ((H 2).1) E.Queue.Waiting ((H 2).2)]) bm (eL true 4 0 (bq.blk 9 rfl)) (GD hm fun ht gd hm => ?_))))))))))))
  obtain ⟨g9, fb⟩ := gxIdx_fst bg gd
  refine wV (elemP m (c.Cpu.toNat * 4)) bm (eI (cb.r bq 6) (len_fst bg) fb) (wE true 4 c.Cpu.toNat 0 (c.Cpu.toNat * 4) (E, H) ((⟨c.Value, E.Stack, E.Queue⟩ : Interface), H) (.agg #[iv c.Value, SL ((H 0).1) E.Stack ((H 0).2), SL ((H 1).1) E.Queue.Slots ((H 1).2), SL ((H 2).1) E.Queue.Waiting ((H 2).2)]) 6 bq cb (gxIdx_spec bt).2 ?_)
  intro d3 cm fv e6
  have fw : ownD deepInterface (a.Cpus.set c.Cpu.toNat (⟨c.Value, E.Stack, E.Queue⟩ : Interface)) m n cm aq := ⟨_, set_fst bg c.Cpu.toNat ((⟨c.Value, E.Stack, E.Queue⟩ : Interface), H), fv, (by rw [flatMap_setSame (gxIdx_spec bt).2 (by kernel_rfl)]; exact fe)⟩
  have hg := gxIdx_put (⟨c.Value, E.Stack, E.Queue⟩ : Interface) (gxIdx_down bg bt)
  refine LX 92 m n a.Cpus c.Cpu.toNat (⟨c.Value, E.Stack, E.Queue⟩ : Interface) ?_
  have c4 : Mem [] w d3 [(BK N 32 [.slice W q.Routes.length U, .slice X q.Enabled.length V, .slice K q.Raised.length P, .slice O q.Cpus.length Q]), (BK F 51 [iv c.Kind, iv c.Irq, iv c.Cpu, iv c.Value]), (BK B 32 [.slice none 0 0, .slice none 0 0, .slice none 0 0, .slice none 0 0]), Y, Z, ab, cm, aq, (BK G 32 [.slice D a.Routes.length C, .slice x a.Enabled.length z, .slice y a.Raised.length A, .slice m (a.Cpus.set c.Cpu.toNat (⟨c.Value, E.Stack, E.Queue⟩ : Interface)).length n]), (BK bb 87 [iv c.Value, .slice ((H 0).1) E.Stack.length ((H 0).2), .slice ((H 1).1) E.Queue.Slots.length ((H 1).2), .slice ((H 2).1) E.Queue.Waiting.length ((H 2).2)])] := by rw [@List.length_set _ a.Cpus c.Cpu.toNat (⟨c.Value, E.Stack, E.Queue⟩ : Interface)]; exact e6
  refine NA (wV (.agg #[SL D a.Routes C, SL x a.Enabled z, SL y a.Raised A, SL m (a.Cpus.set c.Cpu.toNat (⟨c.Value, E.Stack, E.Queue⟩ : Interface)) n]) d3 (eL true 4 0 (c4.blk 8 rfl)) (wS true 4 0 (.agg #[SL D a.Routes C, SL x a.Enabled z, SL y a.Raised A, SL m (a.Cpus.set c.Cpu.toNat (⟨c.Value, E.Stack, E.Queue⟩ : Interface)) n]) 2 [SL D a.Routes C, SL x a.Enabled z, SL y a.Raised A, SL m (a.Cpus.set c.Cpu.toNat (⟨c.Value, E.Stack, E.Queue⟩ : Interface)) n] c4 rfl fun g2 c5 => MW 2 (NC (BR (TR ?_)))))
  obtain rfl := HS hm
  exact N_ret [.agg #[SL D a.Routes C, SL x a.Enabled z, SL y a.Raised A, SL m (a.Cpus.set c.Cpu.toNat (⟨c.Value, E.Stack, E.Queue⟩ : Interface)) n], iv (-1), .bool true] (RX true 4 0 (c5.blk 2 rfl) (rC (rC RVs_nil))) (⟨D, C, Y, x, z, Z, y, A, ab, m, n, cm, aq, rfl, (fun _ => bu), (fun _ => bd), (fun _ => be), (fun _ => fw), c5.pk [3, 4, 5, 6, 7]⟩)
 refine GK (BN (NF (MW 1 (wV (SL x a.Enabled z) I (eL false 1 1 (J.blk 8 rfl)) (MW 1 (wV (iv c.Irq) I (eL false 1 1 (J.blk 1 rfl)) (MW 1 (wV (iv c.Value) I (eL false 1 3 (J.blk 1 rfl)) (MW 1 (GD hm fun g8 dm hm => wV (elemP x (c.Irq.toNat * 1)) I (eI (bd.r J 4) rfl dm) (wE false 1 c.Irq.toNat 0 (c.Irq.toNat * 1) g8 (c.Value == 1) (.bool (c.Value == 1)) 4 J bd (gxIdx_spec dm).2 fun d4 d0 fx e7 => LX 99 x z a.Enabled c.Irq.toNat (c.Value == 1) ?_)))))))))))
 have c6 : Mem [] w d4 [(BK N 32 [.slice W q.Routes.length U, .slice X q.Enabled.length V, .slice K q.Raised.length P, .slice O q.Cpus.length Q]), (BK F 51 [iv c.Kind, iv c.Irq, iv c.Cpu, iv c.Value]), (BK B 32 [.slice none 0 0, .slice none 0 0, .slice none 0 0, .slice none 0 0]), Y, d0, ab, bl, aq, (BK G 32 [.slice D a.Routes.length C, .slice x (a.Enabled.set c.Irq.toNat (c.Value == 1)).length z, .slice y a.Raised.length A, .slice m a.Cpus.length n])] := by rw [@List.length_set _ a.Enabled c.Irq.toNat (c.Value == 1)]; exact e7
 refine NA (wV (.agg #[SL D a.Routes C, SL x (a.Enabled.set c.Irq.toNat (c.Value == 1)) z, SL y a.Raised A, SL m a.Cpus n]) d4 (eL true 4 0 (c6.blk 8 rfl)) (wS true 4 0 (.agg #[SL D a.Routes C, SL x (a.Enabled.set c.Irq.toNat (c.Value == 1)) z, SL y a.Raised A, SL m a.Cpus n]) 2 [SL D a.Routes C, SL x (a.Enabled.set c.Irq.toNat (c.Value == 1)) z, SL y a.Raised A, SL m a.Cpus n] c6 rfl fun g3 c7 => wR 2 [(4, pB B 0), (5, iv (-1)), (6, .bool true)] g3 (NC ?_)))
 obtain rfl := HS hm
 exact N_ret [.agg #[SL D a.Routes C, SL x (a.Enabled.set c.Irq.toNat (c.Value == 1)) z, SL y a.Raised A, SL m a.Cpus n], iv (-1), .bool true] (RX true 4 0 (c7.blk 2 rfl) (rC (rC RVs_nil))) (⟨D, C, Y, x, z, d0, y, A, ab, m, n, bl, aq, rfl, (fun _ => bu), (fun _ => fx), (fun _ => be), (fun _ => bf), c7.pk [3, 4, 5, 6, 7]⟩)
theorem c_s_DrainCpu (w : World) (d : Machine) (I D) (bo : rdS encRoute w d.Routes I D) (J F) (bp : rdS Gx.encB w d.Enabled J F) (K G) (bq : rdS Gx.encB w d.Raised K G) (L H) (br : rdD deepInterface w d.Cpus L H) (i : Int) {r : Machine × (List Int) × Bool} (hm : M.s_DrainCpu d i = some r) :
  Calls Tryz.prog 27 #[.agg #[SL I d.Routes D, SL J d.Enabled F, SL K d.Raised G, SL L d.Cpus H], iv i] w fun e w' => ∃ bz bj b4 b0 bk b5 b1 bl b6 b2 bm b7 b8 b3 bn b9, e = .returned (.tuple #[.agg #[SL bz r.1.Routes bj, SL b0 r.1.Enabled bk, SL b1 r.1.Raised bl, SL b2 r.1.Cpus bm], SL b3 r.2.1 bn, .bool r.2.2]) ∧ ownS encRoute r.1.Routes bz bj b4 ∧ ownS Gx.encB r.1.Enabled b0 bk b5 ∧ ownS Gx.encB r.1.Raised b1 bl b6 ∧ ownD deepInterface r.1.Cpus b2 bm b7 b8 ∧ ownS Gx.encI r.2.1 b3 bn b9 ∧ Mem [] w w' [b4, b5, b6, b7, b8, b9] := by
 unfold M.s_DrainCpu at hm
 refine cE Tryz.func27 ?_
 have M0 := Mem.refl [] w
 refine QA (wN (CE 32 [SL I d.Routes D, SL J d.Enabled F, SL K d.Raised G, SL L d.Cpus H]) M0 fun ae d5 cf => wN (CE 32 [SN, SN, SN, SN]) cf fun j dp cg => MW 2 (NA (wL (E := Gx.encI) ([] : List Int) 0 [] 3 cg fun O N ca az bs aa => MW 1 (NB (wV (.agg #[SL I d.Routes D, SL J d.Enabled F, SL K d.Raised G, SL L d.Cpus H]) az (eL true 4 0 (aa.blk 0 rfl)) (MW 1 (GD hm fun dc c7 hm => WD (c_s_l21Cpu az d I D (bo.mem0 aa) J F (bp.mem0 aa) K G (bq.mem0 aa) L H (br.mem0 aa) i c7) aa fun a0 Q => MW 1 (NO (GT hm (fun ba hm => ?_) fun ba hm => ?_)))))))))
 ·refine QA (MW 2 (wS true 4 0 (.agg #[SN, SN, SN, SN]) 1 [SN, SN, SN, SN] Q rfl fun dq bg => MW 2 (ND ?_)))
  obtain rfl := HS hm
  exact N_ret [.agg #[SN, SN, SN, SN], SL O ([] : List Int) N, .bool false] (RX true 4 0 (bg.blk 1 rfl) (rC (rC RVs_nil))) (⟨none, 0, [], none, 0, [], none, 0, [], none, 0, [], [], O, N, ca, rfl, ownS_nil, ownS_nil, ownS_nil, ownD_nil, bs, bg.pk [100000, 100001, 100002, 100003, 100004, 2]⟩)
 refine KA (wV (.agg #[SL I d.Routes D, SL J d.Enabled F, SL K d.Raised G, SL L d.Cpus H]) a0 (eL true 4 0 (Q.blk 0 rfl)) (GD hm fun P c8 hm => WC ((c_s_l21Sync a0 d I D (bo.mem0 Q) J F (bp.mem0 Q) K G (bq.mem0 Q) L H (br.mem0 Q) c8).mono ?_)))
 rintro e_ d6 ⟨bb, a6, dd, bc, a7, de, bd, a8, df, be, a9, dg, dh, rfl, cr, ct, cu, cv, cc⟩
 have ch := Q.call cc
 refine ⟨_, rfl, ?_⟩
 refine wN (CE 32 [SN, SN, SN, SN]) ch fun C d7 ci => wS true 4 0 (.agg #[SL bb P.Routes a6, SL bc P.Enabled a7, SL bd P.Raised a8, SL be P.Cpus a9]) 8 [SL bb P.Routes a6, SL bc P.Enabled a7, SL bd P.Raised a8, SL be P.Cpus a9] ci rfl fun d8 cj => NO (GD hm fun dx db cq => G_meet (fun a w' => False) ?_ ?_)
 ·refine GB (G_while (σ := List Int × List Route × List Bool × List Bool × List Interface) (ρ := Machine × (List Int) × Bool) (fun c a w' => ∃ A z ar t l au u m av x n aw y q ax ay, ownS Gx.encI c.1 A z ar ∧ ownS encRoute c.2.1 t l au ∧ ownS Gx.encB c.2.2.1 u m av ∧ ownS Gx.encB c.2.2.2.1 x n aw ∧ ownD deepInterface c.2.2.2.2 y q ax ay ∧ Mem [] w w' [(BK j 32 [SN, SN, SN, SN]), (BK C 32 [SL t c.2.1 l, SL u c.2.2.1 m, SL x c.2.2.2.1 n, SL y c.2.2.2.2 q]), ar, au, av, aw, ax, ay] ∧ Sat Tryz.f27.ntmps [(1, iv i), (4, pB j 0), (7, SL A c.1 z), (8, pB C 0)] a) db (fun a ha => ⟨O, N, ca, bb, a6, dd, bc, a7, de, bd, a8, df, be, a9, dg, dh, bs, cr, ct, cu, cv, cj.pk [1, 8, 2, 3, 4, 5, 6, 7], ha.s⟩) ?_)
  clear hm
  intro c ec hm c6 du bf ⟨A, z, ar, t, l, au, u, m, av, x, n, aw, y, q, ax, ay, bt, bu, bv, bw, bx, ab, co⟩
  refine G_use co (GB (QA (wV (.agg #[SL t c.2.1 l, SL u c.2.2.1 m, SL x c.2.2.2.1 n, SL y c.2.2.2.2 q]) bf (eL true 4 0 (ab.blk 1 rfl)) (MW 2 (GD hm fun f c9 hm => WC ((c_s_l21Make bf (⟨c.2.1, c.2.2.1, c.2.2.2.1, c.2.2.2.2⟩ : Machine) t l (bu.r ab 3) u m (bv.r ab 4) x n (bw.r ab 5) y q (bx.r2 ab 6 7) (⟨3, 0, i, 0⟩ : MachStep) c9).mono ?_))))))
  rintro e_ dr ⟨W, R, dz, X, S, d0, Y, T, d1, Z, U, d2, d3, rfl, cw, cx, cy, cz, cd⟩
  have ck := ab.call cd
  refine ⟨_, rfl, ?_⟩
  refine MW 4 (wN (CE 32 [SN, SN, SN, SN]) ck fun af d9 cl => wS true 4 0 (.agg #[SL W f.1.Routes R, SL X f.1.Enabled S, SL Y f.1.Raised T, SL Z f.1.Cpus U]) 13 [SL W f.1.Routes R, SL X f.1.Enabled S, SL Y f.1.Raised T, SL Z f.1.Cpus U] cl rfl fun ad a4 => MW 2 (NB (wR 2 [(1, iv i), (4, pB j 0), (7, SL A c.1 z), (8, pB C 0), (9, pB af 0), (10, iv f.2.1), (30, .bool (!f.2.2))] ad (NO (GT hm (fun V hm => ?_) fun V hm => ?_)))))
  ·refine QA (wV (.agg #[SL t c.2.1 l, SL u c.2.2.1 m, SL x c.2.2.2.1 n, SL y c.2.2.2.2 q]) ad (eL true 4 0 (a4.blk 1 rfl)) (MW 1 (wS true 4 0 (.agg #[SL t c.2.1 l, SL u c.2.2.1 m, SL x c.2.2.2.1 n, SL y c.2.2.2.2 q]) 0 [SL t c.2.1 l, SL u c.2.2.1 m, SL x c.2.2.2.1 n, SL y c.2.2.2.2 q] a4 rfl fun ds bh => MW 2 (ND (BR (TR ?_))))))
   obtain rfl := HS hm
   obtain rfl := c6 _ rfl
   have hm := cq
   refine BR (N_meet_ret ?_)
   obtain rfl := HS hm
   exact N_ret [.agg #[SL t c.2.1 l, SL u c.2.2.1 m, SL x c.2.2.2.1 n, SL y c.2.2.2.2 q], SL A c.1 z, .bool true] (RX true 4 0 (bh.blk 0 rfl) (rC (rC RVs_nil))) (⟨t, l, au, u, m, av, x, n, aw, y, q, ax, ay, A, z, ar, rfl, bu, bv, bw, bx, bt, bh.pk [3, 4, 5, 6, 7, 2]⟩)
  refine KA (MW 2 (wL (E := Gx.encI) [f.2.1] 1 [iv f.2.1] 3 a4 fun dy dw d4 ea c0 bi => GD hm fun a5 cp hm => wA 8 [iv 0] 2 bi bt (c0.r bi 14) cp fun am ag di a3 c1 ac => MW 1 (NO (GR (wV (.agg #[SL W f.1.Routes R, SL X f.1.Enabled S, SL Y f.1.Raised T, SL Z f.1.Cpus U]) a3 (eL true 4 0 (ac.blk 13 rfl)) (MW 2 (GD hm fun B da hm => WC ((c_s_l21Make a3 f.1 W R ((cw (by simpa using V)).rd ac 8 (by kernel_rfl)) X S ((cx (by simpa using V)).rd ac 9 (by kernel_rfl)) Y T ((cy (by simpa using V)).rd ac 10 (by kernel_rfl)) Z U ((cz (by simpa using V)).rd ac 11 (by kernel_rfl) 12 (by kernel_rfl)) (⟨4, 0, i, 0⟩ : MachStep) da).mono ?_))))))))
  rintro e_ dt ⟨an, ah, dj, ao, ai, dk, ap, aj, dl, aq, ak, dm, dn, rfl, c2, c3, c4, c5, ce⟩
  have cm := ac.call ce
  refine ⟨_, rfl, ?_⟩
  refine GD hm fun dv al hm => MW 4 (wS true 4 0 (.agg #[SL an B.1.Routes ah, SL ao B.1.Enabled ai, SL ap B.1.Raised aj, SL aq B.1.Cpus ak]) 1 [SL an B.1.Routes ah, SL ao B.1.Enabled ai, SL ap B.1.Raised aj, SL aq B.1.Cpus ak] cm rfl fun eb cn => WN (BN ?_))
  cases hm
  exact N_loop fun a ha => ⟨_, rfl, am, ag, di, an, ah, dj, ao, ai, dk, ap, aj, dl, aq, ak, dm, dn, c1, (c2 (gxAssert_spec al)), (c3 (gxAssert_spec al)), (c4 (gxAssert_spec al)), (c5 (gxAssert_spec al)), cn.pk [0, 1, 2, 15, 16, 17, 18, 19], ha.s⟩
 intro _ _ h
 exact h.elim
theorem c_i_newQueue (w : World) (a : Queue) (y q) (aj : rdS encSlot w a.Slots y q) (z t) (ak : rdS encWaiter w a.Waiting z t) {r : Queue} (hm : M.i_newQueue a = some r) :
  Calls Tryz.prog 177 #[.agg #[SL y a.Slots q, SL z a.Waiting t]] w fun e w' => ∃ U S W V T X, e = .returned (.agg #[SL U r.Slots S, SL V r.Waiting T]) ∧ ownS encSlot r.Slots U S W ∧ ownS encWaiter r.Waiting V T X ∧ Mem [] w w' [W, X] := by
 unfold M.i_newQueue at hm
 refine cE Tryz.func177 ?_
 have M0 := Mem.refl [] w
 refine QA (wN (CE 85 [SL y a.Slots q, SL z a.Waiting t]) M0 fun m a0 Y => wN (CE 85 [SN, SN]) Y fun H a3 Z => NE (GD hm fun l al hm => GU [(0, .agg #[SL y a.Slots q, SL z a.Waiting t]), (1, pB m 0), (2, pB H 0)] (DL 7 [[],[],[1],[0,2],[],[],[5]] [[],[],[],[0],[],[],[]] (EM 7) (EM 7) (EM 7) (EM 7) (fun _ => []) [fun f v s => ∃ A u, v = (.slice A ([] : List Slot).length u : Value) ∧ ownS encSlot ([] : List Slot) A u s, QV (pB m 0), QV (.slice y a.Slots.length q), fun f v s => ∃ d c, v = (.slice d l.length c : Value) ∧ ownS encSlot l d c s, fun f v s => ∃ B x, v = (.slice B ([] : List Waiter).length x : Value) ∧ ownS encWaiter ([] : List Waiter) B x s, QV (pB m 1), QV (.slice z a.Waiting.length t)] [] [3, 4, 6] [3, 4] (Z.preNil 7) (AC ?_ (AC ?_ (AC ?_ (AC ?_ (AC ?_ (AC ?_ (AC ?_ AN))))))) ?_)))
 ·intro n G R a4 aa
  exact wL (E := encSlot) ([] : List Slot) 0 [] 117 aa fun A u ao a5 I ab => WN (oE (SL A ([] : List Slot) u) ao ⟨A, u, rfl, I⟩ (Mem.mid ab))
 ·intro n G R au ac
  exact OM ⟨rfl, rfl⟩ ac
 ·rintro n G v1_ ⟨rfl, _⟩ R av L
  exact OV ⟨rfl, rfl⟩ (eL false 1 0 (L.blk 0 rfl)) L
 ·intro n G v0_ hb0_
  obtain ⟨A, u, rfl, I⟩ := hb0_
  rintro v2_ ⟨rfl, _⟩ R a6 N
  exact wA 24 [iv 0, iv 0, iv 0] 3 N I (aj.mem0 N) al fun d c ap a7 J ad => WN (oE (SL d l c) ap ⟨d, c, rfl, J⟩ (Mem.takeOver ad))
 ·intro n G R a8 ae
  exact wL (E := encWaiter) ([] : List Waiter) 0 [] 142 ae fun B x aq a9 K af => WN (oE (SL B ([] : List Waiter) x) aq ⟨B, x, rfl, K⟩ (Mem.mid af))
 ·intro n G R aw ag
  exact OM ⟨rfl, rfl⟩ ag
 ·rintro n G v5_ ⟨rfl, _⟩ R ax O
  exact OV ⟨rfl, rfl⟩ (eL false 1 1 (O.blk 0 rfl)) O
 intro n G v3_ hb3_
 obtain ⟨d, c, rfl, J⟩ := hb3_
 intro v4_ hb4_
 obtain ⟨B, x, rfl, K⟩ := hb4_
 rintro v6_ ⟨rfl, _⟩ ay ah
 have P : Mem [] w ay [(BK m 85 [SL y a.Slots q, SL z a.Waiting t]), (BK H 85 [SN, SN]), (n 3), (n 4)] := ah
 refine GD hm fun F am hm => wA 16 [iv 0, iv 0] 3 P K (ak.mem0 P) am fun D C ar az an ai => MW 1 (wS true 2 0 (.agg #[SL d l c, SL D F C]) 1 [SL d l c, SL D F C] ai rfl fun ba Q => NC ?_)
 obtain rfl := HS hm
 exact N_ret [.agg #[SL d l c, SL D F C]] (RX true 2 0 (Q.blk 1 rfl) RVs_nil) (⟨d, c, (n 3), D, C, ar, rfl, J, an, Q.pk [2, 3]⟩)
theorem c_i_newInterface (w : World) (a : Interface) (B x) (an : rdS Gx.encI w a.Stack B x) (C y) (ao : rdS encSlot w a.Queue.Slots C y) (D z) (ap : rdS encWaiter w a.Queue.Waiting D z) {r : Interface} (hm : M.i_newInterface a = some r) :
  Calls Tryz.prog 135 #[.agg #[iv a.Mask, SL B a.Stack x, SL C a.Queue.Slots y, SL D a.Queue.Waiting z]] w fun e w' => ∃ Z W ac aa X ad ab Y ae, e = .returned (.agg #[iv r.Mask, SL Z r.Stack W, SL aa r.Queue.Slots X, SL ab r.Queue.Waiting Y]) ∧ ownS Gx.encI r.Stack Z W ac ∧ ownS encSlot r.Queue.Slots aa X ad ∧ ownS encWaiter r.Queue.Waiting ab Y ae ∧ Mem [] w w' [ac, ad, ae] := by
 unfold M.i_newInterface at hm
 refine cE Tryz.func135 ?_
 have M0 := Mem.refl [] w
 refine QA (wN (CE 87 [iv a.Mask, SL B a.Stack x, SL C a.Queue.Slots y, SL D a.Queue.Waiting z]) M0 fun u a5 ah => wN (CE 87 [iv 0, SN, SN, SN]) ah fun I a6 ai => NE (GD hm fun E aq hm => GD hm fun c ar hm => GU [(0, .agg #[iv a.Mask, SL B a.Stack x, SL C a.Queue.Slots y, SL D a.Queue.Waiting z]), (1, pB u 0), (2, pB I 0)] (DL 8 [[],[0],[],[2],[3],[],[5],[6]] (EM 8) (EM 8) (EM 8) (EM 8) (EM 8) (fun _ => []) [QV (pB u 0), QV (iv a.Mask), QV (pB u 1), QV (.slice B a.Stack.length x), fun f v s => ∃ n d, v = (.slice n E.length d : Value) ∧ ownS Gx.encI E n d s, QV (pB u 2), QV (.agg #[SL C a.Queue.Slots y, SL D a.Queue.Waiting z]), fun f v s => ∃ q l F t m G, v = (.agg #[SL q c.Slots l, SL t c.Waiting m] : Value) ∧ s = (F ++ G) ∧ ownS encSlot c.Slots q l F ∧ ownS encWaiter c.Waiting t m G] [] [1, 4, 7] [4, 7] (ai.preNil 8) (AC ?_ (AC ?_ (AC ?_ (AC ?_ (AC ?_ (AC ?_ (AC ?_ (AC ?_ AN)))))))) ?_)))
 ·intro A H R av aj
  exact OM ⟨rfl, rfl⟩ aj
 ·rintro A H v0_ ⟨rfl, _⟩ R aw Q
  exact OV ⟨rfl, rfl⟩ (eL false 1 0 (Q.blk 0 rfl)) Q
 ·intro A H R ax ak
  exact OM ⟨rfl, rfl⟩ ak
 ·rintro A H v2_ ⟨rfl, _⟩ R ay S
  exact OV ⟨rfl, rfl⟩ (eL false 1 1 (S.blk 0 rfl)) S
 ·rintro A H v3_ ⟨rfl, _⟩ R az T
  refine WC ((c_i_copyInts az a.Stack B x (an.mem0 T) aq).mono ?_)
  rintro e_ a7 ⟨n, d, au, rfl, L, af⟩
  refine ⟨_, rfl, ?_⟩
  exact WN (oE (SL n E d) au ⟨n, d, rfl, L⟩ (Mem.callMid T af))
 ·intro A H R a0 al
  exact OM ⟨rfl, rfl⟩ al
 ·rintro A H v5_ ⟨rfl, _⟩ R a3 U
  exact OV ⟨rfl, rfl⟩ (eL true 2 2 (U.blk 0 rfl)) U
 ·rintro A H v6_ ⟨rfl, _⟩ R a4 K
  refine WC ((c_i_newQueue a4 a.Queue C y (ao.mem0 K) D z (ap.mem0 K) ar).mono ?_)
  rintro e_ a8 ⟨q, l, F, t, m, G, rfl, N, O, ag⟩
  refine ⟨_, rfl, ?_⟩
  exact WN (oE (.agg #[SL q c.Slots l, SL t c.Waiting m]) (F ++ G) ⟨q, l, F, t, m, G, rfl, rfl, N, O⟩ (Mem.callMid K (ag.permF (by simp))))
 rintro A H v1_ ⟨rfl, _⟩ v4_ hb4_
 obtain ⟨n, d, rfl, L⟩ := hb4_
 intro v7_ hb7_
 obtain ⟨q, l, F, t, m, G, rfl, hs7_, N, O⟩ := hb7_
 intro P am
 have J : Mem [] w P [(BK u 87 [iv a.Mask, SL B a.Stack x, SL C a.Queue.Slots y, SL D a.Queue.Waiting z]), (BK I 87 [iv 0, SN, SN, SN]), (A 4), F, G] := am.permF (by simp [hs7_, SL])
 refine MW 1 (wS true 4 0 (.agg #[iv a.Mask, SL n E d, SL q c.Slots l, SL t c.Waiting m]) 1 [iv a.Mask, SL n E d, SL q c.Slots l, SL t c.Waiting m] J rfl fun a9 V => NC ?_)
 obtain rfl := HS hm
 exact N_ret [.agg #[iv a.Mask, SL n E d, SL q c.Slots l, SL t c.Waiting m]] (RX true 4 0 (V.blk 1 rfl) RVs_nil) (⟨n, d, (A 4), q, l, F, t, m, G, rfl, L, N, O, V.pk [2, 3, 4]⟩)
end Go.Proofs.YtllhajkgkghhdaaGreat
