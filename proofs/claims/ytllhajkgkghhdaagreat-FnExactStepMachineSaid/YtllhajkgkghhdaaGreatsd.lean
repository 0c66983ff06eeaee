/- Part of a proof: what its last text rests on. -/
import Derived.Test.YtllhajkgkghhdaaGreatProg
import Derived.Test.YtllhajkgkghhdaaGreatSh
import Derived.Test.YtllhajkgkghhdaaGreatsc
set_option linter.unusedVariables false
set_option linter.unusedSimpArgs false
set_option maxRecDepth 100000
set_option maxHeartbeats 4000000
namespace Go.Proofs.YtllhajkgkghhdaaGreat
open Go.Gx
theorem c_l_toMachStep (w : World) (a : MachStep) {r : MachStep} (hm : M.l_toMachStep a = some r) :
  Calls Tryz.prog 31 #[.agg #[iv a.Kind, iv a.Irq, iv a.Cpu, iv a.Value]] w fun e w' => e = .returned (.agg #[iv r.Kind, iv r.Irq, iv r.Cpu, iv r.Value]) ∧ Mem [] w w' [] := by
 unfold M.l_toMachStep at hm
 refine cE Tryz.func31 ?_
 have M0 := Mem.refl [] w
 refine QA (wN (CE 48 [iv a.Kind, iv a.Irq, iv a.Cpu, iv a.Value]) M0 fun d B y => wN (CE 51 [iv 0, iv 0, iv 0, iv 0]) y fun f C z => NA (wN (CE 51 [iv 0, iv 0, iv 0, iv 0]) z fun c h m => NA (MW 1 (wV (iv a.Kind) h (eL false 1 0 (m.blk 0 rfl)) (MW 1 (wS false 1 0 (iv a.Kind) 2 [iv a.Kind, iv 0, iv 0, iv 0] m rfl fun i n => NA (MW 1 (wV (iv a.Irq) i (eL false 1 1 (n.blk 0 rfl)) (MW 1 (wS false 1 1 (iv a.Irq) 2 [iv a.Kind, iv a.Irq, iv 0, iv 0] n rfl fun j q => NA (MW 1 (wV (iv a.Cpu) j (eL false 1 2 (q.blk 0 rfl)) (MW 1 (wS false 1 2 (iv a.Cpu) 2 [iv a.Kind, iv a.Irq, iv a.Cpu, iv 0] q rfl fun l t => NA (MW 1 (wV (iv a.Value) l (eL false 1 3 (t.blk 0 rfl)) (MW 1 (wS false 1 3 (iv a.Value) 2 [iv a.Kind, iv a.Irq, iv a.Cpu, iv a.Value] t rfl fun A u => NA (wV (.agg #[iv a.Kind, iv a.Irq, iv a.Cpu, iv a.Value]) A (eL true 4 0 (u.blk 2 rfl)) (wS true 4 0 (.agg #[iv a.Kind, iv a.Irq, iv a.Cpu, iv a.Value]) 1 [iv a.Kind, iv a.Irq, iv a.Cpu, iv a.Value] u rfl fun D x => NC ?_))))))))))))))))))))
 obtain rfl := HS hm
 exact N_ret [.agg #[iv a.Kind, iv a.Irq, iv a.Cpu, iv a.Value]] (RX true 4 0 (x.blk 1 rfl) RVs_nil) (⟨rfl, x.pk []⟩)
theorem c_s_l21Step (w : World) (g : Machine) (R x) (bq : rdS encRoute w g.Routes R x) (S y) (br : rdS Gx.encB w g.Enabled S y) (T z) (bs : rdS Gx.encB w g.Raised T z) (t q) (bt : rdD deepInterface w g.Cpus t q) (b : MachStep) {r : Bool} (hm : M.s_l21Step g b = some r) :
  Calls Tryz.prog 85 #[.agg #[SL R g.Routes x, SL S g.Enabled y, SL T g.Raised z, SL t g.Cpus q], .agg #[iv b.Kind, iv b.Irq, iv b.Cpu, iv b.Value]] w fun e w' => e = .returned (.bool r) ∧ Mem [] w w' [] := by
 unfold M.s_l21Step at hm
 refine cE Tryz.func85 ?_
 have M0 := Mem.refl [] w
 refine QA (wN (CE 32 [SL R g.Routes x, SL S g.Enabled y, SL T g.Raised z, SL t g.Cpus q]) M0 fun v bu ae => wN (CE 51 [iv b.Kind, iv b.Irq, iv b.Cpu, iv b.Value]) ae fun c m u => MW 1 (NA (MW 1 (wV (iv b.Cpu) m (eL false 1 2 (u.blk 1 rfl)) (MW 1 (wV (SL t g.Cpus q) m (eL false 1 3 (u.blk 0 rfl)) (MW 2 (GD hm fun i a8 hm => WD (c_s_l1In m b.Cpu 0 (w64 ((g.Cpus.length : Int) - 1)) a8) u fun f j => MW 1 (NB (MW 1 (wV (iv b.Kind) f (eL false 1 0 (j.blk 1 rfl)) (NO (GB (QA (MW 2 (NO (GT hm (fun A hm => ?_) fun A hm => ?_)))))))))))))))))
 ·refine GS (GD hm fun U a0 au => G_meet (fun a w' => Mem [] w w' [] ∧ Sat Tryz.f85.ntmps [(4, .bool U)] a) ?_ ?_)
  ·have hm := a0
   refine GR (MW 1 (wV (iv b.Irq) f (eL false 1 1 (j.blk 1 rfl)) (GD hm fun be a9 hm => WD (c_s_l6Irq f b.Irq a9) j fun k n => wR 1 [(3, pB c 0), (20, .bool be)] k ?_)))
   rcases gx_bif hm with ⟨B, hm⟩ | ⟨B, hm⟩
   ·refine wK 20 true B (MW 1 (wV (iv b.Cpu) k (eL false 1 2 (n.blk 1 rfl)) (wR 3 [(3, pB c 0), (25, .bool (b.Cpu == 0))] k ?_)))
    rcases gx_bif hm with ⟨C, hm⟩ | ⟨C, hm⟩
    ·refine wK 25 true C (MW 1 (wV (iv b.Value) k (eL false 1 3 (n.blk 1 rfl)) (MW 3 (WN ?_))))
     obtain rfl := HS hm
     exact NM fun a ha => ⟨n.pk [], ha.s⟩
    refine wK 25 false C (MW 5 (WN ?_))
    obtain rfl := HS hm
    exact NM fun a ha => ⟨n.pk [], ha.s⟩
   refine wK 20 false B (wR 10 [(4, .bool false)] k (WN ?_))
   obtain rfl := HS hm
   exact NM fun a ha => ⟨n.pk [], ha.s⟩
  intro bk bv ⟨af, am⟩
  refine N_use am ?_
  have hm := au
  refine TN (G_ret (BR (TR ?_)))
  obtain rfl := HS hm
  exact RA [.bool U] (⟨rfl, af.pk []⟩)
 refine QA (MW 2 (NO (GT hm (fun D hm => ?_) fun D hm => ?_)))
 ·refine GS (GD hm fun V a3 av => G_meet (fun a w' => Mem [] w w' [] ∧ Sat Tryz.f85.ntmps [(4, .bool V)] a) ?_ ?_)
  ·have hm := a3
   refine GR (MW 1 (wV (iv b.Irq) f (eL false 1 1 (j.blk 1 rfl)) (wR 2 [(3, pB c 0), (35, .bool (b.Irq == 0))] f ?_)))
   rcases gx_bif hm with ⟨E, hm⟩ | ⟨E, hm⟩
   ·refine wK 35 true E (MW 1 (wV (iv b.Cpu) f (eL false 1 2 (j.blk 1 rfl)) (wR 3 [(3, pB c 0), (40, .bool (b.Cpu == 0))] f ?_)))
    rcases gx_bif hm with ⟨F, hm⟩ | ⟨F, hm⟩
    ·refine wK 40 true F (MW 1 (wV (iv b.Value) f (eL false 1 3 (j.blk 1 rfl)) (MW 3 (WN ?_))))
     obtain rfl := HS hm
     exact NM fun a ha => ⟨j.pk [], ha.s⟩
    refine wK 40 false F (MW 5 (WN ?_))
    obtain rfl := HS hm
    exact NM fun a ha => ⟨j.pk [], ha.s⟩
   refine wK 35 false E (wR 10 [(4, .bool false)] f (WN ?_))
   obtain rfl := HS hm
   exact NM fun a ha => ⟨j.pk [], ha.s⟩
  intro bl bw ⟨ag, an⟩
  refine N_use an ?_
  have hm := av
  refine TN (G_ret (BR (TR ?_)))
  obtain rfl := HS hm
  exact RA [.bool V] (⟨rfl, ag.pk []⟩)
 refine QB (MW 2 (NO (GD hm fun bd a4 aw => G_meet (fun a w' => Mem [] w w' [(BK c 51 [iv b.Kind, iv b.Irq, iv b.Cpu, iv b.Value])] ∧ Sat Tryz.f85.ntmps [(3, pB c 0), (5, .bool i), (14, iv b.Kind), (45, .bool bd)] a) ?_ ?_)))
 ·have hm := a4
  refine GT hm (fun G hm => ?_) fun G hm => ?_
  ·refine GK ?_
   obtain rfl := HS hm
   exact NM fun a ha => ⟨j.pk [1], ha.s⟩
  refine GR (MW 2 (WN ?_))
  obtain rfl := HS hm
  exact NM fun a ha => ⟨j.pk [1], ha.s⟩
 intro bm d ⟨h, ao⟩
 refine N_use ao ?_
 have hm := aw
 refine TN (GT hm (fun H hm => ?_) fun H hm => ?_)
 ·refine GS (GD hm fun W a5 ax => G_meet (fun a w' => Mem [] w w' [] ∧ Sat Tryz.f85.ntmps [(4, .bool W)] a) ?_ ?_)
  ·have hm := a5
   refine GR (MW 1 (wV (iv b.Irq) d (eL false 1 1 (h.blk 0 rfl)) (wR 2 [(3, pB c 0), (5, .bool i), (51, .bool (b.Irq == 0))] d ?_)))
   rcases gx_bif hm with ⟨I, hm⟩ | ⟨I, hm⟩
   ·refine wK 51 true I (wR 3 [(3, pB c 0), (54, .bool i)] d ?_)
    rcases gx_bif hm with ⟨J, hm⟩ | ⟨J, hm⟩
    ·refine wK 54 true J (MW 1 (wV (iv b.Value) d (eL false 1 3 (h.blk 0 rfl)) (MW 3 (WN ?_))))
     obtain rfl := HS hm
     exact NM fun a ha => ⟨h.pk [], ha.s⟩
    refine wK 54 false J (MW 5 (WN ?_))
    obtain rfl := HS hm
    exact NM fun a ha => ⟨h.pk [], ha.s⟩
   refine wK 51 false I (wR 8 [(4, .bool false)] d (WN ?_))
   obtain rfl := HS hm
   exact NM fun a ha => ⟨h.pk [], ha.s⟩
  intro bn bx ⟨ah, ap⟩
  refine N_use ap ?_
  have hm := ax
  refine TN (G_ret (BR (TR ?_)))
  obtain rfl := HS hm
  exact RA [.bool W] (⟨rfl, ah.pk []⟩)
 refine QA (MW 2 (NO (GT hm (fun K hm => ?_) fun K hm => ?_)))
 ·refine GS (GD hm fun X a6 ay => G_meet (fun a w' => Mem [] w w' [] ∧ Sat Tryz.f85.ntmps [(4, .bool X)] a) ?_ ?_)
  ·have hm := a6
   refine GR (MW 1 (wV (iv b.Irq) d (eL false 1 1 (h.blk 0 rfl)) (wR 2 [(3, pB c 0), (5, .bool i), (64, .bool (b.Irq == 0))] d ?_)))
   rcases gx_bif hm with ⟨L, hm⟩ | ⟨L, hm⟩
   ·refine wK 64 true L (wR 3 [(3, pB c 0), (67, .bool i)] d ?_)
    rcases gx_bif hm with ⟨N, hm⟩ | ⟨N, hm⟩
    ·refine wK 67 true N (MW 1 (wV (iv b.Value) d (eL false 1 3 (h.blk 0 rfl)) (GD hm fun bf ba hm => WD (c_s_l1In d b.Value 0 16 ba) h fun bi ai => MW 2 (WN ?_))))
     obtain rfl := HS hm
     exact NM fun a ha => ⟨ai.pk [], ha.s⟩
    refine wK 67 false N (MW 5 (WN ?_))
    obtain rfl := HS hm
    exact NM fun a ha => ⟨h.pk [], ha.s⟩
   refine wK 64 false L (wR 8 [(4, .bool false)] d (WN ?_))
   obtain rfl := HS hm
   exact NM fun a ha => ⟨h.pk [], ha.s⟩
  intro bo bz ⟨aj, aq⟩
  refine N_use aq ?_
  have hm := ay
  refine TN (G_ret (BR (TR ?_)))
  obtain rfl := HS hm
  exact RA [.bool X] (⟨rfl, aj.pk []⟩)
 refine GK (BN (TN (GS (GD hm fun Y a7 az => G_meet (fun a w' => Mem [] w w' [] ∧ Sat Tryz.f85.ntmps [(4, .bool Y)] a) ?_ ?_))))
 ·have hm := a7
  refine GR (MW 1 (wV (iv b.Kind) d (eL false 1 0 (h.blk 0 rfl)) (wR 2 [(3, pB c 0), (75, .bool (b.Kind == 6))] d ?_)))
  rcases gx_bif hm with ⟨O, hm⟩ | ⟨O, hm⟩
  ·refine wK 75 true O (MW 1 (wV (iv b.Irq) d (eL false 1 1 (h.blk 0 rfl)) (GD hm fun bg bb hm => WD (c_s_l6Irq d b.Irq bb) h fun l o => wR 2 [(3, pB c 0), (80, .bool bg)] l ?_)))
   rcases gx_bif hm with ⟨P, hm⟩ | ⟨P, hm⟩
   ·refine wK 80 true P (MW 1 (wV (iv b.Cpu) l (eL false 1 2 (o.blk 0 rfl)) (wR 3 [(3, pB c 0), (85, .bool (b.Cpu == 0))] l ?_)))
    rcases gx_bif hm with ⟨Q, hm⟩ | ⟨Q, hm⟩
    ·refine wK 85 true Q (MW 1 (wV (iv b.Value) l (eL false 1 3 (o.blk 0 rfl)) (GD hm fun bh bc hm => WD (c_s_l1In l b.Value 0 1 bc) o fun bj ak => MW 2 (WN ?_))))
     obtain rfl := HS hm
     exact NM fun a ha => ⟨ak.pk [], ha.s⟩
    refine wK 85 false Q (MW 5 (WN ?_))
    obtain rfl := HS hm
    exact NM fun a ha => ⟨o.pk [], ha.s⟩
   refine wK 80 false P (wR 10 [(4, .bool false)] l (WN ?_))
   obtain rfl := HS hm
   exact NM fun a ha => ⟨o.pk [], ha.s⟩
  refine wK 75 false O (MW 15 (WN ?_))
  obtain rfl := HS hm
  exact NM fun a ha => ⟨h.pk [], ha.s⟩
 intro bp b0 ⟨al, ar⟩
 refine N_use ar ?_
 have hm := az
 refine TN (G_ret ?_)
 obtain rfl := HS hm
 exact RA [.bool Y] (⟨rfl, al.pk []⟩)
theorem c_s_StepMachine (w : World) (d : Machine) (n i) (Q : rdS encRoute w d.Routes n i) (q j) (R : rdS Gx.encB w d.Enabled q j) (t l) (S : rdS Gx.encB w d.Raised t l) (u m) (T : rdD deepInterface w d.Cpus u m) (f : MachStep) {r : Machine × Int × Bool} (hm : M.s_StepMachine d f = some r) :
  Calls Tryz.prog 30 #[.agg #[SL n d.Routes i, SL q d.Enabled j, SL t d.Raised l, SL u d.Cpus m], .agg #[iv f.Kind, iv f.Irq, iv f.Cpu, iv f.Value]] w fun e w' => ∃ af ab aj ag ac ak ah ad al ai ae am an, e = .returned (.tuple #[.agg #[SL af r.1.Routes ab, SL ag r.1.Enabled ac, SL ah r.1.Raised ad, SL ai r.1.Cpus ae], iv r.2.1, .bool r.2.2]) ∧ ownS encRoute r.1.Routes af ab aj ∧ ownS Gx.encB r.1.Enabled ag ac ak ∧ ownS Gx.encB r.1.Raised ah ad al ∧ ownD deepInterface r.1.Cpus ai ae am an ∧ Mem [] w w' [aj, ak, al, am, an] := by
 unfold M.s_StepMachine at hm
 refine cE Tryz.func30 ?_
 have M0 := Mem.refl [] w
 refine QA (wN (CE 32 [SL n d.Routes i, SL q d.Enabled j, SL t d.Raised l, SL u d.Cpus m]) M0 fun J bo ar => wN (CE 51 [iv f.Kind, iv f.Irq, iv f.Cpu, iv f.Value]) ar fun K bp au => wN (CE 32 [SN, SN, SN, SN]) au fun h W I => MW 2 (NE (GS (GD hm fun ba a0 az => G_meet (fun a w' => Mem [] w w' [(BK J 32 [SL n d.Routes i, SL q d.Enabled j, SL t d.Raised l, SL u d.Cpus m]), (BK K 51 [iv f.Kind, iv f.Irq, iv f.Cpu, iv f.Value]), (BK h 32 [SN, SN, SN, SN])] ∧ Sat Tryz.f30.ntmps [(2, pB J 0), (3, pB K 0), (4, pB h 0), (18, .bool ba)] a) ?_ ?_))))
 ·have hm := a0
  refine GR (wV (.agg #[SL n d.Routes i, SL q d.Enabled j, SL t d.Raised l, SL u d.Cpus m]) W (eL true 4 0 (I.blk 0 rfl)) (GD hm fun bb a7 hm => WD (c_s_l21Good W d n i (Q.mem0 I) q j (R.mem0 I) t l (S.mem0 I) u m (T.mem0 I) a7) I fun L F => wR 2 [(2, pB J 0), (3, pB K 0), (4, pB h 0), (13, .bool (!bb))] L ?_))
  rcases gx_bif hm with ⟨U, hm⟩ | ⟨U, hm⟩
  ·refine wK 13 true U (MW 5 (WN ?_))
   obtain rfl := HS hm
   exact NM fun a ha => ⟨F.pk [0, 1, 2], ha.s⟩
  refine wK 13 false U (wV (.agg #[SL n d.Routes i, SL q d.Enabled j, SL t d.Raised l, SL u d.Cpus m]) L (eL true 4 0 (F.blk 0 rfl)) (wV (.agg #[iv f.Kind, iv f.Irq, iv f.Cpu, iv f.Value]) L (eL true 4 0 (F.blk 1 rfl)) (GD hm fun bc a8 hm => WD (c_s_l21Step L d n i (Q.mem0 F) q j (R.mem0 F) t l (S.mem0 F) u m (T.mem0 F) f a8) F fun bi av => MW 2 (WN ?_))))
  obtain rfl := HS hm
  exact NM fun a ha => ⟨av.pk [0, 1, 2], ha.s⟩
 intro bn O ⟨G, ay⟩
 refine N_use ay ?_
 have hm := az
 refine TN (GT hm (fun V hm => ?_) fun V hm => ?_)
 ·refine QA (MW 1 (wS true 4 0 (.agg #[SN, SN, SN, SN]) 2 [SN, SN, SN, SN] G rfl fun bj X => MW 2 (ND ?_)))
  obtain rfl := HS hm
  exact N_ret [.agg #[SN, SN, SN, SN], iv 0, .bool false] (RX true 4 0 (X.blk 2 rfl) (rC (rC RVs_nil))) (⟨none, 0, [], none, 0, [], none, 0, [], none, 0, [], [], rfl, ownS_nil, ownS_nil, ownS_nil, ownD_nil, X.pk [100000, 100001, 100002, 100003, 100004]⟩)
 refine KA (wV (.agg #[SL n d.Routes i, SL q d.Enabled j, SL t d.Raised l, SL u d.Cpus m]) O (eL true 4 0 (G.blk 0 rfl)) (wV (.agg #[iv f.Kind, iv f.Irq, iv f.Cpu, iv f.Value]) O (eL true 4 0 (G.blk 1 rfl)) (GD hm fun c a9 hm => WC ((c_s_l21Make O d n i (Q.mem0 G) q j (R.mem0 G) t l (S.mem0 G) u m (T.mem0 G) f a9).mono ?_))))
 rintro e_ bk ⟨B, x, bd, C, y, be, D, z, bf, E, A, bg, bh, rfl, a3, a4, a5, a6, aq⟩
 have aw := G.call aq
 refine ⟨_, rfl, ?_⟩
 refine MW 4 (wN (CE 32 [SN, SN, SN, SN]) aw fun aa bq ax => wS true 4 0 (.agg #[SL B c.1.Routes x, SL C c.1.Enabled y, SL D c.1.Raised z, SL E c.1.Cpus A]) 8 [SL B c.1.Routes x, SL C c.1.Enabled y, SL D c.1.Raised z, SL E c.1.Cpus A] ax rfl fun N P => MW 2 (NB (wR 2 [(4, pB h 0), (7, pB aa 0), (8, iv c.2.1), (28, .bool (!c.2.2))] N (NO (GT hm (fun H hm => ?_) fun H hm => ?_)))))
 ·refine QA (MW 1 (wS true 4 0 (.agg #[SN, SN, SN, SN]) 2 [SN, SN, SN, SN] P rfl fun bl Y => MW 2 (ND ?_)))
  obtain rfl := HS hm
  exact N_ret [.agg #[SN, SN, SN, SN], iv 0, .bool false] (RX true 4 0 (Y.blk 2 rfl) (rC (rC RVs_nil))) (⟨none, 0, [], none, 0, [], none, 0, [], none, 0, [], [], rfl, ownS_nil, ownS_nil, ownS_nil, ownD_nil, Y.pk [100000, 100001, 100002, 100003, 100004]⟩)
 refine KA (wV (.agg #[SL B c.1.Routes x, SL C c.1.Enabled y, SL D c.1.Raised z, SL E c.1.Cpus A]) N (eL true 4 0 (P.blk 8 rfl)) (MW 1 (wS true 4 0 (.agg #[SL B c.1.Routes x, SL C c.1.Enabled y, SL D c.1.Raised z, SL E c.1.Cpus A]) 2 [SL B c.1.Routes x, SL C c.1.Enabled y, SL D c.1.Raised z, SL E c.1.Cpus A] P rfl fun bm Z => MW 2 (NC ?_))))
 obtain rfl := HS hm
 exact N_ret [.agg #[SL B c.1.Routes x, SL C c.1.Enabled y, SL D c.1.Raised z, SL E c.1.Cpus A], iv c.2.1, .bool true] (RX true 4 0 (Z.blk 2 rfl) (rC (rC RVs_nil))) (⟨B, x, bd, C, y, be, D, z, bf, E, A, bg, bh, rfl, (a3 (by simpa using H)), (a4 (by simpa using H)), (a5 (by simpa using H)), (a6 (by simpa using H)), Z.pk [3, 4, 5, 6, 7]⟩)
theorem c_i_isMachStep (w : World) (c : Machine) (n j) (T : rdS encRoute w c.Routes n j) (o k) (U : rdS Gx.encB w c.Enabled o k) (q l) (V : rdS Gx.encB w c.Raised q l) (t m) (W : rdD deepInterface w c.Cpus t m) (b : MachStep) {r : Bool} (hm : M.i_isMachStep c b = some r) :
  Calls Tryz.prog 86 #[.agg #[SL n c.Routes j, SL o c.Enabled k, SL q c.Raised l, SL t c.Cpus m], .agg #[iv b.Kind, iv b.Irq, iv b.Cpu, iv b.Value]] w fun e w' => e = .returned (.bool r) ∧ Mem [] w w' [] := by
 unfold M.i_isMachStep at hm
 refine cE Tryz.func86 ?_
 have M0 := Mem.refl [] w
 refine QA (wN (CE 32 [SL n c.Routes j, SL o c.Enabled k, SL q c.Raised l, SL t c.Cpus m]) M0 fun i br ah => wN (CE 51 [iv b.Kind, iv b.Irq, iv b.Cpu, iv b.Value]) ah fun d h x => MW 1 (NB (MW 1 (wV (iv b.Kind) h (eL false 1 0 (x.blk 1 rfl)) (NO (GB (QA (MW 2 (NO (GT hm (fun E hm => ?_) fun E hm => ?_))))))))))
 ·refine GS (GD hm fun X a0 av => G_meet (fun a w' => Mem [] w w' [] ∧ Sat Tryz.f86.ntmps [(4, .bool X)] a) ?_ ?_)
  ·have hm := a0
   refine GR (MW 1 (wV (iv b.Irq) h (eL false 1 1 (x.blk 1 rfl)) (GD hm fun be a7 hm => WD (c_i_isIrq h b.Irq a7) x fun u y => wR 1 [(3, pB d 0), (12, .bool be)] u ?_)))
   rcases gx_bif hm with ⟨F, hm⟩ | ⟨F, hm⟩
   ·refine wK 12 true F (MW 1 (wV (iv b.Cpu) u (eL false 1 2 (y.blk 1 rfl)) (wR 3 [(3, pB d 0), (17, .bool (b.Cpu == 0))] u ?_)))
    rcases gx_bif hm with ⟨G, hm⟩ | ⟨G, hm⟩
    ·refine wK 17 true G (MW 1 (wV (iv b.Value) u (eL false 1 3 (y.blk 1 rfl)) (MW 3 (WN ?_))))
     obtain rfl := HS hm
     exact NM fun a ha => ⟨y.pk [], ha.s⟩
    refine wK 17 false G (MW 5 (WN ?_))
    obtain rfl := HS hm
    exact NM fun a ha => ⟨y.pk [], ha.s⟩
   refine wK 12 false F (wR 10 [(4, .bool false)] u (WN ?_))
   obtain rfl := HS hm
   exact NM fun a ha => ⟨y.pk [], ha.s⟩
  intro bm bs ⟨ai, ao⟩
  refine N_use ao ?_
  have hm := av
  refine TN (G_ret (BR (TR ?_)))
  obtain rfl := HS hm
  exact RA [.bool X] (⟨rfl, ai.pk []⟩)
 refine QA (MW 2 (NO (GT hm (fun H hm => ?_) fun H hm => ?_)))
 ·refine QA (wV (.agg #[iv b.Kind, iv b.Irq, iv b.Cpu, iv b.Value]) h (eL true 4 0 (x.blk 1 rfl)) (MW 1 (wV (.bool ((b.Kind == 2) && ((b.Irq == 0) && ((b.Cpu == 0) && ((b.Value == 0) && true))))) h (E_eqAgg _ _ _ _ [iv b.Kind, iv b.Irq, iv b.Cpu, iv b.Value] [iv 2, iv 0, iv 0, iv 0] ((b.Kind == 2) && ((b.Irq == 0) && ((b.Cpu == 0) && ((b.Value == 0) && true)))) rfl (by kernel_rfl) (by kernel_rfl) (by kernel_rfl) (by kernel_rfl) (by kernel_rfl) (by kernel_rfl)) (MW 1 (NC (BR (TR ?_)))))))
  cases hm
  exact RA [.bool ((b.Kind == 2) && ((b.Irq == 0) && ((b.Cpu == 0) && ((b.Value == 0) && true))))] (⟨rfl, x.pk []⟩)
 refine QB (MW 2 (NO (GD hm fun bd a3 aw => G_meet (fun a w' => Mem [] w w' [(BK i 32 [SL n c.Routes j, SL o c.Enabled k, SL q c.Raised l, SL t c.Cpus m]), (BK d 51 [iv b.Kind, iv b.Irq, iv b.Cpu, iv b.Value])] ∧ Sat Tryz.f86.ntmps [(2, pB i 0), (3, pB d 0), (6, iv b.Kind), (27, .bool bd)] a) ?_ ?_)))
 ·have hm := a3
  refine GT hm (fun I hm => ?_) fun I hm => ?_
  ·refine GK ?_
   obtain rfl := HS hm
   exact NM fun a ha => ⟨x.pk [0, 1], ha.s⟩
  refine GR (MW 2 (WN ?_))
  obtain rfl := HS hm
  exact NM fun a ha => ⟨x.pk [0, 1], ha.s⟩
 intro bn f ⟨g, ap⟩
 refine N_use ap ?_
 have hm := aw
 refine TN (GT hm (fun J hm => ?_) fun J hm => ?_)
 ·refine GS (GD hm fun Y a4 ax => G_meet (fun a w' => Mem [] w w' [] ∧ Sat Tryz.f86.ntmps [(4, .bool Y)] a) ?_ ?_)
  ·have hm := a4
   refine GR (MW 1 (wV (iv b.Irq) f (eL false 1 1 (g.blk 1 rfl)) (wR 2 [(2, pB i 0), (3, pB d 0), (33, .bool (b.Irq == 0))] f ?_)))
   rcases gx_bif hm with ⟨K, hm⟩ | ⟨K, hm⟩
   ·refine wK 33 true K (wV (.agg #[SL n c.Routes j, SL o c.Enabled k, SL q c.Raised l, SL t c.Cpus m]) f (eL true 4 0 (g.blk 0 rfl)) (MW 1 (wV (iv b.Cpu) f (eL false 1 2 (g.blk 1 rfl)) (GD hm fun bf a8 hm => WD (c_i_Machine_hasCpu f c n j (T.mem0 g) o k (U.mem0 g) q l (V.mem0 g) t m (W.mem0 g) b.Cpu a8) g fun A C => wR 2 [(3, pB d 0), (39, .bool bf)] A ?_))))
    rcases gx_bif hm with ⟨L, hm⟩ | ⟨L, hm⟩
    ·refine wK 39 true L (MW 1 (wV (iv b.Value) A (eL false 1 3 (C.blk 1 rfl)) (MW 3 (WN ?_))))
     obtain rfl := HS hm
     exact NM fun a ha => ⟨C.pk [], ha.s⟩
    refine wK 39 false L (MW 5 (WN ?_))
    obtain rfl := HS hm
    exact NM fun a ha => ⟨C.pk [], ha.s⟩
   refine wK 33 false K (wR 11 [(4, .bool false)] f (WN ?_))
   obtain rfl := HS hm
   exact NM fun a ha => ⟨g.pk [], ha.s⟩
  intro bo bt ⟨aj, aq⟩
  refine N_use aq ?_
  have hm := ax
  refine TN (G_ret (BR (TR ?_)))
  obtain rfl := HS hm
  exact RA [.bool Y] (⟨rfl, aj.pk []⟩)
 refine QA (MW 2 (NO (GT hm (fun N hm => ?_) fun N hm => ?_)))
 ·refine GS (GD hm fun Z a5 ay => G_meet (fun a w' => Mem [] w w' [] ∧ Sat Tryz.f86.ntmps [(4, .bool Z)] a) ?_ ?_)
  ·have hm := a5
   refine GR (MW 1 (wV (iv b.Irq) f (eL false 1 1 (g.blk 1 rfl)) (wR 2 [(2, pB i 0), (3, pB d 0), (49, .bool (b.Irq == 0))] f ?_)))
   rcases gx_bif hm with ⟨O, hm⟩ | ⟨O, hm⟩
   ·refine wK 49 true O (wV (.agg #[SL n c.Routes j, SL o c.Enabled k, SL q c.Raised l, SL t c.Cpus m]) f (eL true 4 0 (g.blk 0 rfl)) (MW 1 (wV (iv b.Cpu) f (eL false 1 2 (g.blk 1 rfl)) (GD hm fun bg a9 hm => WD (c_i_Machine_hasCpu f c n j (T.mem0 g) o k (U.mem0 g) q l (V.mem0 g) t m (W.mem0 g) b.Cpu a9) g fun B D => wR 2 [(3, pB d 0), (55, .bool bg)] B ?_))))
    rcases gx_bif hm with ⟨P, hm⟩ | ⟨P, hm⟩
    ·refine wK 55 true P (MW 1 (wV (iv b.Value) B (eL false 1 3 (D.blk 1 rfl)) (GD hm fun bh ba hm => WD (c_i_isMask B b.Value ba) D fun bk ak => MW 2 (WN ?_))))
     obtain rfl := HS hm
     exact NM fun a ha => ⟨ak.pk [], ha.s⟩
    refine wK 55 false P (MW 5 (WN ?_))
    obtain rfl := HS hm
    exact NM fun a ha => ⟨D.pk [], ha.s⟩
   refine wK 49 false O (wR 11 [(4, .bool false)] f (WN ?_))
   obtain rfl := HS hm
   exact NM fun a ha => ⟨g.pk [], ha.s⟩
  intro bp bu ⟨al, ar⟩
  refine N_use ar ?_
  have hm := ay
  refine TN (G_ret (BR (TR ?_)))
  obtain rfl := HS hm
  exact RA [.bool Z] (⟨rfl, al.pk []⟩)
 refine QA (MW 2 (NO (GT hm (fun Q hm => ?_) fun Q hm => ?_)))
 ·refine GS (GD hm fun aa a6 az => G_meet (fun a w' => Mem [] w w' [] ∧ Sat Tryz.f86.ntmps [(4, .bool aa)] a) ?_ ?_)
  ·have hm := a6
   refine GR (MW 1 (wV (iv b.Irq) f (eL false 1 1 (g.blk 1 rfl)) (GD hm fun bi bb hm => WD (c_i_isIrq f b.Irq bb) g fun v z => wR 1 [(3, pB d 0), (65, .bool bi)] v ?_)))
   rcases gx_bif hm with ⟨R, hm⟩ | ⟨R, hm⟩
   ·refine wK 65 true R (MW 1 (wV (iv b.Cpu) v (eL false 1 2 (z.blk 1 rfl)) (wR 3 [(3, pB d 0), (70, .bool (b.Cpu == 0))] v ?_)))
    rcases gx_bif hm with ⟨S, hm⟩ | ⟨S, hm⟩
    ·refine wK 70 true S (MW 1 (wV (iv b.Value) v (eL false 1 3 (z.blk 1 rfl)) (GD hm fun bj bc hm => WD (c_i_inside v b.Value 0 1 bc) z fun bl am => MW 2 (WN ?_))))
     obtain rfl := HS hm
     exact NM fun a ha => ⟨am.pk [], ha.s⟩
    refine wK 70 false S (MW 5 (WN ?_))
    obtain rfl := HS hm
    exact NM fun a ha => ⟨z.pk [], ha.s⟩
   refine wK 65 false R (wR 10 [(4, .bool false)] v (WN ?_))
   obtain rfl := HS hm
   exact NM fun a ha => ⟨z.pk [], ha.s⟩
  intro bq bv ⟨an, au⟩
  refine N_use au ?_
  have hm := az
  refine TN (G_ret (BR (TR ?_)))
  obtain rfl := HS hm
  exact RA [.bool aa] (⟨rfl, an.pk []⟩)
 refine GK (BN (NF (MW 1 (NC ?_))))
 obtain rfl := HS hm
 exact RA [.bool false] (⟨rfl, g.pk []⟩)
end Go.Proofs.YtllhajkgkghhdaaGreat
set_option linter.unusedVariables false
set_option linter.unusedSimpArgs false
set_option maxRecDepth 100000
set_option maxHeartbeats 4000000
namespace Go.Proofs.YtllhajkgkghhdaaGreat
open Go.Gx
theorem c_i_stepMachine (w : World) (l : Machine) (U S) (hd : rdS encRoute w l.Routes U S) (V T) (he : rdS Gx.encB w l.Enabled V T) (L O) (c5 : rdS Gx.encB w l.Raised L O) (z F) (c6 : rdD deepInterface w l.Cpus z F) (c : MachStep) {r : Machine × Int × Bool} (hm : M.i_stepMachine l c = some r) :
  Calls Tryz.prog 87 #[.agg #[SL U l.Routes S, SL V l.Enabled T, SL L l.Raised O, SL z l.Cpus F], .agg #[iv c.Kind, iv c.Irq, iv c.Cpu, iv c.Value]] w fun e w' => ∃ e0 ei e4 e1 ej e5 e2 ek e6 e3 el e7 e8, e = .returned (.tuple #[.agg #[SL e0 r.1.Routes ei, SL e1 r.1.Enabled ej, SL e2 r.1.Raised ek, SL e3 r.1.Cpus el], iv r.2.1, .bool r.2.2]) ∧ ownS encRoute r.1.Routes e0 ei e4 ∧ ownS Gx.encB r.1.Enabled e1 ej e5 ∧ ownS Gx.encB r.1.Raised e2 ek e6 ∧ ownD deepInterface r.1.Cpus e3 el e7 e8 ∧ Mem [] w w' [e4, e5, e6, e7, e8] := by
 unfold M.i_stepMachine at hm
 refine cE Tryz.func87 ?_
 have M0 := Mem.refl [] w
 refine QA (wN (CE 32 [SL U l.Routes S, SL V l.Enabled T, SL L l.Raised O, SL z l.Cpus F]) M0 fun C k3 fj => wN (CE 51 [iv c.Kind, iv c.Irq, iv c.Cpu, iv c.Value]) fj fun u k4 fk => wN (CE 32 [SN, SN, SN, SN]) fk fun x dx bo => MW 2 (NA (wV (.agg #[SL U l.Routes S, SL V l.Enabled T, SL L l.Raised O, SL z l.Cpus F]) dx (eL true 4 0 (bo.blk 0 rfl)) (GD hm fun d i0 hm => WC ((c_i_newMachine dx l U S (hd.mem0 bo) V T (he.mem0 bo) L O (c5.mem0 bo) z F (c6.mem0 bo) i0).mono ?_)))))
 rintro e_ k5 ⟨N, I, P, A, B, Q, E, G, W, t, y, ab, X, rfl, dh, bc, bu, bh, ff⟩
 have fl := bo.call ff
 refine ⟨_, rfl, ?_⟩
 refine wN (CE 32 [SN, SN, SN, SN]) fl fun q k6 fm => wS true 4 0 (.agg #[SL N d.Routes I, SL A d.Enabled B, SL E d.Raised G, SL t d.Cpus y]) 8 [SL N d.Routes I, SL A d.Enabled B, SL E d.Raised G, SL t d.Cpus y] fm rfl fun H aa => MW 2 (NB (MW 1 (wV (iv c.Kind) H (eL false 1 0 (aa.blk 1 rfl)) (NO (GB (QA (MW 2 (NO (GD hm fun D hv hp => G_meet (fun a w' => ∃ a8 a3 cf a9 a4 cg ba a5 ch bb a6 ci cj e9 fa fb fc, ownS encRoute D.2.2.1 a8 a3 cf ∧ ownS Gx.encB D.2.2.2.1 a9 a4 cg ∧ ownS Gx.encB D.2.2.2.2.1 ba a5 ch ∧ ownD deepInterface D.2.2.2.2.2.1 bb a6 ci cj ∧ ownS Gx.encB D.2.2.2.2.2.2.1 A B e9 ∧ ownS Gx.encB D.2.2.2.2.2.2.2.1 E G fa ∧ ownD deepInterface D.2.2.2.2.2.2.2.2 t y fb fc ∧ Mem [] w w' [(BK x 32 [SN, SN, SN, SN]), (BK q 32 [SL a8 D.2.2.1 a3, SL a9 D.2.2.2.1 a4, SL ba D.2.2.2.2.1 a5, SL bb D.2.2.2.2.2.1 a6]), cf, cg, ch, ci, cj] ∧ Sat Tryz.f87.ntmps [(4, pB x 0), (7, pB q 0), (8, iv D.1), (9, .bool D.2.1)] a) ?_ ?_)))))))))
 ·have hm := hv
  refine GT hm (fun c7 hm => ?_) fun c7 hm => ?_
  ·refine QA (MW 1 (wV (SL L l.Raised O) H (eL false 1 2 (aa.blk 0 rfl)) (MW 1 (wV (iv c.Irq) H (eL false 1 1 (aa.blk 1 rfl)) (GD hm fun c1 eu hm => wV (elemP L (c.Irq.toNat * 1)) H (eI (c5.mem0 aa) rfl eu) (wV (.bool c1) H (eE false 1 0 (c.Irq.toNat * 1) (c5.mem0 aa) eu) (MW 2 (NO (GR (MW 1 (wV (SL E d.Raised G) H (eL false 1 2 (aa.blk 8 rfl)) (MW 1 (wV (iv c.Irq) H (eL false 1 1 (aa.blk 1 rfl)) (GD hm fun km ev hm => wV (elemP E (c.Irq.toNat * 1)) H (eI (bu.r aa 5) rfl ev) (wE false 1 c.Irq.toNat 0 (c.Irq.toNat * 1) km true (.bool true) 5 aa bu (gxIdx_spec ev).2 fun jm ds em fn => LX 24 E G d.Raised c.Irq.toNat true ?_)))))))))))))))
   have fo : Mem [] w jm [(BK C 32 [.slice U l.Routes.length S, .slice V l.Enabled.length T, .slice L l.Raised.length O, .slice z l.Cpus.length F]), (BK u 51 [iv c.Kind, iv c.Irq, iv c.Cpu, iv c.Value]), (BK x 32 [.slice none 0 0, .slice none 0 0, .slice none 0 0, .slice none 0 0]), P, Q, ds, ab, X, (BK q 32 [.slice N d.Routes.length I, .slice A d.Enabled.length B, .slice E (d.Raised.set c.Irq.toNat true).length G, .slice t d.Cpus.length y])] := by rw [@List.length_set _ d.Raised c.Irq.toNat true]; exact fn
   refine WN ?_
   obtain rfl := HS hm
   exact NM fun a ha => ⟨N, I, P, A, B, Q, E, G, ds, t, y, ab, X, Q, ds, ab, X, dh, bc, em, bh, bc, em, bh, fo.pk [2, 8, 3, 4, 5, 6, 7], ha.s⟩
  refine QA (MW 2 (NO (GD hm fun a7 h0 hq => G_meet (fun a w' => ∃ cb b5 ck cc b6 cl cd b7 cm ce b8 cn co dt du dv, ownS encRoute a7.2.2.1 cb b5 ck ∧ ownS Gx.encB a7.2.2.2.1 cc b6 cl ∧ ownS Gx.encB a7.2.2.2.2.1 cd b7 cm ∧ ownD deepInterface a7.2.2.2.2.2.1 ce b8 cn co ∧ ownS Gx.encB a7.2.2.2.2.2.2.1 A B dt ∧ ownD deepInterface a7.2.2.2.2.2.2.2 t y du dv ∧ Mem [] w w' [(BK x 32 [SN, SN, SN, SN]), (BK q 32 [SL cb a7.2.2.1 b5, SL cc a7.2.2.2.1 b6, SL cd a7.2.2.2.2.1 b7, SL ce a7.2.2.2.2.2.1 b8]), ck, cl, cm, cn, co] ∧ Sat Tryz.f87.ntmps [(4, pB x 0), (7, pB q 0), (8, iv a7.1), (9, .bool a7.2.1)] a) ?_ ?_)))
  ·have hm := h0
   refine GT hm (fun c8 hm => ?_) fun c8 hm => ?_
   ·refine GR (GD hm fun k2 i1 hm => WC ((c_i_Machine_sync H d N I P dh A B Q bc E G W bu t y ab X bh q (aa.hasPick [8, 3, 4, 5, 6, 7]) (aa.nodupPick [8, 3, 4, 5, 6, 7] (by kernel_rfl)) i1).mono ?_))
    rintro e_ k7 ⟨jb, g6, jh, jc, g7, ji, jd, g8, jj, je, g9, jk, jl, rfl, h7, h8, h9, ia, fg⟩
    have fp := aa.callF' [8, 3, 4, 5, 6, 7] [0, 1, 2] (by kernel_rfl) fg
    refine ⟨_, rfl, ?_⟩
    refine WN ?_
    obtain rfl := HS hm
    exact NM fun a ha => ⟨jb, g6, jh, jc, g7, ji, jd, g8, jj, je, g9, jk, jl, Q, ab, X, h7, h8, h9, ia, bc, bh, fp.pk [2, 3, 4, 5, 6, 7, 8], ha.s⟩
   refine QA (wR 2 [(2, pB C 0), (3, pB u 0), (4, pB x 0), (7, pB q 0), (8, iv (-1)), (9, .bool true), (13, iv c.Kind), (31, .bool (c.Kind == 3))] H (NO (GD hm fun bp ib hr => G_meet (fun a w' => ∃ bv bw bx, ownS Gx.encB bp.2.2.1 A B bv ∧ ownD deepInterface bp.2.2.2 t y bw bx ∧ Mem [] w w' [(BK x 32 [SN, SN, SN, SN]), P, W, (BK q 32 [SL N d.Routes I, SL A bp.2.2.1 B, SL E d.Raised G, SL t bp.2.2.2 y]), bv, bw, bx] ∧ Sat Tryz.f87.ntmps [(4, pB x 0), (7, pB q 0), (8, iv bp.1), (9, .bool bp.2.1)] a) ?_ ?_)))
   ·have hm := ib
    rcases gx_bif hm with ⟨c9, hm⟩ | ⟨c9, hm⟩
    ·refine gT c9 ?_
     have fq : Mem [] w H [(BK C 32 [SL U l.Routes S, SL V l.Enabled T, SL L l.Raised O, SL z l.Cpus F]), (BK u 51 [iv c.Kind, iv c.Irq, iv c.Cpu, iv c.Value]), (BK x 32 [SN, SN, SN, SN]), P, Q, W, (BK q 32 [SL N d.Routes I, SL A d.Enabled B, SL E d.Raised G, SL t d.Cpus y]), ab, X] := aa.pk [0, 1, 2, 3, 4, 5, 8, 6, 7]
     have fs : Mem [] w H [(BK C 32 [SL U l.Routes S, SL V l.Enabled T, SL L l.Raised O, SL z l.Cpus F]), (BK u 51 [iv c.Kind, iv c.Irq, iv c.Cpu, iv c.Value]), (BK x 32 [SN, SN, SN, SN]), P, Q, W, (BK q 32 [SL N d.Routes I, SL A d.Enabled B, SL E d.Raised G, SL t d.Cpus y]), (ab ++ X)] := fq.regroup (by simp)
     refine GD hm fun Y i6 hm => ?_
     obtain ⟨lf, ex, ep, df⟩ := id c6
     obtain ⟨J, br⟩ := gxIdx_fst ex i6
     refine GD hm fun m i2 hm => GD hm fun kn i7 hm => ?_
     obtain ⟨lg, dq, er, hl⟩ := id bh
     obtain ⟨hb, dd⟩ := gxIdx_fst dq i7
     have ft : Mem [] w H ([(BK C 32 [SL U l.Routes S, SL V l.Enabled T, SL L l.Raised O, SL z l.Cpus F]), (BK u 51 [iv c.Kind, iv c.Irq, iv c.Cpu, iv c.Value]), (BK x 32 [SN, SN, SN, SN]), P, Q, W, (BK q 32 [SL N d.Routes I, SL A d.Enabled B, SL E d.Raised G, SL t d.Cpus y])] ++ (List.range 18).map (fun i => ([[], [], [], [], [], [], [], [], [], [], [], [], [], [], [], [], (ab ++ X), []] : List Seg).getD i [])) := fs.pk [0, 1, 2, 3, 4, 5, 6, 300000, 300001, 300002, 300003, 300004, 300005, 300006, 300007, 300008, 300009, 300010, 300011, 300012, 300013, 300014, 300015, 7, 300017]
     refine GU [(2, pB C 0), (3, pB u 0), (4, pB x 0), (7, pB q 0), (9, .bool true), (13, iv c.Kind), (31, .bool (c.Kind == 3))] (DL 18 [[],[0],[],[2],[],[4],[],[6],[5,7],[8],[9],[],[11],[11],[11],[1,3],[10,12,15],[13]] [[],[],[],[],[],[],[],[],[],[],[],[],[],[],[],[],[10],[]] (EM 18) [[],[],[],[],[],[],[],[],[],[],[],[10],[10],[10],[10],[],[],[]] [[],[],[],[],[],[],[],[],[],[],[],[10],[10],[],[],[],[],[]] [[],[],[],[],[],[],[],[],[],[],[],[],[],[],[],[16],[],[]] (fun i => ([[], [], [], [], [], [], [], [], [], [], [], [], [], [], [], [], (ab ++ X), []] : List Seg).getD i []) [QV (pB q 3), QV (.slice t d.Cpus.length y), QV (pB u 2), QV (iv c.Cpu), QV (pB C 3), QV (.slice z l.Cpus.length F), QV (pB u 2), QV (iv c.Cpu), QV (elemP z (c.Cpu.toNat * 4)), QV (.agg #[iv Y.Mask, SL ((J 0).1) Y.Stack ((J 0).2), SL ((J 1).1) Y.Queue.Slots ((J 1).2), SL ((J 2).1) Y.Queue.Waiting ((J 2).2)]), fun f v s => ∃ ai ac av aj ad aw ak ae ax, v = (.tuple #[.agg #[iv m.1.Mask, SL ai m.1.Stack ac, SL aj m.1.Queue.Slots ad, SL ak m.1.Queue.Waiting ae], iv m.2.1, .bool m.2.2] : Value) ∧ s = (av ++ (aw ++ ax)) ∧ ownS Gx.encI m.1.Stack ai ac av ∧ ownS encSlot m.1.Queue.Slots aj ad aw ∧ ownS encWaiter m.1.Queue.Waiting ak ae ax, fun f v s => v = (.tuple #[.agg #[iv m.1.Mask, (atPath (f 10) [0, 1]), (atPath (f 10) [0, 2]), (atPath (f 10) [0, 3])], iv m.2.1, .bool m.2.2] : Value) ∧ s = [], fun f v s => v = (.agg #[iv m.1.Mask, (atPath (f 10) [0, 1]), (atPath (f 10) [0, 2]), (atPath (f 10) [0, 3])] : Value) ∧ s = [], QV (iv m.2.1), QV (.bool m.2.2), QV (elemP t (c.Cpu.toNat * 4)), fun f v s => v = undef ∧ ∃ bd be, s = bd ++ be ∧ ownD deepInterface (d.Cpus.set c.Cpu.toNat m.1) t y bd be, QV (iv m.2.1)] [] [14, 16, 17] [16] ft (AC ?_ (AC ?_ (AC ?_ (AC ?_ (AC ?_ (AC ?_ (AC ?_ (AC ?_ (AC ?_ (AC ?_ (AC ?_ (AC ?_ (AC ?_ (AC ?_ (AC ?_ (AC ?_ (AC ?_ (AC ?_ AN)))))))))))))))))) ?_)
     ·intro ap ar R jn fu
      exact OM ⟨rfl, rfl⟩ fu
     ·rintro ap ar v0_ ⟨rfl, _⟩ R jo d2
      exact OV ⟨rfl, rfl⟩ (eL false 1 3 (d2.blk 6 rfl)) d2
     ·intro ap ar R jp fv
      exact OM ⟨rfl, rfl⟩ fv
     ·rintro ap ar v2_ ⟨rfl, _⟩ R jq d3
      exact OV ⟨rfl, rfl⟩ (eL false 1 2 (d3.blk 1 rfl)) d3
     ·intro ap ar R jr fw
      exact OM ⟨rfl, rfl⟩ fw
     ·rintro ap ar v4_ ⟨rfl, _⟩ R js d4
      exact OV ⟨rfl, rfl⟩ (eL false 1 3 (d4.blk 0 rfl)) d4
     ·intro ap ar R jt fx
      exact OM ⟨rfl, rfl⟩ fx
     ·rintro ap ar v6_ ⟨rfl, _⟩ R ju d5
      exact OV ⟨rfl, rfl⟩ (eL false 1 2 (d5.blk 1 rfl)) d5
     ·rintro ap ar v5_ ⟨rfl, _⟩
      rintro v7_ ⟨rfl, _⟩ R jv d6
      exact OV ⟨rfl, rfl⟩ (eI (ep.mem0 d6) (len_fst ex) br) d6
     ·rintro ap ar v8_ ⟨rfl, _⟩ R jw d7
      exact OV ⟨rfl, rfl⟩ (eE true 4 0 (c.Cpu.toNat * 4) (ep.mem0 d7) br) d7
     ·rintro ap ar v9_ ⟨rfl, _⟩ R jx bz
      refine WC ((c_i_takeIrq jx Y ((J 0).1) ((J 0).2) ((df.mem0 bz).a_ br 0) ((J 1).1) ((J 1).2) ((df.mem0 bz).a_ br 1) ((J 2).1) ((J 2).2) ((df.mem0 bz).a_ br 2) i2).mono ?_)
      rintro e_ k8 ⟨ai, ac, av, aj, ad, aw, ak, ae, ax, rfl, di, dj, dk, fh⟩
      refine ⟨_, rfl, ?_⟩
      exact WN (oE (.tuple #[.agg #[iv m.1.Mask, SL ai m.1.Stack ac, SL aj m.1.Queue.Slots ad, SL ak m.1.Queue.Waiting ae], iv m.2.1, .bool m.2.2]) (av ++ (aw ++ ax)) ⟨ai, ac, av, aj, ad, aw, ak, ae, ax, rfl, rfl, di, dj, dk⟩ (Mem.callMid bz (fh.permF (by simp))))
     ·intro ap ar v10_ hb10_
      obtain ⟨_, ai, ac, _, aj, ad, _, ak, ae, _, rfl, _⟩ := hb10_
      intro R jy fy
      exact OM ⟨rfl, rfl⟩ fy
     ·intro ap ar v10_ hb10_
      obtain ⟨_, ai, ac, _, aj, ad, _, ak, ae, _, rfl, _⟩ := hb10_
      intro v11_ hb11_
      obtain ⟨hv11_, _⟩ := hb11_
      obtain rfl : v11_ = (.tuple #[.agg #[iv m.1.Mask, SL ai m.1.Stack ac, SL aj m.1.Queue.Slots ad, SL ak m.1.Queue.Waiting ae], iv m.2.1, .bool m.2.2] : Value) := hv11_.trans (by kernel_rfl)
      intro R jz fz
      exact OM ⟨rfl, rfl⟩ fz
     ·intro ap ar v10_ hb10_
      obtain ⟨_, ai, ac, _, aj, ad, _, ak, ae, _, rfl, _⟩ := hb10_
      intro v11_ hb11_
      obtain ⟨hv11_, _⟩ := hb11_
      obtain rfl : v11_ = (.tuple #[.agg #[iv m.1.Mask, SL ai m.1.Stack ac, SL aj m.1.Queue.Slots ad, SL ak m.1.Queue.Waiting ae], iv m.2.1, .bool m.2.2] : Value) := hv11_.trans (by kernel_rfl)
      intro R j0 f0
      exact OM ⟨rfl, rfl⟩ f0
     ·intro ap ar v10_ hb10_
      obtain ⟨_, ai, ac, _, aj, ad, _, ak, ae, _, rfl, _⟩ := hb10_
      intro v11_ hb11_
      obtain ⟨hv11_, _⟩ := hb11_
      obtain rfl : v11_ = (.tuple #[.agg #[iv m.1.Mask, SL ai m.1.Stack ac, SL aj m.1.Queue.Slots ad, SL ak m.1.Queue.Waiting ae], iv m.2.1, .bool m.2.2] : Value) := hv11_.trans (by kernel_rfl)
      intro R j1 f1
      exact OM ⟨rfl, rfl⟩ f1
     ·rintro ap ar v1_ ⟨rfl, _⟩
      rintro v3_ ⟨rfl, _⟩ R dy d8
      have c2 : Mem [] w dy ([(BK C 32 [SL U l.Routes S, SL V l.Enabled T, SL L l.Raised O, SL z l.Cpus F]), (BK u 51 [iv c.Kind, iv c.Irq, iv c.Cpu, iv c.Value]), (BK x 32 [SN, SN, SN, SN]), P, Q, W, (BK q 32 [SL N d.Routes I, SL A d.Enabled B, SL E d.Raised G, SL t d.Cpus y])] ++ ([[]] ++ ([] ++ ([(ab ++ X)] ++ R)))) := d8
      replace c2 : Mem [] w dy ([(BK C 32 [SL U l.Routes S, SL V l.Enabled T, SL L l.Raised O, SL z l.Cpus F]), (BK u 51 [iv c.Kind, iv c.Irq, iv c.Cpu, iv c.Value]), (BK x 32 [SN, SN, SN, SN]), P, Q, W, (BK q 32 [SL N d.Routes I, SL A d.Enabled B, SL E d.Raised G, SL t d.Cpus y])] ++ ([[]] ++ ([] ++ ([ab, X] ++ R)))) := c2.permF (by simp)
      exact OV ⟨rfl, rfl⟩ (eI (er.r c2 8) (len_fst dq) dd) d8
     ·intro ap ar v10_ hb10_
      obtain ⟨ai, ac, av, aj, ad, aw, ak, ae, ax, rfl, hs10_, di, dj, dk⟩ := hb10_
      intro v12_ hb12_
      obtain ⟨hv12_, _⟩ := hb12_
      obtain rfl : v12_ = (.agg #[iv m.1.Mask, SL ai m.1.Stack ac, SL aj m.1.Queue.Slots ad, SL ak m.1.Queue.Waiting ae] : Value) := hv12_.trans (by kernel_rfl)
      rintro v15_ ⟨rfl, _⟩ R dz f2
      have b0 : Mem [] w dz ([(BK C 32 [SL U l.Routes S, SL V l.Enabled T, SL L l.Raised O, SL z l.Cpus F]), (BK u 51 [iv c.Kind, iv c.Irq, iv c.Cpu, iv c.Value]), (BK x 32 [SN, SN, SN, SN]), P, Q, W, (BK q 32 [SL N d.Routes I, SL A d.Enabled B, SL E d.Raised G, SL t d.Cpus y])] ++ ([(ab ++ X)] ++ ([(ap 10)] ++ ([] ++ R)))) := f2
      rw [hs10_] at b0
      replace b0 : Mem [] w dz ([(BK C 32 [SL U l.Routes S, SL V l.Enabled T, SL L l.Raised O, SL z l.Cpus F]), (BK u 51 [iv c.Kind, iv c.Irq, iv c.Cpu, iv c.Value]), (BK x 32 [SN, SN, SN, SN]), P, Q, W, (BK q 32 [SL N d.Routes I, SL A d.Enabled B, SL E d.Raised G, SL t d.Cpus y])] ++ ([(ab ++ X)] ++ ([av, aw, ax] ++ ([] ++ R)))) := b0.permF (by simp)
      have f3 : Mem [] w dz [(BK C 32 [SL U l.Routes S, SL V l.Enabled T, SL L l.Raised O, SL z l.Cpus F]), (BK u 51 [iv c.Kind, iv c.Irq, iv c.Cpu, iv c.Value]), (BK x 32 [SN, SN, SN, SN]), P, Q, W, (BK q 32 [SL N d.Routes I, SL A d.Enabled B, SL E d.Raised G, SL t d.Cpus y]), ab, X, av, aw, ax, R.flatten] := b0.permF (by simp)
      obtain ⟨bi, jf, bk, i4, kw, iy⟩ := hl.lens (gxIdx_spec dd).2
      have f4 := f3.cut 8 (sa := bi) (sb := jf) (sc := bk) i4 (by kernel_rfl)
      refine wE true 4 c.Cpu.toNat 0 (c.Cpu.toNat * 4) (kn, hb) (m.1, (plOf [(ai, ac), (aj, ad), (ak, ae)])) (.agg #[iv m.1.Mask, SL ai m.1.Stack ac, SL aj m.1.Queue.Slots ad, SL ak m.1.Queue.Waiting ae]) 7 f4 er (gxIdx_spec dd).2 ?_
      intro cx bm ie f5
      have f6 : Mem [] w cx [(BK C 32 [SL U l.Routes S, SL V l.Enabled T, SL L l.Raised O, SL z l.Cpus F]), (BK u 51 [iv c.Kind, iv c.Irq, iv c.Cpu, iv c.Value]), (BK x 32 [SN, SN, SN, SN]), P, Q, W, (BK q 32 [SL N d.Routes I, SL A d.Enabled B, SL E d.Raised G, SL t d.Cpus y]), bm, R.flatten, bi, av, aw, ax, bk] := f5.pk [0, 1, 2, 3, 4, 5, 6, 7, 12, 8, 9, 10, 11, 14]
      have f7 : Mem [] w cx [(BK C 32 [SL U l.Routes S, SL V l.Enabled T, SL L l.Raised O, SL z l.Cpus F]), (BK u 51 [iv c.Kind, iv c.Irq, iv c.Cpu, iv c.Value]), (BK x 32 [SN, SN, SN, SN]), P, Q, W, (BK q 32 [SL N d.Routes I, SL A d.Enabled B, SL E d.Raised G, SL t d.Cpus y]), bm, R.flatten, (bi ++ ((av ++ (aw ++ (ax ++ []))) ++ bk))] := f6.regroup (by simp)
      have ig : ownD deepInterface (d.Cpus.set c.Cpu.toNat m.1) t y bm (bi ++ ((av ++ (aw ++ (ax ++ []))) ++ bk)) := ⟨_, set_fst dq c.Cpu.toNat (m.1, (plOf [(ai, ac), (aj, ad), (ak, ae)])), ie, (iy (m.1, (plOf [(ai, ac), (aj, ad), (ak, ae)])) _ (ownI_cons (i := ⟨Int, Gx.encI, _, _, _⟩) di (ownI_cons (i := ⟨Slot, encSlot, _, _, _⟩) dj (ownI_cons (i := ⟨Waiter, encWaiter, _, _, _⟩) dk ownI_nil))))⟩
      have f8 : Mem [] w cx [(BK C 32 [SL U l.Routes S, SL V l.Enabled T, SL L l.Raised O, SL z l.Cpus F]), (BK u 51 [iv c.Kind, iv c.Irq, iv c.Cpu, iv c.Value]), (BK x 32 [SN, SN, SN, SN]), P, Q, W, (BK q 32 [SL N d.Routes I, SL A d.Enabled B, SL E d.Raised G, SL t d.Cpus y]), bm, (bi ++ ((av ++ (aw ++ (ax ++ []))) ++ bk)), R.flatten] := f7.pk [0, 1, 2, 3, 4, 5, 6, 7, 9, 8]
      exact WN (ob_none (bm ++ (bi ++ ((av ++ (aw ++ (ax ++ []))) ++ bk))) rfl ⟨rfl, bm, (bi ++ ((av ++ (aw ++ (ax ++ []))) ++ bk)), rfl, ig⟩ (show Mem [] w cx ([(BK C 32 [SL U l.Routes S, SL V l.Enabled T, SL L l.Raised O, SL z l.Cpus F]), (BK u 51 [iv c.Kind, iv c.Irq, iv c.Cpu, iv c.Value]), (BK x 32 [SN, SN, SN, SN]), P, Q, W, (BK q 32 [SL N d.Routes I, SL A d.Enabled B, SL E d.Raised G, SL t d.Cpus y])] ++ ([(bm ++ (bi ++ ((av ++ (aw ++ (ax ++ []))) ++ bk)))] ++ ([] ++ ([] ++ R)))) from f8.permF (by simp)))
     ·rintro ap ar v13_ ⟨rfl, _⟩ R j2 f9
      exact OM ⟨rfl, rfl⟩ f9
     rintro ap ar v14_ ⟨rfl, _⟩ v16_ hb16_
     obtain ⟨rfl, bd, be, hs16_, ic⟩ := hb16_
     rintro v17_ ⟨rfl, _⟩ cy ga
     have b1 : Mem [] w cy [(BK C 32 [SL U l.Routes S, SL V l.Enabled T, SL L l.Raised O, SL z l.Cpus F]), (BK u 51 [iv c.Kind, iv c.Irq, iv c.Cpu, iv c.Value]), (BK x 32 [SN, SN, SN, SN]), P, Q, W, (BK q 32 [SL N d.Routes I, SL A d.Enabled B, SL E d.Raised G, SL t d.Cpus y]), bd, be] := ga.permF (by simp [hs16_, SL])
     have gb : Mem [] w cy [(BK C 32 [.slice U l.Routes.length S, .slice V l.Enabled.length T, .slice L l.Raised.length O, .slice z l.Cpus.length F]), (BK u 51 [iv c.Kind, iv c.Irq, iv c.Cpu, iv c.Value]), (BK x 32 [.slice none 0 0, .slice none 0 0, .slice none 0 0, .slice none 0 0]), P, Q, W, (BK q 32 [.slice N d.Routes.length I, .slice A d.Enabled.length B, .slice E d.Raised.length G, .slice t (d.Cpus.set c.Cpu.toNat m.1).length y]), bd, be] := by rw [@List.length_set _ d.Cpus c.Cpu.toNat m.1]; exact b1
     refine MW 1 (WN ?_)
     obtain rfl := HS hm
     exact NM fun a ha => ⟨Q, bd, be, bc, ic, gb.pk [2, 3, 5, 6, 4, 7, 8], ha.s⟩
    refine gF c9 (QA (MW 2 (NO (GD hm fun bq ih hs => G_meet (fun a w' => ∃ cp cq cr, ownS Gx.encB bq.2.2.1 A B cp ∧ ownD deepInterface bq.2.2.2 t y cq cr ∧ Mem [] w w' [(BK x 32 [SN, SN, SN, SN]), P, W, (BK q 32 [SL N d.Routes I, SL A bq.2.2.1 B, SL E d.Raised G, SL t bq.2.2.2 y]), cp, cq, cr] ∧ Sat Tryz.f87.ntmps [(4, pB x 0), (7, pB q 0), (8, iv bq.1), (9, .bool bq.2.1)] a) ?_ ?_))))
    ·have hm := ih
     rcases gx_bif hm with ⟨da, hm⟩ | ⟨da, hm⟩
     ·refine gT da ?_
      have gc : Mem [] w H [(BK C 32 [SL U l.Routes S, SL V l.Enabled T, SL L l.Raised O, SL z l.Cpus F]), (BK u 51 [iv c.Kind, iv c.Irq, iv c.Cpu, iv c.Value]), (BK x 32 [SN, SN, SN, SN]), P, Q, W, (BK q 32 [SL N d.Routes I, SL A d.Enabled B, SL E d.Raised G, SL t d.Cpus y]), ab, X] := aa.pk [0, 1, 2, 3, 4, 5, 8, 6, 7]
      have gd : Mem [] w H [(BK C 32 [SL U l.Routes S, SL V l.Enabled T, SL L l.Raised O, SL z l.Cpus F]), (BK u 51 [iv c.Kind, iv c.Irq, iv c.Cpu, iv c.Value]), (BK x 32 [SN, SN, SN, SN]), P, Q, W, (BK q 32 [SL N d.Routes I, SL A d.Enabled B, SL E d.Raised G, SL t d.Cpus y]), (ab ++ X)] := gc.regroup (by simp)
      refine GD hm fun Z i8 hm => ?_
      obtain ⟨lh, ey, es, dg⟩ := id c6
      obtain ⟨K, bs⟩ := gxIdx_fst ey i8
      refine GD hm fun n i3 hm => GD hm fun ko i9 hm => ?_
      obtain ⟨li, dr, et, hn⟩ := id bh
      obtain ⟨hc, de⟩ := gxIdx_fst dr i9
      have ge : Mem [] w H ([(BK C 32 [SL U l.Routes S, SL V l.Enabled T, SL L l.Raised O, SL z l.Cpus F]), (BK u 51 [iv c.Kind, iv c.Irq, iv c.Cpu, iv c.Value]), (BK x 32 [SN, SN, SN, SN]), P, Q, W, (BK q 32 [SL N d.Routes I, SL A d.Enabled B, SL E d.Raised G, SL t d.Cpus y])] ++ (List.range 18).map (fun i => ([[], [], [], [], [], [], [], [], [], [], [], [], [], [], [], [], (ab ++ X), []] : List Seg).getD i [])) := gd.pk [0, 1, 2, 3, 4, 5, 6, 300000, 300001, 300002, 300003, 300004, 300005, 300006, 300007, 300008, 300009, 300010, 300011, 300012, 300013, 300014, 300015, 7, 300017]
      refine GU [(2, pB C 0), (3, pB u 0), (4, pB x 0), (7, pB q 0), (9, .bool true), (13, iv c.Kind), (49, .bool (c.Kind == 4))] (DL 18 [[],[0],[],[2],[],[4],[],[6],[5,7],[8],[9],[],[11],[11],[11],[1,3],[10,12,15],[13]] [[],[],[],[],[],[],[],[],[],[],[],[],[],[],[],[],[10],[]] (EM 18) [[],[],[],[],[],[],[],[],[],[],[],[10],[10],[10],[10],[],[],[]] [[],[],[],[],[],[],[],[],[],[],[],[10],[10],[],[],[],[],[]] [[],[],[],[],[],[],[],[],[],[],[],[],[],[],[],[16],[],[]] (fun i => ([[], [], [], [], [], [], [], [], [], [], [], [], [], [], [], [], (ab ++ X), []] : List Seg).getD i []) [QV (pB q 3), QV (.slice t d.Cpus.length y), QV (pB u 2), QV (iv c.Cpu), QV (pB C 3), QV (.slice z l.Cpus.length F), QV (pB u 2), QV (iv c.Cpu), QV (elemP z (c.Cpu.toNat * 4)), QV (.agg #[iv Z.Mask, SL ((K 0).1) Z.Stack ((K 0).2), SL ((K 1).1) Z.Queue.Slots ((K 1).2), SL ((K 2).1) Z.Queue.Waiting ((K 2).2)]), fun f v s => ∃ al af ay am ag az an ah a0, v = (.tuple #[.agg #[iv n.1.Mask, SL al n.1.Stack af, SL am n.1.Queue.Slots ag, SL an n.1.Queue.Waiting ah], iv n.2.1, .bool n.2.2] : Value) ∧ s = (ay ++ (az ++ a0)) ∧ ownS Gx.encI n.1.Stack al af ay ∧ ownS encSlot n.1.Queue.Slots am ag az ∧ ownS encWaiter n.1.Queue.Waiting an ah a0, fun f v s => v = (.tuple #[.agg #[iv n.1.Mask, (atPath (f 10) [0, 1]), (atPath (f 10) [0, 2]), (atPath (f 10) [0, 3])], iv n.2.1, .bool n.2.2] : Value) ∧ s = [], fun f v s => v = (.agg #[iv n.1.Mask, (atPath (f 10) [0, 1]), (atPath (f 10) [0, 2]), (atPath (f 10) [0, 3])] : Value) ∧ s = [], QV (iv n.2.1), QV (.bool n.2.2), QV (elemP t (c.Cpu.toNat * 4)), fun f v s => v = undef ∧ ∃ bf bg, s = bf ++ bg ∧ ownD deepInterface (d.Cpus.set c.Cpu.toNat n.1) t y bf bg, QV (iv n.2.1)] [] [14, 16, 17] [16] ge (AC ?_ (AC ?_ (AC ?_ (AC ?_ (AC ?_ (AC ?_ (AC ?_ (AC ?_ (AC ?_ (AC ?_ (AC ?_ (AC ?_ (AC ?_ (AC ?_ (AC ?_ (AC ?_ (AC ?_ (AC ?_ AN)))))))))))))))))) ?_)
      ·intro aq au R j3 gf
       exact OM ⟨rfl, rfl⟩ gf
      ·rintro aq au v0_ ⟨rfl, _⟩ R j4 d9
       exact OV ⟨rfl, rfl⟩ (eL false 1 3 (d9.blk 6 rfl)) d9
      ·intro aq au R j5 gg
       exact OM ⟨rfl, rfl⟩ gg
      ·rintro aq au v2_ ⟨rfl, _⟩ R j6 ea
       exact OV ⟨rfl, rfl⟩ (eL false 1 2 (ea.blk 1 rfl)) ea
      ·intro aq au R j7 gh
       exact OM ⟨rfl, rfl⟩ gh
      ·rintro aq au v4_ ⟨rfl, _⟩ R j8 eb
       exact OV ⟨rfl, rfl⟩ (eL false 1 3 (eb.blk 0 rfl)) eb
      ·intro aq au R j9 gi
       exact OM ⟨rfl, rfl⟩ gi
      ·rintro aq au v6_ ⟨rfl, _⟩ R ka ec
       exact OV ⟨rfl, rfl⟩ (eL false 1 2 (ec.blk 1 rfl)) ec
      ·rintro aq au v5_ ⟨rfl, _⟩
       rintro v7_ ⟨rfl, _⟩ R kb ed
       exact OV ⟨rfl, rfl⟩ (eI (es.mem0 ed) (len_fst ey) bs) ed
      ·rintro aq au v8_ ⟨rfl, _⟩ R kc ee
       exact OV ⟨rfl, rfl⟩ (eE true 4 0 (c.Cpu.toNat * 4) (es.mem0 ee) bs) ee
      ·rintro aq au v9_ ⟨rfl, _⟩ R kd b2
       refine WC ((c_i_leaveIrq kd Z ((K 0).1) ((K 0).2) ((dg.mem0 b2).a_ bs 0) ((K 1).1) ((K 1).2) ((dg.mem0 b2).a_ bs 1) ((K 2).1) ((K 2).2) ((dg.mem0 b2).a_ bs 2) i3).mono ?_)
       rintro e_ k9 ⟨al, af, ay, am, ag, az, an, ah, a0, rfl, dl, dm, dn, fi⟩
       refine ⟨_, rfl, ?_⟩
       exact WN (oE (.tuple #[.agg #[iv n.1.Mask, SL al n.1.Stack af, SL am n.1.Queue.Slots ag, SL an n.1.Queue.Waiting ah], iv n.2.1, .bool n.2.2]) (ay ++ (az ++ a0)) ⟨al, af, ay, am, ag, az, an, ah, a0, rfl, rfl, dl, dm, dn⟩ (Mem.callMid b2 (fi.permF (by simp))))
      ·intro aq au v10_ hb10_
       obtain ⟨_, al, af, _, am, ag, _, an, ah, _, rfl, _⟩ := hb10_
       intro R ke gj
       exact OM ⟨rfl, rfl⟩ gj
      ·intro aq au v10_ hb10_
       obtain ⟨_, al, af, _, am, ag, _, an, ah, _, rfl, _⟩ := hb10_
       intro v11_ hb11_
       obtain ⟨hv11_, _⟩ := hb11_
       obtain rfl : v11_ = (.tuple #[.agg #[iv n.1.Mask, SL al n.1.Stack af, SL am n.1.Queue.Slots ag, SL an n.1.Queue.Waiting ah], iv n.2.1, .bool n.2.2] : Value) := hv11_.trans (by kernel_rfl)
       intro R kf gk
       exact OM ⟨rfl, rfl⟩ gk
      ·intro aq au v10_ hb10_
       obtain ⟨_, al, af, _, am, ag, _, an, ah, _, rfl, _⟩ := hb10_
       intro v11_ hb11_
       obtain ⟨hv11_, _⟩ := hb11_
       obtain rfl : v11_ = (.tuple #[.agg #[iv n.1.Mask, SL al n.1.Stack af, SL am n.1.Queue.Slots ag, SL an n.1.Queue.Waiting ah], iv n.2.1, .bool n.2.2] : Value) := hv11_.trans (by kernel_rfl)
       intro R kg gl
       exact OM ⟨rfl, rfl⟩ gl
      ·intro aq au v10_ hb10_
       obtain ⟨_, al, af, _, am, ag, _, an, ah, _, rfl, _⟩ := hb10_
       intro v11_ hb11_
       obtain ⟨hv11_, _⟩ := hb11_
       obtain rfl : v11_ = (.tuple #[.agg #[iv n.1.Mask, SL al n.1.Stack af, SL am n.1.Queue.Slots ag, SL an n.1.Queue.Waiting ah], iv n.2.1, .bool n.2.2] : Value) := hv11_.trans (by kernel_rfl)
       intro R kh gm
       exact OM ⟨rfl, rfl⟩ gm
      ·rintro aq au v1_ ⟨rfl, _⟩
       rintro v3_ ⟨rfl, _⟩ R d0 ef
       have c3 : Mem [] w d0 ([(BK C 32 [SL U l.Routes S, SL V l.Enabled T, SL L l.Raised O, SL z l.Cpus F]), (BK u 51 [iv c.Kind, iv c.Irq, iv c.Cpu, iv c.Value]), (BK x 32 [SN, SN, SN, SN]), P, Q, W, (BK q 32 [SL N d.Routes I, SL A d.Enabled B, SL E d.Raised G, SL t d.Cpus y])] ++ ([[]] ++ ([] ++ ([(ab ++ X)] ++ R)))) := ef
       replace c3 : Mem [] w d0 ([(BK C 32 [SL U l.Routes S, SL V l.Enabled T, SL L l.Raised O, SL z l.Cpus F]), (BK u 51 [iv c.Kind, iv c.Irq, iv c.Cpu, iv c.Value]), (BK x 32 [SN, SN, SN, SN]), P, Q, W, (BK q 32 [SL N d.Routes I, SL A d.Enabled B, SL E d.Raised G, SL t d.Cpus y])] ++ ([[]] ++ ([] ++ ([ab, X] ++ R)))) := c3.permF (by simp)
       exact OV ⟨rfl, rfl⟩ (eI (et.r c3 8) (len_fst dr) de) ef
      ·intro aq au v10_ hb10_
       obtain ⟨al, af, ay, am, ag, az, an, ah, a0, rfl, hs10_, dl, dm, dn⟩ := hb10_
       intro v12_ hb12_
       obtain ⟨hv12_, _⟩ := hb12_
       obtain rfl : v12_ = (.agg #[iv n.1.Mask, SL al n.1.Stack af, SL am n.1.Queue.Slots ag, SL an n.1.Queue.Waiting ah] : Value) := hv12_.trans (by kernel_rfl)
       rintro v15_ ⟨rfl, _⟩ R d1 gn
       have b3 : Mem [] w d1 ([(BK C 32 [SL U l.Routes S, SL V l.Enabled T, SL L l.Raised O, SL z l.Cpus F]), (BK u 51 [iv c.Kind, iv c.Irq, iv c.Cpu, iv c.Value]), (BK x 32 [SN, SN, SN, SN]), P, Q, W, (BK q 32 [SL N d.Routes I, SL A d.Enabled B, SL E d.Raised G, SL t d.Cpus y])] ++ ([(ab ++ X)] ++ ([(aq 10)] ++ ([] ++ R)))) := gn
       rw [hs10_] at b3
       replace b3 : Mem [] w d1 ([(BK C 32 [SL U l.Routes S, SL V l.Enabled T, SL L l.Raised O, SL z l.Cpus F]), (BK u 51 [iv c.Kind, iv c.Irq, iv c.Cpu, iv c.Value]), (BK x 32 [SN, SN, SN, SN]), P, Q, W, (BK q 32 [SL N d.Routes I, SL A d.Enabled B, SL E d.Raised G, SL t d.Cpus y])] ++ ([(ab ++ X)] ++ ([ay, az, a0] ++ ([] ++ R)))) := b3.permF (by simp)
       have go : Mem [] w d1 [(BK C 32 [SL U l.Routes S, SL V l.Enabled T, SL L l.Raised O, SL z l.Cpus F]), (BK u 51 [iv c.Kind, iv c.Irq, iv c.Cpu, iv c.Value]), (BK x 32 [SN, SN, SN, SN]), P, Q, W, (BK q 32 [SL N d.Routes I, SL A d.Enabled B, SL E d.Raised G, SL t d.Cpus y]), ab, X, ay, az, a0, R.flatten] := b3.permF (by simp)
       obtain ⟨bj, jg, bl, i5, kx, iz⟩ := hn.lens (gxIdx_spec de).2
       have gp := go.cut 8 (sa := bj) (sb := jg) (sc := bl) i5 (by kernel_rfl)
       refine wE true 4 c.Cpu.toNat 0 (c.Cpu.toNat * 4) (ko, hc) (n.1, (plOf [(al, af), (am, ag), (an, ah)])) (.agg #[iv n.1.Mask, SL al n.1.Stack af, SL am n.1.Queue.Slots ag, SL an n.1.Queue.Waiting ah]) 7 gp et (gxIdx_spec de).2 ?_
       intro cz bn il gq
       have gr : Mem [] w cz [(BK C 32 [SL U l.Routes S, SL V l.Enabled T, SL L l.Raised O, SL z l.Cpus F]), (BK u 51 [iv c.Kind, iv c.Irq, iv c.Cpu, iv c.Value]), (BK x 32 [SN, SN, SN, SN]), P, Q, W, (BK q 32 [SL N d.Routes I, SL A d.Enabled B, SL E d.Raised G, SL t d.Cpus y]), bn, R.flatten, bj, ay, az, a0, bl] := gq.pk [0, 1, 2, 3, 4, 5, 6, 7, 12, 8, 9, 10, 11, 14]
       have gs : Mem [] w cz [(BK C 32 [SL U l.Routes S, SL V l.Enabled T, SL L l.Raised O, SL z l.Cpus F]), (BK u 51 [iv c.Kind, iv c.Irq, iv c.Cpu, iv c.Value]), (BK x 32 [SN, SN, SN, SN]), P, Q, W, (BK q 32 [SL N d.Routes I, SL A d.Enabled B, SL E d.Raised G, SL t d.Cpus y]), bn, R.flatten, (bj ++ ((ay ++ (az ++ (a0 ++ []))) ++ bl))] := gr.regroup (by simp)
       have im : ownD deepInterface (d.Cpus.set c.Cpu.toNat n.1) t y bn (bj ++ ((ay ++ (az ++ (a0 ++ []))) ++ bl)) := ⟨_, set_fst dr c.Cpu.toNat (n.1, (plOf [(al, af), (am, ag), (an, ah)])), il, (iz (n.1, (plOf [(al, af), (am, ag), (an, ah)])) _ (ownI_cons (i := ⟨Int, Gx.encI, _, _, _⟩) dl (ownI_cons (i := ⟨Slot, encSlot, _, _, _⟩) dm (ownI_cons (i := ⟨Waiter, encWaiter, _, _, _⟩) dn ownI_nil))))⟩
       have gt : Mem [] w cz [(BK C 32 [SL U l.Routes S, SL V l.Enabled T, SL L l.Raised O, SL z l.Cpus F]), (BK u 51 [iv c.Kind, iv c.Irq, iv c.Cpu, iv c.Value]), (BK x 32 [SN, SN, SN, SN]), P, Q, W, (BK q 32 [SL N d.Routes I, SL A d.Enabled B, SL E d.Raised G, SL t d.Cpus y]), bn, (bj ++ ((ay ++ (az ++ (a0 ++ []))) ++ bl)), R.flatten] := gs.pk [0, 1, 2, 3, 4, 5, 6, 7, 9, 8]
       exact WN (ob_none (bn ++ (bj ++ ((ay ++ (az ++ (a0 ++ []))) ++ bl))) rfl ⟨rfl, bn, (bj ++ ((ay ++ (az ++ (a0 ++ []))) ++ bl)), rfl, im⟩ (show Mem [] w cz ([(BK C 32 [SL U l.Routes S, SL V l.Enabled T, SL L l.Raised O, SL z l.Cpus F]), (BK u 51 [iv c.Kind, iv c.Irq, iv c.Cpu, iv c.Value]), (BK x 32 [SN, SN, SN, SN]), P, Q, W, (BK q 32 [SL N d.Routes I, SL A d.Enabled B, SL E d.Raised G, SL t d.Cpus y])] ++ ([(bn ++ (bj ++ ((ay ++ (az ++ (a0 ++ []))) ++ bl)))] ++ ([] ++ ([] ++ R)))) from gt.permF (by simp)))
      ·rintro aq au v13_ ⟨rfl, _⟩ R ki gu
       exact OM ⟨rfl, rfl⟩ gu
      rintro aq au v14_ ⟨rfl, _⟩ v16_ hb16_
      obtain ⟨rfl, bf, bg, hs16_, ik⟩ := hb16_
      rintro v17_ ⟨rfl, _⟩ c0 gv
      have b4 : Mem [] w c0 [(BK C 32 [SL U l.Routes S, SL V l.Enabled T, SL L l.Raised O, SL z l.Cpus F]), (BK u 51 [iv c.Kind, iv c.Irq, iv c.Cpu, iv c.Value]), (BK x 32 [SN, SN, SN, SN]), P, Q, W, (BK q 32 [SL N d.Routes I, SL A d.Enabled B, SL E d.Raised G, SL t d.Cpus y]), bf, bg] := gv.permF (by simp [hs16_, SL])
      have gw : Mem [] w c0 [(BK C 32 [.slice U l.Routes.length S, .slice V l.Enabled.length T, .slice L l.Raised.length O, .slice z l.Cpus.length F]), (BK u 51 [iv c.Kind, iv c.Irq, iv c.Cpu, iv c.Value]), (BK x 32 [.slice none 0 0, .slice none 0 0, .slice none 0 0, .slice none 0 0]), P, Q, W, (BK q 32 [.slice N d.Routes.length I, .slice A d.Enabled.length B, .slice E d.Raised.length G, .slice t (d.Cpus.set c.Cpu.toNat n.1).length y]), bf, bg] := by rw [@List.length_set _ d.Cpus c.Cpu.toNat n.1]; exact b4
      refine MW 1 (WN ?_)
      obtain rfl := HS hm
      exact NM fun a ha => ⟨Q, bf, bg, bc, ik, gw.pk [2, 3, 5, 6, 4, 7, 8], ha.s⟩
     refine gF da (QA (MW 2 (NO (GD hm fun ca io ht => G_meet (fun a w' => ∃ ct cu cv, ownS Gx.encB ca.1 A B ct ∧ ownD deepInterface ca.2 t y cu cv ∧ Mem [] w w' [(BK x 32 [SN, SN, SN, SN]), P, W, (BK q 32 [SL N d.Routes I, SL A ca.1 B, SL E d.Raised G, SL t ca.2 y]), ct, cu, cv] ∧ Sat Tryz.f87.ntmps [(4, pB x 0), (7, pB q 0), (8, iv (-1)), (9, .bool true)] a) ?_ ?_))))
     ·have hm := io
      refine GT hm (fun db hm => ?_) fun db hm => ?_
      ·refine GR (MW 1 (wV (SL t d.Cpus y) H (eL false 1 3 (aa.blk 8 rfl)) (MW 1 (wV (iv c.Cpu) H (eL false 1 2 (aa.blk 1 rfl)) (MW 1 (wV (iv c.Value) H (eL false 1 3 (aa.blk 1 rfl)) (GD hm fun ao ja hm => ?_)))))))
       obtain ⟨lj, b9, dp, ho⟩ := id bh
       obtain ⟨c4, bt⟩ := gxIdx_fst b9 ja
       refine wV (elemP t (c.Cpu.toNat * 4)) H (eI (dp.r aa 6) (len_fst b9) bt) (wV (elemP t (c.Cpu.toNat * 4 + 0)) H (eF 0 (c.Cpu.toNat * 4) 0 (dp.r aa 6) bt) (wE false 1 c.Cpu.toNat 0 (c.Cpu.toNat * 4 + 0) (ao, c4) ((⟨c.Value, ao.Stack, ao.Queue⟩ : Interface), c4) (iv c.Value) 6 aa dp (gxIdx_spec bt).2 ?_))
       intro kj dw ir gx
       have it : ownD deepInterface (d.Cpus.set c.Cpu.toNat (⟨c.Value, ao.Stack, ao.Queue⟩ : Interface)) t y dw X := ⟨_, set_fst b9 c.Cpu.toNat ((⟨c.Value, ao.Stack, ao.Queue⟩ : Interface), c4), ir, (by rw [flatMap_setSame (gxIdx_spec bt).2 (by kernel_rfl)]; exact ho)⟩
       have k1 := gxIdx_put (⟨c.Value, ao.Stack, ao.Queue⟩ : Interface) (gxIdx_down b9 bt)
       refine LX 70 t y d.Cpus c.Cpu.toNat (⟨c.Value, ao.Stack, ao.Queue⟩ : Interface) ?_
       have gy : Mem [] w kj [(BK C 32 [.slice U l.Routes.length S, .slice V l.Enabled.length T, .slice L l.Raised.length O, .slice z l.Cpus.length F]), (BK u 51 [iv c.Kind, iv c.Irq, iv c.Cpu, iv c.Value]), (BK x 32 [.slice none 0 0, .slice none 0 0, .slice none 0 0, .slice none 0 0]), P, Q, W, dw, X, (BK q 32 [.slice N d.Routes.length I, .slice A d.Enabled.length B, .slice E d.Raised.length G, .slice t (d.Cpus.set c.Cpu.toNat (⟨c.Value, ao.Stack, ao.Queue⟩ : Interface)).length y])] := by rw [@List.length_set _ d.Cpus c.Cpu.toNat (⟨c.Value, ao.Stack, ao.Queue⟩ : Interface)]; exact gx
       refine WN ?_
       obtain rfl := HS hm
       exact NM fun a ha => ⟨Q, dw, X, bc, it, gy.pk [2, 3, 5, 8, 4, 6, 7], ha.s⟩
      refine QA (MW 2 (NO (GD hm fun ez iu hu => G_meet (fun a w' => ∃ cw, ownS Gx.encB ez A B cw ∧ Mem [] w w' [(BK x 32 [SN, SN, SN, SN]), P, W, ab, X, (BK q 32 [SL N d.Routes I, SL A ez B, SL E d.Raised G, SL t d.Cpus y]), cw] ∧ Sat Tryz.f87.ntmps [(4, pB x 0), (7, pB q 0), (8, iv (-1)), (9, .bool true)] a) ?_ ?_)))
      ·have hm := iu
       refine GT hm (fun dc hm => ?_) fun dc hm => ?_
       ·refine GR (MW 1 (wV (SL A d.Enabled B) H (eL false 1 1 (aa.blk 8 rfl)) (MW 1 (wV (iv c.Irq) H (eL false 1 1 (aa.blk 1 rfl)) (MW 1 (wV (iv c.Value) H (eL false 1 3 (aa.blk 1 rfl)) (MW 1 (GD hm fun kp ew hm => wV (elemP A (c.Irq.toNat * 1)) H (eI (bc.r aa 4) rfl ew) (wE false 1 c.Irq.toNat 0 (c.Irq.toNat * 1) kp (c.Value == 1) (.bool (c.Value == 1)) 4 aa bc (gxIdx_spec ew).2 fun kk fd ix gz => LX 80 A B d.Enabled c.Irq.toNat (c.Value == 1) ?_)))))))))
        have g0 : Mem [] w kk [(BK C 32 [.slice U l.Routes.length S, .slice V l.Enabled.length T, .slice L l.Raised.length O, .slice z l.Cpus.length F]), (BK u 51 [iv c.Kind, iv c.Irq, iv c.Cpu, iv c.Value]), (BK x 32 [.slice none 0 0, .slice none 0 0, .slice none 0 0, .slice none 0 0]), P, fd, W, ab, X, (BK q 32 [.slice N d.Routes.length I, .slice A (d.Enabled.set c.Irq.toNat (c.Value == 1)).length B, .slice E d.Raised.length G, .slice t d.Cpus.length y])] := by rw [@List.length_set _ d.Enabled c.Irq.toNat (c.Value == 1)]; exact gz
        refine WN ?_
        obtain rfl := HS hm
        exact NM fun a ha => ⟨fd, ix, g0.pk [2, 3, 5, 6, 7, 8, 4], ha.s⟩
       refine GK ?_
       obtain rfl := HS hm
       exact NM fun a ha => ⟨Q, bc, aa.pk [2, 3, 5, 6, 7, 8, 4], ha.s⟩
      intro kq la ⟨cw, iw, g1, hf⟩
      refine N_use hf ?_
      have hm := hu
      obtain rfl := HS hm
      exact NM fun a ha => ⟨cw, ab, X, iw, bh, g1.pk [0, 1, 2, 5, 6, 3, 4], ha.s⟩
     intro kr lb ⟨ct, cu, cv, ip, iq, g2, hg⟩
     refine N_use hg ?_
     have hm := ht
     obtain rfl := HS hm
     exact NM fun a ha => ⟨ct, cu, cv, ip, iq, g2.pk [0, 1, 2, 3, 4, 5, 6], ha.s⟩
    intro ks lc ⟨cp, cq, cr, ii, ij, g3, hh⟩
    refine N_use hh ?_
    have hm := hs
    obtain rfl := HS hm
    exact NM fun a ha => ⟨cp, cq, cr, ii, ij, g3.pk [0, 1, 2, 3, 4, 5, 6], ha.s⟩
   intro kt ld ⟨bv, bw, bx, en, eo, g4, hi⟩
   refine N_use hi ?_
   have hm := hr
   obtain rfl := HS hm
   exact NM fun a ha => ⟨N, I, P, A, B, bv, E, G, W, t, y, bw, bx, bv, bw, bx, dh, en, bu, eo, en, eo, g4.pk [0, 3, 1, 4, 2, 5, 6], ha.s⟩
  intro ku le ⟨cb, b5, ck, cc, b6, cl, cd, b7, cm, ce, b8, cn, co, dt, du, dv, h1, h2, h3, h4, h5, h6, g5, hj⟩
  refine N_use hj ?_
  have hm := hq
  obtain rfl := HS hm
  exact NM fun a ha => ⟨cb, b5, ck, cc, b6, cl, cd, b7, cm, ce, b8, cn, co, dt, W, du, dv, h1, h2, h3, h4, h5, bu, h6, g5.pk [0, 1, 2, 3, 4, 5, 6], ha.s⟩
 intro kv fe ⟨a8, a3, cf, a9, a4, cg, ba, a5, ch, bb, a6, ci, cj, e9, fa, fb, fc, hw, hx, hy, hz, ky, kz, k0, eg, hk⟩
 refine N_use hk ?_
 have hm := hp
 refine BN (NF (wV (.agg #[SL a8 D.2.2.1 a3, SL a9 D.2.2.2.1 a4, SL ba D.2.2.2.2.1 a5, SL bb D.2.2.2.2.2.1 a6]) fe (eL true 4 0 (eg.blk 1 rfl)) (MW 2 (wS true 4 0 (.agg #[SL a8 D.2.2.1 a3, SL a9 D.2.2.2.1 a4, SL ba D.2.2.2.2.1 a5, SL bb D.2.2.2.2.2.1 a6]) 0 [SL a8 D.2.2.1 a3, SL a9 D.2.2.2.1 a4, SL ba D.2.2.2.2.1 a5, SL bb D.2.2.2.2.2.1 a6] eg rfl fun kl eh => wR 2 [(4, pB x 0), (5, iv D.1), (6, .bool D.2.1)] kl (NC ?_)))))
 obtain rfl := HS hm
 exact N_ret [.agg #[SL a8 D.2.2.1 a3, SL a9 D.2.2.2.1 a4, SL ba D.2.2.2.2.1 a5, SL bb D.2.2.2.2.2.1 a6], iv D.1, .bool D.2.1] (RX true 4 0 (eh.blk 0 rfl) (rC (rC RVs_nil))) (⟨a8, a3, cf, a9, a4, cg, ba, a5, ch, bb, a6, ci, cj, rfl, hw, hx, hy, hz, eh.pk [2, 3, 4, 5, 6]⟩)
theorem c_i_StepMachine (w : World) (d : Machine) (n i) (P : rdS encRoute w d.Routes n i) (q j) (Q : rdS Gx.encB w d.Enabled q j) (t l) (R : rdS Gx.encB w d.Raised t l) (u m) (S : rdD deepInterface w d.Cpus u m) (f : MachStep) {r : Machine × Int × Bool} (hm : M.i_StepMachine d f = some r) :
  Calls Tryz.prog 32 #[.agg #[SL n d.Routes i, SL q d.Enabled j, SL t d.Raised l, SL u d.Cpus m], .agg #[iv f.Kind, iv f.Irq, iv f.Cpu, iv f.Value]] w fun e w' => ∃ af ab aj ag ac ak ah ad al ai ae am an, e = .returned (.tuple #[.agg #[SL af r.1.Routes ab, SL ag r.1.Enabled ac, SL ah r.1.Raised ad, SL ai r.1.Cpus ae], iv r.2.1, .bool r.2.2]) ∧ ownS encRoute r.1.Routes af ab aj ∧ ownS Gx.encB r.1.Enabled ag ac ak ∧ ownS Gx.encB r.1.Raised ah ad al ∧ ownD deepInterface r.1.Cpus ai ae am an ∧ Mem [] w w' [aj, ak, al, am, an] := by
 unfold M.i_StepMachine at hm
 refine cE Tryz.func32 ?_
 have M0 := Mem.refl [] w
 refine QA (wN (CE 32 [SL n d.Routes i, SL q d.Enabled j, SL t d.Raised l, SL u d.Cpus m]) M0 fun I bo ar => wN (CE 51 [iv f.Kind, iv f.Irq, iv f.Cpu, iv f.Value]) ar fun J bp au => wN (CE 32 [SN, SN, SN, SN]) au fun h W H => MW 2 (NE (GS (GD hm fun ba a0 az => G_meet (fun a w' => Mem [] w w' [(BK I 32 [SL n d.Routes i, SL q d.Enabled j, SL t d.Raised l, SL u d.Cpus m]), (BK J 51 [iv f.Kind, iv f.Irq, iv f.Cpu, iv f.Value]), (BK h 32 [SN, SN, SN, SN])] ∧ Sat Tryz.f32.ntmps [(2, pB I 0), (3, pB J 0), (4, pB h 0), (18, .bool ba)] a) ?_ ?_))))
 ·have hm := a0
  refine GR (wV (.agg #[SL n d.Routes i, SL q d.Enabled j, SL t d.Raised l, SL u d.Cpus m]) W (eL true 4 0 (H.blk 0 rfl)) (GD hm fun bb a7 hm => WD (c_i_IsMachine W d n i (P.mem0 H) q j (Q.mem0 H) t l (R.mem0 H) u m (S.mem0 H) a7) H fun K F => wR 2 [(2, pB I 0), (3, pB J 0), (4, pB h 0), (13, .bool (!bb))] K ?_))
  rcases gx_bif hm with ⟨T, hm⟩ | ⟨T, hm⟩
  ·refine wK 13 true T (MW 5 (WN ?_))
   obtain rfl := HS hm
   exact NM fun a ha => ⟨F.pk [0, 1, 2], ha.s⟩
  refine wK 13 false T (wV (.agg #[SL n d.Routes i, SL q d.Enabled j, SL t d.Raised l, SL u d.Cpus m]) K (eL true 4 0 (F.blk 0 rfl)) (wV (.agg #[iv f.Kind, iv f.Irq, iv f.Cpu, iv f.Value]) K (eL true 4 0 (F.blk 1 rfl)) (GD hm fun bc a8 hm => WD (c_i_isMachStep K d n i (P.mem0 F) q j (Q.mem0 F) t l (R.mem0 F) u m (S.mem0 F) f a8) F fun bi av => MW 2 (WN ?_))))
  obtain rfl := HS hm
  exact NM fun a ha => ⟨av.pk [0, 1, 2], ha.s⟩
 intro bn N ⟨G, ay⟩
 refine N_use ay ?_
 have hm := az
 refine TN (GT hm (fun U hm => ?_) fun U hm => ?_)
 ·refine QA (MW 1 (wS true 4 0 (.agg #[SN, SN, SN, SN]) 2 [SN, SN, SN, SN] G rfl fun bj X => MW 2 (ND ?_)))
  obtain rfl := HS hm
  exact N_ret [.agg #[SN, SN, SN, SN], iv 0, .bool false] (RX true 4 0 (X.blk 2 rfl) (rC (rC RVs_nil))) (⟨none, 0, [], none, 0, [], none, 0, [], none, 0, [], [], rfl, ownS_nil, ownS_nil, ownS_nil, ownD_nil, X.pk [100000, 100001, 100002, 100003, 100004]⟩)
 refine KA (wV (.agg #[SL n d.Routes i, SL q d.Enabled j, SL t d.Raised l, SL u d.Cpus m]) N (eL true 4 0 (G.blk 0 rfl)) (wV (.agg #[iv f.Kind, iv f.Irq, iv f.Cpu, iv f.Value]) N (eL true 4 0 (G.blk 1 rfl)) (GD hm fun c a9 hm => WC ((c_i_stepMachine N d n i (P.mem0 G) q j (Q.mem0 G) t l (R.mem0 G) u m (S.mem0 G) f a9).mono ?_))))
 rintro e_ bk ⟨B, x, bd, C, y, be, D, z, bf, E, A, bg, bh, rfl, a3, a4, a5, a6, aq⟩
 have aw := G.call aq
 refine ⟨_, rfl, ?_⟩
 refine MW 4 (wN (CE 32 [SN, SN, SN, SN]) aw fun aa bq ax => wS true 4 0 (.agg #[SL B c.1.Routes x, SL C c.1.Enabled y, SL D c.1.Raised z, SL E c.1.Cpus A]) 8 [SL B c.1.Routes x, SL C c.1.Enabled y, SL D c.1.Raised z, SL E c.1.Cpus A] ax rfl fun L O => MW 2 (NB (wR 2 [(4, pB h 0), (7, pB aa 0), (8, iv c.2.1), (28, .bool (!c.2.2))] L (NO (GT hm (fun V hm => ?_) fun V hm => ?_)))))
 ·refine QA (MW 1 (wS true 4 0 (.agg #[SN, SN, SN, SN]) 2 [SN, SN, SN, SN] O rfl fun bl Y => MW 2 (ND ?_)))
  obtain rfl := HS hm
  exact N_ret [.agg #[SN, SN, SN, SN], iv 0, .bool false] (RX true 4 0 (Y.blk 2 rfl) (rC (rC RVs_nil))) (⟨none, 0, [], none, 0, [], none, 0, [], none, 0, [], [], rfl, ownS_nil, ownS_nil, ownS_nil, ownD_nil, Y.pk [100000, 100001, 100002, 100003, 100004]⟩)
 refine KA (wV (.agg #[SL B c.1.Routes x, SL C c.1.Enabled y, SL D c.1.Raised z, SL E c.1.Cpus A]) L (eL true 4 0 (O.blk 8 rfl)) (MW 1 (wS true 4 0 (.agg #[SL B c.1.Routes x, SL C c.1.Enabled y, SL D c.1.Raised z, SL E c.1.Cpus A]) 2 [SL B c.1.Routes x, SL C c.1.Enabled y, SL D c.1.Raised z, SL E c.1.Cpus A] O rfl fun bm Z => MW 2 (NC ?_))))
 obtain rfl := HS hm
 exact N_ret [.agg #[SL B c.1.Routes x, SL C c.1.Enabled y, SL D c.1.Raised z, SL E c.1.Cpus A], iv c.2.1, .bool true] (RX true 4 0 (Z.blk 2 rfl) (rC (rC RVs_nil))) (⟨B, x, bd, C, y, be, D, z, bf, E, A, bg, bh, rfl, a3, a4, a5, a6, Z.pk [3, 4, 5, 6, 7]⟩)
end Go.Proofs.YtllhajkgkghhdaaGreat
set_option linter.unusedVariables false
set_option linter.unusedSimpArgs false
set_option maxRecDepth 100000
set_option maxHeartbeats 4000000
namespace Go.Proofs.YtllhajkgkghhdaaGreat
open Go.Gx
theorem c_l_FnExactStepMachine (w : World) (d : Machine) (S N) (dk : rdS encRoute w d.Routes S N) (T O) (dl : rdS Gx.encB w d.Enabled T O) (U P) (dm : rdS Gx.encB w d.Raised U P) (V Q) (dn : rdD deepInterface w d.Cpus V Q) (g : MachStep) {r : Bool} (hm : M.l_FnExactStepMachine d g = some r) :
  Calls Tryz.prog 8 #[.agg #[SL S d.Routes N, SL T d.Enabled O, SL U d.Raised P, SL V d.Cpus Q], .agg #[iv g.Kind, iv g.Irq, iv g.Cpu, iv g.Value]] w fun e w' => e = .returned (.bool r) ∧ Mem [] w w' [] := by
 unfold M.l_FnExactStepMachine at hm
 refine cE Tryz.func8 ?_
 have M0 := Mem.refl [] w
 refine QA (wN (CE 26 [SL S d.Routes N, SL T d.Enabled O, SL U d.Raised P, SL V d.Cpus Q]) M0 fun C kf gz => wN (CE 48 [iv g.Kind, iv g.Irq, iv g.Cpu, iv g.Value]) gz fun D dy c7 => MW 1 (NA (MW 1 (NA (wV (.agg #[SL S d.Routes N, SL T d.Enabled O, SL U d.Raised P, SL V d.Cpus Q]) dy (eL true 4 0 (c7.blk 0 rfl)) (MW 1 (GD hm fun fq ig hm => WD (c_l_szMachine dy d S N (dk.mem0 c7) T O (dl.mem0 c7) U P (dm.mem0 c7) V Q (dn.mem0 c7) 1048576 ig) c7 fun fr fv => MW 1 (NB (MW 2 (NO (GT hm (fun ep hm => ?_) fun ep hm => ?_)))))))))))
 ·refine QA (MW 1 (ND ?_))
  obtain rfl := HS hm
  exact RA [.bool true] (⟨rfl, fv.pk []⟩)
 refine GK (TN (GS (GD hm fun ar ih hm => GD hm fun az ii hm => GD hm fun b ij hm => GU [(2, pB C 0), (3, pB D 0), (23, .bool (decide (fq < 0)))] (DL 12 [[],[0],[],[2],[1,3],[],[5],[5],[5],[],[6,9],[7]] [[],[],[],[],[],[],[],[],[],[],[9],[]] [[],[],[],[],[1],[],[],[],[],[],[],[]] [[],[],[],[],[],[4],[4],[4],[4],[],[4],[]] [[],[],[],[],[],[4],[4],[],[],[],[4,9],[]] (EM 12) (fun _ => []) [QV (.agg #[SL S d.Routes N, SL T d.Enabled O, SL U d.Raised P, SL V d.Cpus Q]), fun f v s => ∃ bu bk a6 bv bl a7 bw bm a8 bx bn a9 ba, v = (.agg #[SL bu ar.Routes bk, SL bv ar.Enabled bl, SL bw ar.Raised bm, SL bx ar.Cpus bn] : Value) ∧ s = (a6 ++ (a7 ++ (a8 ++ (a9 ++ ba)))) ∧ ownS encRoute ar.Routes bu bk a6 ∧ ownS Gx.encB ar.Enabled bv bl a7 ∧ ownS Gx.encB ar.Raised bw bm a8 ∧ ownD deepInterface ar.Cpus bx bn a9 ba, QV (.agg #[iv g.Kind, iv g.Irq, iv g.Cpu, iv g.Value]), QV (.agg #[iv az.Kind, iv az.Irq, iv az.Cpu, iv az.Value]), fun f v s => ∃ I E am J F an K G ao L H ap aq, v = (.tuple #[.agg #[SL I b.1.Routes E, SL J b.1.Enabled F, SL K b.1.Raised G, SL L b.1.Cpus H], iv b.2.1, .bool b.2.2] : Value) ∧ s = (am ++ (an ++ (ao ++ (ap ++ aq)))) ∧ ownS encRoute b.1.Routes I E am ∧ ownS Gx.encB b.1.Enabled J F an ∧ ownS Gx.encB b.1.Raised K G ao ∧ ownD deepInterface b.1.Cpus L H ap aq, fun f v s => v = (.tuple #[.agg #[(atPath (f 4) [0, 0]), (atPath (f 4) [0, 1]), (atPath (f 4) [0, 2]), (atPath (f 4) [0, 3])], iv b.2.1, .bool b.2.2] : Value) ∧ s = [], fun f v s => v = (.agg #[(atPath (f 4) [0, 0]), (atPath (f 4) [0, 1]), (atPath (f 4) [0, 2]), (atPath (f 4) [0, 3])] : Value) ∧ s = [], QV (iv b.2.1), QV (.bool b.2.2), fun f v s => ∃ o, v = (pB o 0 : Value) ∧ s = (BK o 32 [SN, SN, SN, SN]), fun f v s => v = undef ∧ s = [((blkOf (f 9)), .cells ⟨[(atPath (f 4) [0, 0]), (atPath (f 4) [0, 1]), (atPath (f 4) [0, 2]), (atPath (f 4) [0, 3])]⟩ 32 (0, 0))], QV (iv b.2.1)] [9] [1, 4, 8, 10, 11] [1, 4, 10] (fv.preNil 12) (AC ?_ (AC ?_ (AC ?_ (AC ?_ (AC ?_ (AC ?_ (AC ?_ (AC ?_ (AC ?_ (AC ?_ (AC ?_ (AC ?_ AN)))))))))))) ?_))))
 ·intro ax bs R jd fw
  exact OV ⟨rfl, rfl⟩ (eL true 4 0 (fw.blk 0 rfl)) fw
 ·rintro ax bs v0_ ⟨rfl, _⟩ R je de
  refine WC ((c_l_toMachine je d S N (dk.mem0 de) T O (dl.mem0 de) U P (dm.mem0 de) V Q (dn.mem0 de) ih).mono ?_)
  rintro e_ kg ⟨bu, bk, a6, bv, bl, a7, bw, bm, a8, bx, bn, a9, ba, rfl, ea, eb, ec, ed, gh⟩
  refine ⟨_, rfl, ?_⟩
  exact WN (oE (.agg #[SL bu ar.Routes bk, SL bv ar.Enabled bl, SL bw ar.Raised bm, SL bx ar.Cpus bn]) (a6 ++ (a7 ++ (a8 ++ (a9 ++ ba)))) ⟨bu, bk, a6, bv, bl, a7, bw, bm, a8, bx, bn, a9, ba, rfl, rfl, ea, eb, ec, ed⟩ (Mem.callMid de (gh.permF (by simp))))
 ·intro ax bs R jf fx
  exact OV ⟨rfl, rfl⟩ (eL true 4 0 (fx.blk 1 rfl)) fx
 ·rintro ax bs v2_ ⟨rfl, _⟩ R jg g0
  refine WC ((c_l_toMachStep jg g ii).mono ?_)
  rintro e_ kh ⟨rfl, gi⟩
  refine ⟨_, rfl, ?_⟩
  exact WN (oE (.agg #[iv az.Kind, iv az.Irq, iv az.Cpu, iv az.Value]) [] ⟨rfl, rfl⟩ (g0.call0 gi))
 ·intro ax bs v1_ hb1_
  obtain ⟨bu, bk, a6, bv, bl, a7, bw, bm, a8, bx, bn, a9, ba, rfl, hs1_, ea, eb, ec, ed⟩ := hb1_
  rintro v3_ ⟨rfl, _⟩ R fs fy
  have c3 : Mem [] w fs ([(BK C 26 [SL S d.Routes N, SL T d.Enabled O, SL U d.Raised P, SL V d.Cpus Q]), (BK D 48 [iv g.Kind, iv g.Irq, iv g.Cpu, iv g.Value])] ++ ([[]] ++ ([(ax 1)] ++ ([] ++ R)))) := fy
  rw [hs1_] at c3
  replace c3 : Mem [] w fs ([(BK C 26 [SL S d.Routes N, SL T d.Enabled O, SL U d.Raised P, SL V d.Cpus Q]), (BK D 48 [iv g.Kind, iv g.Irq, iv g.Cpu, iv g.Value])] ++ ([[]] ++ ([a6, a7, a8, a9, ba] ++ ([] ++ R)))) := c3.permF (by simp)
  refine WC ((c_s_StepMachine fs ar bu bk (ea.r c3 3) bv bl (eb.r c3 4) bw bm (ec.r c3 5) bx bn (ed.r2 c3 6 7) az ij).mono ?_)
  rintro e_ ki ⟨I, E, am, J, F, an, K, G, ao, L, H, ap, aq, rfl, dp, dq, dr, ds, gj⟩
  refine ⟨_, rfl, ?_⟩
  exact WN (oE (.tuple #[.agg #[SL I b.1.Routes E, SL J b.1.Enabled F, SL K b.1.Raised G, SL L b.1.Cpus H], iv b.2.1, .bool b.2.2]) (am ++ (an ++ (ao ++ (ap ++ aq)))) ⟨I, E, am, J, F, an, K, G, ao, L, H, ap, aq, rfl, rfl, dp, dq, dr, ds⟩ (Mem.callMid fy (gj.permF (by simp))))
 ·intro ax bs v4_ hb4_
  obtain ⟨_, I, E, _, J, F, _, K, G, _, L, H, _, _, rfl, _⟩ := hb4_
  intro R jh g1
  exact OM ⟨rfl, rfl⟩ g1
 ·intro ax bs v4_ hb4_
  obtain ⟨_, I, E, _, J, F, _, K, G, _, L, H, _, _, rfl, _⟩ := hb4_
  intro v5_ hb5_
  obtain ⟨hv5_, _⟩ := hb5_
  obtain rfl : v5_ = (.tuple #[.agg #[SL I b.1.Routes E, SL J b.1.Enabled F, SL K b.1.Raised G, SL L b.1.Cpus H], iv b.2.1, .bool b.2.2] : Value) := hv5_.trans (by kernel_rfl)
  intro R ji g2
  exact OM ⟨rfl, rfl⟩ g2
 ·intro ax bs v4_ hb4_
  obtain ⟨_, I, E, _, J, F, _, K, G, _, L, H, _, _, rfl, _⟩ := hb4_
  intro v5_ hb5_
  obtain ⟨hv5_, _⟩ := hb5_
  obtain rfl : v5_ = (.tuple #[.agg #[SL I b.1.Routes E, SL J b.1.Enabled F, SL K b.1.Raised G, SL L b.1.Cpus H], iv b.2.1, .bool b.2.2] : Value) := hv5_.trans (by kernel_rfl)
  intro R jj g3
  exact OM ⟨rfl, rfl⟩ g3
 ·intro ax bs v4_ hb4_
  obtain ⟨_, I, E, _, J, F, _, K, G, _, L, H, _, _, rfl, _⟩ := hb4_
  intro v5_ hb5_
  obtain ⟨hv5_, _⟩ := hb5_
  obtain rfl : v5_ = (.tuple #[.agg #[SL I b.1.Routes E, SL J b.1.Enabled F, SL K b.1.Raised G, SL L b.1.Cpus H], iv b.2.1, .bool b.2.2] : Value) := hv5_.trans (by kernel_rfl)
  intro R jk g4
  exact OM ⟨rfl, rfl⟩ g4
 ·intro ax bs R kj g5
  exact wN (CE 32 [SN, SN, SN, SN]) g5 fun o kk g6 => WN (oE (pB o 0) (BK o 32 [SN, SN, SN, SN]) ⟨o, rfl, rfl⟩ (Mem.mid g6))
 ·intro ax bs v4_ hb4_
  obtain ⟨_, I, E, _, J, F, _, K, G, _, L, H, _, _, rfl, _⟩ := hb4_
  intro v6_ hb6_
  obtain ⟨hv6_, _⟩ := hb6_
  obtain rfl : v6_ = (.agg #[SL I b.1.Routes E, SL J b.1.Enabled F, SL K b.1.Raised G, SL L b.1.Cpus H] : Value) := hv6_.trans (by kernel_rfl)
  intro v9_ hb9_
  obtain ⟨o, rfl, hs9_⟩ := hb9_
  intro R gd g7
  have d6 : Mem [] w gd ([(BK C 26 [SL S d.Routes N, SL T d.Enabled O, SL U d.Raised P, SL V d.Cpus Q]), (BK D 48 [iv g.Kind, iv g.Irq, iv g.Cpu, iv g.Value])] ++ ([[]] ++ ([(ax 9)] ++ ([] ++ R)))) := g7
  rw [hs9_] at d6
  replace d6 : Mem [] w gd ([(BK C 26 [SL S d.Routes N, SL T d.Enabled O, SL U d.Raised P, SL V d.Cpus Q]), (BK D 48 [iv g.Kind, iv g.Irq, iv g.Cpu, iv g.Value])] ++ ([[]] ++ ([(BK o 32 [SN, SN, SN, SN])] ++ ([] ++ R)))) := d6.permF (by simp)
  exact wS true 4 0 (.agg #[SL I b.1.Routes E, SL J b.1.Enabled F, SL K b.1.Raised G, SL L b.1.Cpus H]) 3 [SL I b.1.Routes E, SL J b.1.Enabled F, SL K b.1.Raised G, SL L b.1.Cpus H] d6 rfl fun kl g8 => WN (ob_none (BK o 32 [SL I b.1.Routes E, SL J b.1.Enabled F, SL K b.1.Raised G, SL L b.1.Cpus H]) rfl ⟨rfl, by kernel_rfl⟩ (Mem.takeOver g8))
 ·rintro ax bs v7_ ⟨rfl, _⟩ R jl g9
  exact OM ⟨rfl, rfl⟩ g9
 intro ax bs v9_ hb9_
 obtain ⟨_, o, rfl, hs9_⟩ := hb9_
 intro v1_ hb1_
 obtain ⟨bu, bk, a6, bv, bl, a7, bw, bm, a8, bx, bn, a9, ba, rfl, hs1_, ea, eb, ec, ed⟩ := hb1_
 intro v4_ hb4_
 obtain ⟨I, E, am, J, F, an, K, G, ao, L, H, ap, aq, rfl, hs4_, dp, dq, dr, ds⟩ := hb4_
 rintro v8_ ⟨rfl, _⟩ v10_ hb10_
 obtain ⟨rfl, hs10_⟩ := hb10_
 replace hs10_ := hs10_.trans (show _ = (BK o 32 [SL I b.1.Routes E, SL J b.1.Enabled F, SL K b.1.Raised G, SL L b.1.Cpus H]) by kernel_rfl)
 rintro v11_ ⟨rfl, _⟩ dz hb
 have b8 : Mem [] w dz [(BK C 26 [SL S d.Routes N, SL T d.Enabled O, SL U d.Raised P, SL V d.Cpus Q]), (BK D 48 [iv g.Kind, iv g.Irq, iv g.Cpu, iv g.Value]), a6, a7, a8, a9, ba, am, an, ao, ap, aq, (BK o 32 [SL I b.1.Routes E, SL J b.1.Enabled F, SL K b.1.Raised G, SL L b.1.Cpus H])] := hb.permF (by simp [hs1_, hs4_, hs10_, SL])
 refine MW 1 (NA (wV (.agg #[SL S d.Routes N, SL T d.Enabled O, SL U d.Raised P, SL V d.Cpus Q]) dz (eL true 4 0 (b8.blk 0 rfl)) (GD hm fun l ik hm => WC ((c_l_toMachine dz d S N (dk.mem0 b8) T O (dl.mem0 b8) U P (dm.mem0 b8) V Q (dn.mem0 b8) ik).mono ?_))))
 rintro e_ km ⟨ai, ae, ct, aj, af, cu, ak, ag, cv, al, ah, cw, cx, rfl, fe, ff, fg, fh, gk⟩
 have hc := b8.call gk
 refine ⟨_, rfl, ?_⟩
 refine wN (CE 32 [SN, SN, SN, SN]) hc fun aw kn hd => wS true 4 0 (.agg #[SL ai l.Routes ae, SL aj l.Enabled af, SL ak l.Raised ag, SL al l.Cpus ah]) 18 [SL ai l.Routes ae, SL aj l.Enabled af, SL ak l.Raised ag, SL al l.Cpus ah] hd rfl fun ko he => NE (GD hm fun a0 il hm => GD hm fun c im hm => GU [(2, pB C 0), (3, pB D 0), (6, pB o 0), (7, iv b.2.1), (8, .bool b.2.2), (9, pB aw 0), (33, .agg #[SL S d.Routes N, SL T d.Enabled O, SL U d.Raised P, SL V d.Cpus Q]), (34, .agg #[SL ai l.Routes ae, SL aj l.Enabled af, SL ak l.Raised ag, SL al l.Cpus ah])] (DL 11 [[],[],[1],[0,2],[],[4],[4],[4],[],[5,8],[6]] [[],[],[],[],[],[],[],[],[],[8],[]] (EM 11) [[],[],[],[],[3],[3],[3],[3],[],[3],[]] [[],[],[],[],[3],[3],[],[],[],[3,8],[]] (EM 11) (fun _ => []) [QV (.agg #[SL ai l.Routes ae, SL aj l.Enabled af, SL ak l.Raised ag, SL al l.Cpus ah]), QV (.agg #[iv g.Kind, iv g.Irq, iv g.Cpu, iv g.Value]), QV (.agg #[iv a0.Kind, iv a0.Irq, iv a0.Cpu, iv a0.Value]), fun f v s => ∃ y q bb z t bc A u bd B x be bf, v = (.tuple #[.agg #[SL y c.1.Routes q, SL z c.1.Enabled t, SL A c.1.Raised u, SL B c.1.Cpus x], iv c.2.1, .bool c.2.2] : Value) ∧ s = (bb ++ (bc ++ (bd ++ (be ++ bf)))) ∧ ownS encRoute c.1.Routes y q bb ∧ ownS Gx.encB c.1.Enabled z t bc ∧ ownS Gx.encB c.1.Raised A u bd ∧ ownD deepInterface c.1.Cpus B x be bf, fun f v s => v = (.tuple #[.agg #[(atPath (f 3) [0, 0]), (atPath (f 3) [0, 1]), (atPath (f 3) [0, 2]), (atPath (f 3) [0, 3])], iv c.2.1, .bool c.2.2] : Value) ∧ s = [], fun f v s => v = (.agg #[(atPath (f 3) [0, 0]), (atPath (f 3) [0, 1]), (atPath (f 3) [0, 2]), (atPath (f 3) [0, 3])] : Value) ∧ s = [], QV (iv c.2.1), QV (.bool c.2.2), fun f v s => ∃ n, v = (pB n 0 : Value) ∧ s = (BK n 32 [SN, SN, SN, SN]), fun f v s => v = undef ∧ s = [((blkOf (f 8)), .cells ⟨[(atPath (f 3) [0, 0]), (atPath (f 3) [0, 1]), (atPath (f 3) [0, 2]), (atPath (f 3) [0, 3])]⟩ 32 (0, 0))], QV (iv c.2.1)] [8] [3, 7, 9, 10] [3, 9] (he.preNil 11) (AC ?_ (AC ?_ (AC ?_ (AC ?_ (AC ?_ (AC ?_ (AC ?_ (AC ?_ (AC ?_ (AC ?_ (AC ?_ AN))))))))))) ?_))
 ·intro bh cd R jm fz
  exact OV ⟨rfl, rfl⟩ (eL true 4 0 (fz.blk 18 rfl)) fz
 ·intro bh cd R jn f0
  exact OV ⟨rfl, rfl⟩ (eL true 4 0 (f0.blk 1 rfl)) f0
 ·rintro bh cd v1_ ⟨rfl, _⟩ R jo hf
  refine WC ((c_l_toMachStep jo g il).mono ?_)
  rintro e_ kp ⟨rfl, gl⟩
  refine ⟨_, rfl, ?_⟩
  exact WN (oE (.agg #[iv a0.Kind, iv a0.Irq, iv a0.Cpu, iv a0.Value]) [] ⟨rfl, rfl⟩ (hf.call0 gl))
 ·rintro bh cd v0_ ⟨rfl, _⟩
  rintro v2_ ⟨rfl, _⟩ R jp df
  refine WC ((c_i_StepMachine jp l ai ae (fe.r df 13) aj af (ff.r df 14) ak ag (fg.r df 15) al ah (fh.r2 df 16 17) a0 im).mono ?_)
  rintro e_ kq ⟨y, q, bb, z, t, bc, A, u, bd, B, x, be, bf, rfl, dt, du, dv, dw, gm⟩
  refine ⟨_, rfl, ?_⟩
  exact WN (oE (.tuple #[.agg #[SL y c.1.Routes q, SL z c.1.Enabled t, SL A c.1.Raised u, SL B c.1.Cpus x], iv c.2.1, .bool c.2.2]) (bb ++ (bc ++ (bd ++ (be ++ bf)))) ⟨y, q, bb, z, t, bc, A, u, bd, B, x, be, bf, rfl, rfl, dt, du, dv, dw⟩ (Mem.callMid df (gm.permF (by simp))))
 ·intro bh cd v3_ hb3_
  obtain ⟨_, y, q, _, z, t, _, A, u, _, B, x, _, _, rfl, _⟩ := hb3_
  intro R jq hg
  exact OM ⟨rfl, rfl⟩ hg
 ·intro bh cd v3_ hb3_
  obtain ⟨_, y, q, _, z, t, _, A, u, _, B, x, _, _, rfl, _⟩ := hb3_
  intro v4_ hb4_
  obtain ⟨hv4_, _⟩ := hb4_
  obtain rfl : v4_ = (.tuple #[.agg #[SL y c.1.Routes q, SL z c.1.Enabled t, SL A c.1.Raised u, SL B c.1.Cpus x], iv c.2.1, .bool c.2.2] : Value) := hv4_.trans (by kernel_rfl)
  intro R jr hh
  exact OM ⟨rfl, rfl⟩ hh
 ·intro bh cd v3_ hb3_
  obtain ⟨_, y, q, _, z, t, _, A, u, _, B, x, _, _, rfl, _⟩ := hb3_
  intro v4_ hb4_
  obtain ⟨hv4_, _⟩ := hb4_
  obtain rfl : v4_ = (.tuple #[.agg #[SL y c.1.Routes q, SL z c.1.Enabled t, SL A c.1.Raised u, SL B c.1.Cpus x], iv c.2.1, .bool c.2.2] : Value) := hv4_.trans (by kernel_rfl)
  intro R js hi
  exact OM ⟨rfl, rfl⟩ hi
 ·intro bh cd v3_ hb3_
  obtain ⟨_, y, q, _, z, t, _, A, u, _, B, x, _, _, rfl, _⟩ := hb3_
  intro v4_ hb4_
  obtain ⟨hv4_, _⟩ := hb4_
  obtain rfl : v4_ = (.tuple #[.agg #[SL y c.1.Routes q, SL z c.1.Enabled t, SL A c.1.Raised u, SL B c.1.Cpus x], iv c.2.1, .bool c.2.2] : Value) := hv4_.trans (by kernel_rfl)
  intro R jt hj
  exact OM ⟨rfl, rfl⟩ hj
 ·intro bh cd R kr hk
  exact wN (CE 32 [SN, SN, SN, SN]) hk fun n ks hl => WN (oE (pB n 0) (BK n 32 [SN, SN, SN, SN]) ⟨n, rfl, rfl⟩ (Mem.mid hl))
 ·intro bh cd v3_ hb3_
  obtain ⟨_, y, q, _, z, t, _, A, u, _, B, x, _, _, rfl, _⟩ := hb3_
  intro v5_ hb5_
  obtain ⟨hv5_, _⟩ := hb5_
  obtain rfl : v5_ = (.agg #[SL y c.1.Routes q, SL z c.1.Enabled t, SL A c.1.Raised u, SL B c.1.Cpus x] : Value) := hv5_.trans (by kernel_rfl)
  intro v8_ hb8_
  obtain ⟨n, rfl, hs8_⟩ := hb8_
  intro R ge hn
  have d7 : Mem [] w ge ([(BK C 26 [SL S d.Routes N, SL T d.Enabled O, SL U d.Raised P, SL V d.Cpus Q]), (BK D 48 [iv g.Kind, iv g.Irq, iv g.Cpu, iv g.Value]), a6, a7, a8, a9, ba, am, an, ao, ap, aq, (BK o 32 [SL I b.1.Routes E, SL J b.1.Enabled F, SL K b.1.Raised G, SL L b.1.Cpus H]), ct, cu, cv, cw, cx, (BK aw 32 [SL ai l.Routes ae, SL aj l.Enabled af, SL ak l.Raised ag, SL al l.Cpus ah])] ++ ([[]] ++ ([(bh 8)] ++ ([] ++ R)))) := hn
  rw [hs8_] at d7
  replace d7 : Mem [] w ge ([(BK C 26 [SL S d.Routes N, SL T d.Enabled O, SL U d.Raised P, SL V d.Cpus Q]), (BK D 48 [iv g.Kind, iv g.Irq, iv g.Cpu, iv g.Value]), a6, a7, a8, a9, ba, am, an, ao, ap, aq, (BK o 32 [SL I b.1.Routes E, SL J b.1.Enabled F, SL K b.1.Raised G, SL L b.1.Cpus H]), ct, cu, cv, cw, cx, (BK aw 32 [SL ai l.Routes ae, SL aj l.Enabled af, SL ak l.Raised ag, SL al l.Cpus ah])] ++ ([[]] ++ ([(BK n 32 [SN, SN, SN, SN])] ++ ([] ++ R)))) := d7.permF (by simp)
  exact wS true 4 0 (.agg #[SL y c.1.Routes q, SL z c.1.Enabled t, SL A c.1.Raised u, SL B c.1.Cpus x]) 20 [SL y c.1.Routes q, SL z c.1.Enabled t, SL A c.1.Raised u, SL B c.1.Cpus x] d7 rfl fun kt ho => WN (ob_none (BK n 32 [SL y c.1.Routes q, SL z c.1.Enabled t, SL A c.1.Raised u, SL B c.1.Cpus x]) rfl ⟨rfl, by kernel_rfl⟩ (Mem.takeOver ho))
 ·rintro bh cd v6_ ⟨rfl, _⟩ R ju hp
  exact OM ⟨rfl, rfl⟩ hp
 intro bh cd v8_ hb8_
 obtain ⟨_, n, rfl, hs8_⟩ := hb8_
 intro v3_ hb3_
 obtain ⟨y, q, bb, z, t, bc, A, u, bd, B, x, be, bf, rfl, hs3_, dt, du, dv, dw⟩ := hb3_
 rintro v7_ ⟨rfl, _⟩ v9_ hb9_
 obtain ⟨rfl, hs9_⟩ := hb9_
 replace hs9_ := hs9_.trans (show _ = (BK n 32 [SL y c.1.Routes q, SL z c.1.Enabled t, SL A c.1.Raised u, SL B c.1.Cpus x]) by kernel_rfl)
 rintro v10_ ⟨rfl, _⟩ c9 hq
 have bg : Mem [] w c9 [(BK C 26 [SL S d.Routes N, SL T d.Enabled O, SL U d.Raised P, SL V d.Cpus Q]), (BK D 48 [iv g.Kind, iv g.Irq, iv g.Cpu, iv g.Value]), a6, a7, a8, a9, ba, am, an, ao, ap, aq, (BK o 32 [SL I b.1.Routes E, SL J b.1.Enabled F, SL K b.1.Raised G, SL L b.1.Cpus H]), ct, cu, cv, cw, cx, (BK aw 32 [SL ai l.Routes ae, SL aj l.Enabled af, SL ak l.Raised ag, SL al l.Cpus ah]), bb, bc, bd, be, bf, (BK n 32 [SL y c.1.Routes q, SL z c.1.Enabled t, SL A c.1.Raised u, SL B c.1.Cpus x])] := hq.permF (by simp [hs3_, hs9_, SL])
 refine MW 1 (NE (GS (GD hm fun gc ib h8 => G_meet (fun a w' => Mem [] w w' [(BK C 26 [SL S d.Routes N, SL T d.Enabled O, SL U d.Raised P, SL V d.Cpus Q]), (BK D 48 [iv g.Kind, iv g.Irq, iv g.Cpu, iv g.Value]), am, an, ao, ap, aq, (BK o 32 [SL I b.1.Routes E, SL J b.1.Enabled F, SL K b.1.Raised G, SL L b.1.Cpus H]), ct, cu, cv, cw, cx, (BK aw 32 [SL ai l.Routes ae, SL aj l.Enabled af, SL ak l.Raised ag, SL al l.Cpus ah]), bb, bc, bd, be, bf, (BK n 32 [SL y c.1.Routes q, SL z c.1.Enabled t, SL A c.1.Raised u, SL B c.1.Cpus x])] ∧ Sat Tryz.f8.ntmps [(2, pB C 0), (3, pB D 0), (6, pB o 0), (7, iv b.2.1), (8, .bool b.2.2), (9, pB aw 0), (10, pB n 0), (11, iv c.2.1), (12, .bool c.2.2), (56, .bool gc)] a) ?_ ?_)))
 ·have hm := ib
  refine GR (wV (.agg #[SL y c.1.Routes q, SL z c.1.Enabled t, SL A c.1.Raised u, SL B c.1.Cpus x]) c9 (eL true 4 0 (bg.blk 24 rfl)) (wV (.agg #[SL I b.1.Routes E, SL J b.1.Enabled F, SL K b.1.Raised G, SL L b.1.Cpus H]) c9 (eL true 4 0 (bg.blk 12 rfl)) (GD hm fun i4 io hm => WD (c_l_eqMachine c9 c.1 y q (dt.r bg 19) z t (du.r bg 20) A u (dv.r bg 21) B x (dw.r2 bg 22 23) b.1 I E (dp.r bg 7) J F (dq.r bg 8) K G (dr.r bg 9) L H (ds.r2 bg 10 11) io) bg fun d0 ej => wR 2 [(2, pB C 0), (3, pB D 0), (6, pB o 0), (7, iv b.2.1), (8, .bool b.2.2), (9, pB aw 0), (10, pB n 0), (11, iv c.2.1), (12, .bool c.2.2), (47, .bool (!i4))] d0 ?_)))
  rcases gx_bif hm with ⟨er, hm⟩ | ⟨er, hm⟩
  ·refine wK 47 true er (MW 9 (WN ?_))
   obtain rfl := HS hm
   exact NM fun a ha => ⟨ej.pk [0, 1, 7, 8, 9, 10, 11, 12, 13, 14, 15, 16, 17, 18, 19, 20, 21, 22, 23, 24], ha.s⟩
  refine wK 47 false er (wR 5 [(2, pB C 0), (3, pB D 0), (6, pB o 0), (7, iv b.2.1), (8, .bool b.2.2), (9, pB aw 0), (10, pB n 0), (11, iv c.2.1), (12, .bool c.2.2), (52, .bool (c.2.1 != b.2.1))] d0 ?_)
  rcases gx_bif hm with ⟨es, hm⟩ | ⟨es, hm⟩
  ·refine wK 52 true es (MW 4 (WN ?_))
   obtain rfl := HS hm
   exact NM fun a ha => ⟨ej.pk [0, 1, 7, 8, 9, 10, 11, 12, 13, 14, 15, 16, 17, 18, 19, 20, 21, 22, 23, 24], ha.s⟩
  refine wK 52 false es (MW 4 (WN ?_))
  obtain rfl := HS hm
  exact NM fun a ha => ⟨ej.pk [0, 1, 7, 8, 9, 10, 11, 12, 13, 14, 15, 16, 17, 18, 19, 20, 21, 22, 23, 24], ha.s⟩
 intro j8 jv ⟨f1, h5⟩
 refine N_use h5 ?_
 have hm := h8
 refine TN (GT hm (fun et hm => ?_) fun et hm => ?_)
 ·refine QA (MW 1 (ND ?_))
  obtain rfl := HS hm
  exact RA [.bool false] (⟨rfl, f1.pk []⟩)
 refine GK (TN (GS (GS (GD hm fun au ip hm => GU [(2, pB C 0), (3, pB D 0), (6, pB o 0), (7, iv b.2.1), (8, .bool b.2.2), (9, pB aw 0), (10, pB n 0), (11, iv c.2.1), (12, .bool c.2.2), (56, .bool gc)] (DL 3 [[],[],[1]] (EM 3) (EM 3) (EM 3) (EM 3) (EM 3) (fun _ => []) [QV (.agg #[SL ai l.Routes ae, SL aj l.Enabled af, SL ak l.Raised ag, SL al l.Cpus ah]), QV (.agg #[SL S d.Routes N, SL T d.Enabled O, SL U d.Raised P, SL V d.Cpus Q]), fun f v s => ∃ ce b9 ci cf ca cj cg cb ck ch cc cl cm, v = (.agg #[SL ce au.Routes b9, SL cf au.Enabled ca, SL cg au.Raised cb, SL ch au.Cpus cc] : Value) ∧ s = (ci ++ (cj ++ (ck ++ (cl ++ cm)))) ∧ ownS encRoute au.Routes ce b9 ci ∧ ownS Gx.encB au.Enabled cf ca cj ∧ ownS Gx.encB au.Raised cg cb ck ∧ ownD deepInterface au.Cpus ch cc cl cm] [] [0, 2] [2] (f1.preNil 3) (AC ?_ (AC ?_ (AC ?_ AN))) ?_)))))
 ·intro d9 eo R jw f2
  exact OV ⟨rfl, rfl⟩ (eL true 4 0 (f2.blk 13 rfl)) f2
 ·intro d9 eo R jx f3
  exact OV ⟨rfl, rfl⟩ (eL true 4 0 (f3.blk 0 rfl)) f3
 ·rintro d9 eo v1_ ⟨rfl, _⟩ R jy dg
  refine WC ((c_l_toMachine jy d S N (dk.mem0 dg) T O (dl.mem0 dg) U P (dm.mem0 dg) V Q (dn.mem0 dg) ip).mono ?_)
  rintro e_ ku ⟨ce, b9, ci, cf, ca, cj, cg, cb, ck, ch, cc, cl, cm, rfl, fi, fj, fk, fl, go⟩
  refine ⟨_, rfl, ?_⟩
  exact WN (oE (.agg #[SL ce au.Routes b9, SL cf au.Enabled ca, SL cg au.Raised cb, SL ch au.Cpus cc]) (ci ++ (cj ++ (ck ++ (cl ++ cm)))) ⟨ce, b9, ci, cf, ca, cj, cg, cb, ck, ch, cc, cl, cm, rfl, rfl, fi, fj, fk, fl⟩ (Mem.callMid dg (go.permF (by simp))))
 rintro d9 eo v0_ ⟨rfl, _⟩ v2_ hb2_
 obtain ⟨ce, b9, ci, cf, ca, cj, cg, cb, ck, ch, cc, cl, cm, rfl, hs2_, fi, fj, fk, fl⟩ := hb2_
 intro ft hr
 have bi : Mem [] w ft [(BK C 26 [SL S d.Routes N, SL T d.Enabled O, SL U d.Raised P, SL V d.Cpus Q]), (BK D 48 [iv g.Kind, iv g.Irq, iv g.Cpu, iv g.Value]), am, an, ao, ap, aq, (BK o 32 [SL I b.1.Routes E, SL J b.1.Enabled F, SL K b.1.Raised G, SL L b.1.Cpus H]), ct, cu, cv, cw, cx, (BK aw 32 [SL ai l.Routes ae, SL aj l.Enabled af, SL ak l.Raised ag, SL al l.Cpus ah]), bb, bc, bd, be, bf, (BK n 32 [SL y c.1.Routes q, SL z c.1.Enabled t, SL A c.1.Raised u, SL B c.1.Cpus x]), ci, cj, ck, cl, cm] := hr.permF (by simp [hs2_, SL])
 refine GD hm fun i5 iq hm => WD (c_l_eqMachine ft l ai ae (fe.r bi 8) aj af (ff.r bi 9) ak ag (fg.r bi 10) al ah (fh.r2 bi 11 12) au ce b9 (fi.r bi 20) cf ca (fj.r bi 21) cg cb (fk.r bi 22) ch cc (fl.r2 bi 23 24) iq) bi fun da dh => MW 1 (NO (GT hm (fun eu hm => ?_) fun eu hm => ?_))
 ·refine QA (MW 1 (ND ?_))
  obtain rfl := HS hm
  exact RA [.bool false] (⟨rfl, dh.pk []⟩)
 refine KA (MW 1 (NA (wV (.agg #[SL ai l.Routes ae, SL aj l.Enabled af, SL ak l.Raised ag, SL al l.Cpus ah]) da (eL true 4 0 (dh.blk 13 rfl)) (MW 1 (GD hm fun cn ir hm => WC ((c_l_markMachine da l ai ae ct fe aj af cu ff ak ag cv fg al ah cw cx fh 1 (dh.hasPick [8, 9, 10, 11, 12]) (dh.nodupPick [8, 9, 10, 11, 12] (by kernel_rfl)) ir).mono ?_))))))
 rintro e_ c6 ⟨i8, i9, ja, jb, jc, rfl, kb, e6, kc, e7, kd, e8, ke, e9, gq⟩
 have hs := dh.callF' [8, 9, 10, 11, 12] [0, 1, 2, 3, 4, 5, 6, 7, 13, 14, 15, 16, 17, 18, 19, 20, 21, 22, 23, 24] (by kernel_rfl) gq
 refine ⟨_, rfl, ?_⟩
 refine wX 62 (.agg #[.slice ai l.Routes.length ae, .slice aj l.Enabled.length af, .slice ak l.Raised.length ag, .slice al l.Cpus.length ah]) (.agg #[.slice ai cn.2.1.length ae, .slice aj cn.2.2.1.length af, .slice ak cn.2.2.2.1.length ag, .slice al cn.2.2.2.2.length ah]) (by first | rw [e6, e7, e8, e9] | rw [e6] | rw [e7] | rw [e8] | rw [e9]) ?_
 have bj : Mem [] w c6 [(BK C 26 [.slice S d.Routes.length N, .slice T d.Enabled.length O, .slice U d.Raised.length P, .slice V d.Cpus.length Q]), (BK D 48 [iv g.Kind, iv g.Irq, iv g.Cpu, iv g.Value]), am, an, ao, ap, aq, (BK o 32 [.slice I b.1.Routes.length E, .slice J b.1.Enabled.length F, .slice K b.1.Raised.length G, .slice L b.1.Cpus.length H]), (BK aw 32 [.slice ai cn.2.1.length ae, .slice aj cn.2.2.1.length af, .slice ak cn.2.2.2.1.length ag, .slice al cn.2.2.2.2.length ah]), bb, bc, bd, be, bf, (BK n 32 [.slice y c.1.Routes.length q, .slice z c.1.Enabled.length t, .slice A c.1.Raised.length u, .slice B c.1.Cpus.length x]), ci, cj, ck, cl, cm, i8, i9, ja, jb, jc] := by rw [e6, e7, e8, e9]; exact hs
 refine MW 1 (NE (GS (GD hm fun i2 ic h9 => G_meet (fun a w' => Mem [] w w' [(BK C 26 [SL S d.Routes N, SL T d.Enabled O, SL U d.Raised P, SL V d.Cpus Q]), (BK D 48 [iv g.Kind, iv g.Irq, iv g.Cpu, iv g.Value]), am, an, ao, ap, aq, (BK o 32 [SL I b.1.Routes E, SL J b.1.Enabled F, SL K b.1.Raised G, SL L b.1.Cpus H]), bb, bc, bd, be, bf, (BK n 32 [SL y c.1.Routes q, SL z c.1.Enabled t, SL A c.1.Raised u, SL B c.1.Cpus x])] ∧ Sat Tryz.f8.ntmps [(2, pB C 0), (3, pB D 0), (6, pB o 0), (7, iv b.2.1), (8, .bool b.2.2), (10, pB n 0), (82, .bool i2)] a) ?_ ?_)))
 ·have hm := ic
  refine GR (wR 3 [(2, pB C 0), (3, pB D 0), (6, pB o 0), (7, iv b.2.1), (8, .bool b.2.2), (10, pB n 0), (11, iv c.2.1), (12, .bool c.2.2), (67, .bool (decide (cn.1 < 0)))] c6 ?_)
  rcases gx_bif hm with ⟨ev, hm⟩ | ⟨ev, hm⟩
  ·refine wK 67 true ev (MW 15 (WN ?_))
   obtain rfl := HS hm
   exact NM fun a ha => ⟨bj.pk [0, 1, 2, 3, 4, 5, 6, 7, 9, 10, 11, 12, 13, 14], ha.s⟩
  refine wK 67 false ev (wV (.agg #[SL y c.1.Routes q, SL z c.1.Enabled t, SL A c.1.Raised u, SL B c.1.Cpus x]) c6 (eL true 4 0 (bj.blk 14 rfl)) (wV (.agg #[SL I b.1.Routes E, SL J b.1.Enabled F, SL K b.1.Raised G, SL L b.1.Cpus H]) c6 (eL true 4 0 (bj.blk 7 rfl)) (GD hm fun i6 it hm => WD (c_l_eqMachine c6 c.1 y q (dt.r bj 9) z t (du.r bj 10) A u (dv.r bj 11) B x (dw.r2 bj 12 13) b.1 I E (dp.r bj 2) J F (dq.r bj 3) K G (dr.r bj 4) L H (ds.r2 bj 5 6) it) bj fun d1 ek => wR 3 [(2, pB C 0), (3, pB D 0), (6, pB o 0), (7, iv b.2.1), (8, .bool b.2.2), (10, pB n 0), (11, iv c.2.1), (12, .bool c.2.2), (73, .bool (!i6))] d1 ?_)))
  rcases gx_bif hm with ⟨ew, hm⟩ | ⟨ew, hm⟩
  ·refine wK 73 true ew (MW 9 (WN ?_))
   obtain rfl := HS hm
   exact NM fun a ha => ⟨ek.pk [0, 1, 2, 3, 4, 5, 6, 7, 9, 10, 11, 12, 13, 14], ha.s⟩
  refine wK 73 false ew (wR 5 [(2, pB C 0), (3, pB D 0), (6, pB o 0), (7, iv b.2.1), (8, .bool b.2.2), (10, pB n 0), (12, .bool c.2.2), (78, .bool (c.2.1 != b.2.1))] d1 ?_)
  rcases gx_bif hm with ⟨ex, hm⟩ | ⟨ex, hm⟩
  ·refine wK 78 true ex (MW 4 (WN ?_))
   obtain rfl := HS hm
   exact NM fun a ha => ⟨ek.pk [0, 1, 2, 3, 4, 5, 6, 7, 9, 10, 11, 12, 13, 14], ha.s⟩
  refine wK 78 false ex (MW 4 (WN ?_))
  obtain rfl := HS hm
  exact NM fun a ha => ⟨ek.pk [0, 1, 2, 3, 4, 5, 6, 7, 9, 10, 11, 12, 13, 14], ha.s⟩
 intro j9 d2 ⟨di, h6⟩
 refine N_use h6 ?_
 have hm := h9
 refine TN (GT hm (fun ey hm => ?_) fun ey hm => ?_)
 ·refine QA (MW 1 (ND ?_))
  obtain rfl := HS hm
  exact RA [.bool false] (⟨rfl, di.pk []⟩)
 refine KA (MW 1 (NA (wV (.agg #[SL y c.1.Routes q, SL z c.1.Enabled t, SL A c.1.Raised u, SL B c.1.Cpus x]) d2 (eL true 4 0 (di.blk 13 rfl)) (MW 1 (GD hm fun m iu hm => WC ((c_l_markMachine d2 c.1 y q bb dt z t bc du A u bd dv B x be bf dw 1 (di.hasPick [8, 9, 10, 11, 12]) (di.nodupPick [8, 9, 10, 11, 12] (by kernel_rfl)) iu).mono ?_))))))
 rintro e_ db ⟨cy, cz, c0, c1, c2, rfl, f7, fa, f9, fb, ga, fc, gb, fd, gs⟩
 have ht := di.callF' [8, 9, 10, 11, 12] [0, 1, 2, 3, 4, 5, 6, 7, 13] (by kernel_rfl) gs
 refine ⟨_, rfl, ?_⟩
 refine wX 83 (.agg #[.slice y c.1.Routes.length q, .slice z c.1.Enabled.length t, .slice A c.1.Raised.length u, .slice B c.1.Cpus.length x]) (.agg #[.slice y m.2.1.length q, .slice z m.2.2.1.length t, .slice A m.2.2.2.1.length u, .slice B m.2.2.2.2.length x]) (by first | rw [fa, fb, fc, fd] | rw [fa] | rw [fb] | rw [fc] | rw [fd]) ?_
 have c8 : Mem [] w db [(BK C 26 [.slice S d.Routes.length N, .slice T d.Enabled.length O, .slice U d.Raised.length P, .slice V d.Cpus.length Q]), (BK D 48 [iv g.Kind, iv g.Irq, iv g.Cpu, iv g.Value]), am, an, ao, ap, aq, (BK o 32 [.slice I b.1.Routes.length E, .slice J b.1.Enabled.length F, .slice K b.1.Raised.length G, .slice L b.1.Cpus.length H]), (BK n 32 [.slice y m.2.1.length q, .slice z m.2.2.1.length t, .slice A m.2.2.2.1.length u, .slice B m.2.2.2.2.length x]), cy, cz, c0, c1, c2] := by rw [fa, fb, fc, fd]; exact ht
 refine MW 1 (NA (MW 1 (NA (wV (.agg #[SL y m.2.1 q, SL z m.2.2.1 t, SL A m.2.2.2.1 u, SL B m.2.2.2.2 x]) db (eL true 4 0 (c8.blk 8 rfl)) (MW 1 (GD hm fun dx iw hm => WD (c_l_heldMachine db (⟨m.2.1, m.2.2.1, m.2.2.2.1, m.2.2.2.2⟩ : Machine) y q (f7.r c8 9) z t (f9.r c8 10) A u (ga.r c8 11) B x (gb.r2 c8 12 13) 1 iw) c8 fun d3 el => MW 1 (NB (wR 2 [(2, pB C 0), (3, pB D 0), (6, pB o 0), (7, iv b.2.1), (8, .bool b.2.2), (10, pB n 0), (14, iv m.1), (15, iv dx), (90, .bool (decide (dx < 0)))] d3 (NO (GT hm (fun ez hm => ?_) fun ez hm => ?_))))))))))
 ·refine QA (MW 1 (ND ?_))
  obtain rfl := HS hm
  exact RA [.bool false] (⟨rfl, el.pk []⟩)
 refine KB (MW 3 (NO (GT hm (fun e0 hm => ?_) fun e0 hm => ?_)))
 ·refine QA (MW 1 (ND ?_))
  obtain rfl := HS hm
  exact RA [.bool false] (⟨rfl, el.pk []⟩)
 refine GK (TN (GS (GD hm fun av ix hm => GD hm fun a3 iy hm => GD hm fun k iz hm => GU [(2, pB C 0), (3, pB D 0), (6, pB o 0), (7, iv b.2.1), (8, .bool b.2.2), (10, pB n 0), (14, iv m.1), (93, .bool (dx != m.1))] (DL 12 [[],[0],[],[2],[1,3],[],[5],[5],[5],[],[6,9],[7]] [[],[],[],[],[],[],[],[],[],[],[9],[]] [[],[],[],[],[1],[],[],[],[],[],[],[]] [[],[],[],[],[],[4],[4],[4],[4],[],[4],[]] [[],[],[],[],[],[4],[4],[],[],[],[4,9],[]] (EM 12) (fun _ => []) [QV (.agg #[SL S d.Routes N, SL T d.Enabled O, SL U d.Raised P, SL V d.Cpus Q]), fun f v s => ∃ bz bo b3 b0 bp b4 b1 bq b5 b2 br b6 b7, v = (.agg #[SL bz av.Routes bo, SL b0 av.Enabled bp, SL b1 av.Raised bq, SL b2 av.Cpus br] : Value) ∧ s = (b3 ++ (b4 ++ (b5 ++ (b6 ++ b7)))) ∧ ownS encRoute av.Routes bz bo b3 ∧ ownS Gx.encB av.Enabled b0 bp b4 ∧ ownS Gx.encB av.Raised b1 bq b5 ∧ ownD deepInterface av.Cpus b2 br b6 b7, QV (.agg #[iv g.Kind, iv g.Irq, iv g.Cpu, iv g.Value]), QV (.agg #[iv a3.Kind, iv a3.Irq, iv a3.Cpu, iv a3.Value]), fun f v s => ∃ aa W co ab X cp ac Y cq ad Z cr cs, v = (.tuple #[.agg #[SL aa k.1.Routes W, SL ab k.1.Enabled X, SL ac k.1.Raised Y, SL ad k.1.Cpus Z], iv k.2.1, .bool k.2.2] : Value) ∧ s = (co ++ (cp ++ (cq ++ (cr ++ cs)))) ∧ ownS encRoute k.1.Routes aa W co ∧ ownS Gx.encB k.1.Enabled ab X cp ∧ ownS Gx.encB k.1.Raised ac Y cq ∧ ownD deepInterface k.1.Cpus ad Z cr cs, fun f v s => v = (.tuple #[.agg #[(atPath (f 4) [0, 0]), (atPath (f 4) [0, 1]), (atPath (f 4) [0, 2]), (atPath (f 4) [0, 3])], iv k.2.1, .bool k.2.2] : Value) ∧ s = [], fun f v s => v = (.agg #[(atPath (f 4) [0, 0]), (atPath (f 4) [0, 1]), (atPath (f 4) [0, 2]), (atPath (f 4) [0, 3])] : Value) ∧ s = [], QV (iv k.2.1), QV (.bool k.2.2), fun f v s => ∃ a5, v = (pB a5 0 : Value) ∧ s = (BK a5 32 [SN, SN, SN, SN]), fun f v s => v = undef ∧ s = [((blkOf (f 9)), .cells ⟨[(atPath (f 4) [0, 0]), (atPath (f 4) [0, 1]), (atPath (f 4) [0, 2]), (atPath (f 4) [0, 3])]⟩ 32 (0, 0))], QV (iv k.2.1)] [9] [1, 4, 8, 10, 11] [1, 4, 10] (el.preNil 12) (AC ?_ (AC ?_ (AC ?_ (AC ?_ (AC ?_ (AC ?_ (AC ?_ (AC ?_ (AC ?_ (AC ?_ (AC ?_ (AC ?_ AN)))))))))))) ?_))))
 ·intro ay bt R jz f4
  exact OV ⟨rfl, rfl⟩ (eL true 4 0 (f4.blk 0 rfl)) f4
 ·rintro ay bt v0_ ⟨rfl, _⟩ R j0 dj
  refine WC ((c_l_toMachine j0 d S N (dk.mem0 dj) T O (dl.mem0 dj) U P (dm.mem0 dj) V Q (dn.mem0 dj) ix).mono ?_)
  rintro e_ kv ⟨bz, bo, b3, b0, bp, b4, b1, bq, b5, b2, br, b6, b7, rfl, ee, ef, eg, eh, gu⟩
  refine ⟨_, rfl, ?_⟩
  exact WN (oE (.agg #[SL bz av.Routes bo, SL b0 av.Enabled bp, SL b1 av.Raised bq, SL b2 av.Cpus br]) (b3 ++ (b4 ++ (b5 ++ (b6 ++ b7)))) ⟨bz, bo, b3, b0, bp, b4, b1, bq, b5, b2, br, b6, b7, rfl, rfl, ee, ef, eg, eh⟩ (Mem.callMid dj (gu.permF (by simp))))
 ·intro ay bt R j1 f5
  exact OV ⟨rfl, rfl⟩ (eL true 4 0 (f5.blk 1 rfl)) f5
 ·rintro ay bt v2_ ⟨rfl, _⟩ R j2 hu
  refine WC ((c_l_toMachStep j2 g iy).mono ?_)
  rintro e_ kw ⟨rfl, gv⟩
  refine ⟨_, rfl, ?_⟩
  exact WN (oE (.agg #[iv a3.Kind, iv a3.Irq, iv a3.Cpu, iv a3.Value]) [] ⟨rfl, rfl⟩ (hu.call0 gv))
 ·intro ay bt v1_ hb1_
  obtain ⟨bz, bo, b3, b0, bp, b4, b1, bq, b5, b2, br, b6, b7, rfl, hs1_, ee, ef, eg, eh⟩ := hb1_
  rintro v3_ ⟨rfl, _⟩ R fu f6
  have c4 : Mem [] w fu ([(BK C 26 [SL S d.Routes N, SL T d.Enabled O, SL U d.Raised P, SL V d.Cpus Q]), (BK D 48 [iv g.Kind, iv g.Irq, iv g.Cpu, iv g.Value]), am, an, ao, ap, aq, (BK o 32 [SL I b.1.Routes E, SL J b.1.Enabled F, SL K b.1.Raised G, SL L b.1.Cpus H]), (BK n 32 [SL y m.2.1 q, SL z m.2.2.1 t, SL A m.2.2.2.1 u, SL B m.2.2.2.2 x]), cy, cz, c0, c1, c2] ++ ([[]] ++ ([(ay 1)] ++ ([] ++ R)))) := f6
  rw [hs1_] at c4
  replace c4 : Mem [] w fu ([(BK C 26 [SL S d.Routes N, SL T d.Enabled O, SL U d.Raised P, SL V d.Cpus Q]), (BK D 48 [iv g.Kind, iv g.Irq, iv g.Cpu, iv g.Value]), am, an, ao, ap, aq, (BK o 32 [SL I b.1.Routes E, SL J b.1.Enabled F, SL K b.1.Raised G, SL L b.1.Cpus H]), (BK n 32 [SL y m.2.1 q, SL z m.2.2.1 t, SL A m.2.2.2.1 u, SL B m.2.2.2.2 x]), cy, cz, c0, c1, c2] ++ ([[]] ++ ([b3, b4, b5, b6, b7] ++ ([] ++ R)))) := c4.permF (by simp)
  refine WC ((c_i_StepMachine fu av bz bo (ee.r c4 15) b0 bp (ef.r c4 16) b1 bq (eg.r c4 17) b2 br (eh.r2 c4 18 19) a3 iz).mono ?_)
  rintro e_ kx ⟨aa, W, co, ab, X, cp, ac, Y, cq, ad, Z, cr, cs, rfl, fm, fn, fo, fp, gw⟩
  refine ⟨_, rfl, ?_⟩
  exact WN (oE (.tuple #[.agg #[SL aa k.1.Routes W, SL ab k.1.Enabled X, SL ac k.1.Raised Y, SL ad k.1.Cpus Z], iv k.2.1, .bool k.2.2]) (co ++ (cp ++ (cq ++ (cr ++ cs)))) ⟨aa, W, co, ab, X, cp, ac, Y, cq, ad, Z, cr, cs, rfl, rfl, fm, fn, fo, fp⟩ (Mem.callMid f6 (gw.permF (by simp))))
 ·intro ay bt v4_ hb4_
  obtain ⟨_, aa, W, _, ab, X, _, ac, Y, _, ad, Z, _, _, rfl, _⟩ := hb4_
  intro R j3 hv
  exact OM ⟨rfl, rfl⟩ hv
 ·intro ay bt v4_ hb4_
  obtain ⟨_, aa, W, _, ab, X, _, ac, Y, _, ad, Z, _, _, rfl, _⟩ := hb4_
  intro v5_ hb5_
  obtain ⟨hv5_, _⟩ := hb5_
  obtain rfl : v5_ = (.tuple #[.agg #[SL aa k.1.Routes W, SL ab k.1.Enabled X, SL ac k.1.Raised Y, SL ad k.1.Cpus Z], iv k.2.1, .bool k.2.2] : Value) := hv5_.trans (by kernel_rfl)
  intro R j4 hw
  exact OM ⟨rfl, rfl⟩ hw
 ·intro ay bt v4_ hb4_
  obtain ⟨_, aa, W, _, ab, X, _, ac, Y, _, ad, Z, _, _, rfl, _⟩ := hb4_
  intro v5_ hb5_
  obtain ⟨hv5_, _⟩ := hb5_
  obtain rfl : v5_ = (.tuple #[.agg #[SL aa k.1.Routes W, SL ab k.1.Enabled X, SL ac k.1.Raised Y, SL ad k.1.Cpus Z], iv k.2.1, .bool k.2.2] : Value) := hv5_.trans (by kernel_rfl)
  intro R j5 hx
  exact OM ⟨rfl, rfl⟩ hx
 ·intro ay bt v4_ hb4_
  obtain ⟨_, aa, W, _, ab, X, _, ac, Y, _, ad, Z, _, _, rfl, _⟩ := hb4_
  intro v5_ hb5_
  obtain ⟨hv5_, _⟩ := hb5_
  obtain rfl : v5_ = (.tuple #[.agg #[SL aa k.1.Routes W, SL ab k.1.Enabled X, SL ac k.1.Raised Y, SL ad k.1.Cpus Z], iv k.2.1, .bool k.2.2] : Value) := hv5_.trans (by kernel_rfl)
  intro R j6 hy
  exact OM ⟨rfl, rfl⟩ hy
 ·intro ay bt R ky hz
  exact wN (CE 32 [SN, SN, SN, SN]) hz fun a5 kz h0 => WN (oE (pB a5 0) (BK a5 32 [SN, SN, SN, SN]) ⟨a5, rfl, rfl⟩ (Mem.mid h0))
 ·intro ay bt v4_ hb4_
  obtain ⟨_, aa, W, _, ab, X, _, ac, Y, _, ad, Z, _, _, rfl, _⟩ := hb4_
  intro v6_ hb6_
  obtain ⟨hv6_, _⟩ := hb6_
  obtain rfl : v6_ = (.agg #[SL aa k.1.Routes W, SL ab k.1.Enabled X, SL ac k.1.Raised Y, SL ad k.1.Cpus Z] : Value) := hv6_.trans (by kernel_rfl)
  intro v9_ hb9_
  obtain ⟨a5, rfl, hs9_⟩ := hb9_
  intro R gf h1
  have d8 : Mem [] w gf ([(BK C 26 [SL S d.Routes N, SL T d.Enabled O, SL U d.Raised P, SL V d.Cpus Q]), (BK D 48 [iv g.Kind, iv g.Irq, iv g.Cpu, iv g.Value]), am, an, ao, ap, aq, (BK o 32 [SL I b.1.Routes E, SL J b.1.Enabled F, SL K b.1.Raised G, SL L b.1.Cpus H]), (BK n 32 [SL y m.2.1 q, SL z m.2.2.1 t, SL A m.2.2.2.1 u, SL B m.2.2.2.2 x]), cy, cz, c0, c1, c2] ++ ([[]] ++ ([(ay 9)] ++ ([] ++ R)))) := h1
  rw [hs9_] at d8
  replace d8 : Mem [] w gf ([(BK C 26 [SL S d.Routes N, SL T d.Enabled O, SL U d.Raised P, SL V d.Cpus Q]), (BK D 48 [iv g.Kind, iv g.Irq, iv g.Cpu, iv g.Value]), am, an, ao, ap, aq, (BK o 32 [SL I b.1.Routes E, SL J b.1.Enabled F, SL K b.1.Raised G, SL L b.1.Cpus H]), (BK n 32 [SL y m.2.1 q, SL z m.2.2.1 t, SL A m.2.2.2.1 u, SL B m.2.2.2.2 x]), cy, cz, c0, c1, c2] ++ ([[]] ++ ([(BK a5 32 [SN, SN, SN, SN])] ++ ([] ++ R)))) := d8.permF (by simp)
  exact wS true 4 0 (.agg #[SL aa k.1.Routes W, SL ab k.1.Enabled X, SL ac k.1.Raised Y, SL ad k.1.Cpus Z]) 15 [SL aa k.1.Routes W, SL ab k.1.Enabled X, SL ac k.1.Raised Y, SL ad k.1.Cpus Z] d8 rfl fun k0 h2 => WN (ob_none (BK a5 32 [SL aa k.1.Routes W, SL ab k.1.Enabled X, SL ac k.1.Raised Y, SL ad k.1.Cpus Z]) rfl ⟨rfl, by kernel_rfl⟩ (Mem.takeOver h2))
 ·rintro ay bt v7_ ⟨rfl, _⟩ R j7 h3
  exact OM ⟨rfl, rfl⟩ h3
 intro ay bt v9_ hb9_
 obtain ⟨_, a5, rfl, hs9_⟩ := hb9_
 intro v1_ hb1_
 obtain ⟨bz, bo, b3, b0, bp, b4, b1, bq, b5, b2, br, b6, b7, rfl, hs1_, ee, ef, eg, eh⟩ := hb1_
 intro v4_ hb4_
 obtain ⟨aa, W, co, ab, X, cp, ac, Y, cq, ad, Z, cr, cs, rfl, hs4_, fm, fn, fo, fp⟩ := hb4_
 rintro v8_ ⟨rfl, _⟩ v10_ hb10_
 obtain ⟨rfl, hs10_⟩ := hb10_
 replace hs10_ := hs10_.trans (show _ = (BK a5 32 [SL aa k.1.Routes W, SL ab k.1.Enabled X, SL ac k.1.Raised Y, SL ad k.1.Cpus Z]) by kernel_rfl)
 rintro v11_ ⟨rfl, _⟩ dc h4
 have a4 : Mem [] w dc [(BK C 26 [SL S d.Routes N, SL T d.Enabled O, SL U d.Raised P, SL V d.Cpus Q]), (BK D 48 [iv g.Kind, iv g.Irq, iv g.Cpu, iv g.Value]), am, an, ao, ap, aq, (BK o 32 [SL I b.1.Routes E, SL J b.1.Enabled F, SL K b.1.Raised G, SL L b.1.Cpus H]), (BK n 32 [SL y m.2.1 q, SL z m.2.2.1 t, SL A m.2.2.2.1 u, SL B m.2.2.2.2 x]), cy, cz, c0, c1, c2, b3, b4, b5, b6, b7, co, cp, cq, cr, cs, (BK a5 32 [SL aa k.1.Routes W, SL ab k.1.Enabled X, SL ac k.1.Raised Y, SL ad k.1.Cpus Z])] := h4.permF (by simp [hs1_, hs4_, hs10_, SL])
 refine MW 1 (NE (GS (GD hm fun i3 ie ia => G_meet (fun a w' => Mem [] w w' [(BK n 32 [SL y m.2.1 q, SL z m.2.2.1 t, SL A m.2.2.2.1 u, SL B m.2.2.2.2 x]), cy, cz, c0, c1, c2] ∧ Sat Tryz.f8.ntmps [(10, pB n 0), (14, iv m.1), (116, .bool i3)] a) ?_ ?_)))
 ·have hm := ie
  refine GR (wV (.agg #[SL aa k.1.Routes W, SL ab k.1.Enabled X, SL ac k.1.Raised Y, SL ad k.1.Cpus Z]) dc (eL true 4 0 (a4.blk 24 rfl)) (wV (.agg #[SL I b.1.Routes E, SL J b.1.Enabled F, SL K b.1.Raised G, SL L b.1.Cpus H]) dc (eL true 4 0 (a4.blk 7 rfl)) (GD hm fun i7 i0 hm => WD (c_l_eqMachine dc k.1 aa W (fm.r a4 19) ab X (fn.r a4 20) ac Y (fo.r a4 21) ad Z (fp.r2 a4 22 23) b.1 I E (dp.r a4 2) J F (dq.r a4 3) K G (dr.r a4 4) L H (ds.r2 a4 5 6) i0) a4 fun d4 em => wR 2 [(7, iv b.2.1), (8, .bool b.2.2), (10, pB n 0), (14, iv m.1), (17, iv k.2.1), (18, .bool k.2.2), (107, .bool (!i7))] d4 ?_)))
  rcases gx_bif hm with ⟨e1, hm⟩ | ⟨e1, hm⟩
  ·refine wK 107 true e1 (MW 9 (WN ?_))
   obtain rfl := HS hm
   exact NM fun a ha => ⟨em.pk [8, 9, 10, 11, 12, 13], ha.s⟩
  refine wK 107 false e1 (wR 5 [(8, .bool b.2.2), (10, pB n 0), (14, iv m.1), (18, .bool k.2.2), (112, .bool (k.2.1 != b.2.1))] d4 ?_)
  rcases gx_bif hm with ⟨e2, hm⟩ | ⟨e2, hm⟩
  ·refine wK 112 true e2 (MW 4 (WN ?_))
   obtain rfl := HS hm
   exact NM fun a ha => ⟨em.pk [8, 9, 10, 11, 12, 13], ha.s⟩
  refine wK 112 false e2 (MW 4 (WN ?_))
  obtain rfl := HS hm
  exact NM fun a ha => ⟨em.pk [8, 9, 10, 11, 12, 13], ha.s⟩
 intro ka d5 ⟨c5, h7⟩
 refine N_use h7 ?_
 have hm := ia
 refine TN (GT hm (fun e3 hm => ?_) fun e3 hm => ?_)
 ·refine QA (MW 1 (ND ?_))
  obtain rfl := HS hm
  exact RA [.bool false] (⟨rfl, c5.pk []⟩)
 refine KA (MW 1 (NA (wV (.agg #[SL y m.2.1 q, SL z m.2.2.1 t, SL A m.2.2.2.1 u, SL B m.2.2.2.2 x]) d5 (eL true 4 0 (c5.blk 0 rfl)) (MW 1 (GD hm fun ei i1 hm => WD (c_l_heldMachine d5 (⟨m.2.1, m.2.2.1, m.2.2.2.1, m.2.2.2.2⟩ : Machine) y q (f7.r c5 1) z t (f9.r c5 2) A u (ga.r c5 3) B x (gb.r2 c5 4 5) 1 i1) c5 fun dd en => MW 1 (NB (MW 2 (NO (GT hm (fun e4 hm => ?_) fun e4 hm => ?_)))))))))
 ·refine QA (MW 1 (ND ?_))
  obtain rfl := HS hm
  exact RA [.bool false] (⟨rfl, en.pk []⟩)
 refine KB (wR 3 [(124, .bool (ei != m.1))] dd (NO (GT hm (fun e5 hm => ?_) fun e5 hm => ?_)))
 ·refine QA (MW 1 (ND ?_))
  obtain rfl := HS hm
  exact RA [.bool false] (⟨rfl, en.pk []⟩)
 refine KA (MW 1 (NC ?_))
 obtain rfl := HS hm
 exact RA [.bool true] (⟨rfl, en.pk []⟩)
end Go.Proofs.YtllhajkgkghhdaaGreat
set_option linter.unusedVariables false
set_option linter.unusedSimpArgs false
namespace Go.Gx
theorem w64_id {z : Int} (h1 : -9223372036854775808 ≤ z) (h2 : z ≤ 9223372036854775807) : w64 z = z := by
  unfold w64
  simp [IntKind.wrap, IntKind.bits, IntKind.signed, Int.bmod]
  omega
theorem while_for {σ ρ : Type} {body : σ → Option (σ ⊕ ρ)} (st : Nat → σ) (r : ρ) : ∀ (n k fuel : Nat), (∀ i, k ≤ i → i < k + n → body (st i) = some (.inl (st (i + 1)))) → body (st (k + n)) = some (.inr r) → n < fuel → whileM body fuel (st k) = some r
  | 0, k, fuel, _, he, hf => by
    obtain ⟨m, rfl⟩ : ∃ m, fuel = m + 1 := ⟨fuel - 1, by omega⟩
    rw [Nat.add_zero] at he
    simp only [whileM, he]
  | n + 1, k, fuel, h, he, hf => by
    obtain ⟨m, rfl⟩ : ∃ m, fuel = m + 1 := ⟨fuel - 1, by omega⟩
    simp only [whileM, h k (Nat.le_refl _) (by omega)]
    exact while_for st r n (k + 1) m (fun i h1 h2 => h i (by omega) (by omega)) (by rw [show k + 1 + n = k + (n + 1) by omega]; exact he) (by omega)
theorem while_run {σ ρ : Type} {body : σ → Option (σ ⊕ ρ)} {s0 : σ} (st : Nat → σ) (r : ρ) (n : Nat) (h0 : s0 = st 0) (hn : n ≤ 4611686018427387904) (h : ∀ i, i < n → body (st i) = some (.inl (st (i + 1)))) (he : body (st n) = some (.inr r)) : whileM body gxFuel s0 = some r := by
  rw [h0]
  exact while_for st r n 0 gxFuel (fun i _ h2 => h i (by omega)) (by rw [Nat.zero_add]; exact he) (by unfold gxFuel; omega)
theorem gxIdx_nat {α : Type} {xs : List α} {i : Nat} (h : i < xs.length) : gxIdx xs (i : Int) = some xs[i] := by
  unfold gxIdx
  rw [if_pos (by omega), Int.toNat_natCast, List.getElem?_eq_getElem h]
theorem w64_succ {i : Nat} (h : i ≤ 4611686018427387904) : w64 ((i : Int) + 1) = ((i + 1 : Nat) : Int) := by
  rw [w64_id (by omega) (by omega)]; omega
def marks (k n : Nat) : List Int := (List.range n).map fun i => ((k + i : Nat) : Int)
theorem marks_length (k n : Nat) : (marks k n).length = n := by simp [marks]
theorem marks_get {k n i : Nat} (h : i < (marks k n).length) : (marks k n)[i] = ((k + i : Nat) : Int) := by simp [marks]
def marked (k : Nat) (xs : List Int) (i : Nat) : List Int := marks k i ++ xs.drop i
theorem marked_length {k : Nat} {xs : List Int} {i : Nat} (h : i ≤ xs.length) : (marked k xs i).length = xs.length := by
  simp [marked, marks_length]; omega
theorem marked_set {k : Nat} {xs : List Int} {i : Nat} (h : i < xs.length) : (marked k xs i).set i ((k + i : Nat) : Int) = marked k xs (i + 1) := by
  unfold marked
  rw [List.set_append_right _ _ (by simp [marks_length]), marks_length, Nat.sub_self, List.drop_eq_getElem_cons h, List.set_cons_zero]
  unfold marks
  rw [List.range_succ, List.map_append, List.append_assoc]
  rfl
theorem marked_all {k : Nat} {xs : List Int} : marked k xs xs.length = marks k xs.length := by simp [marked]
theorem marked_zero {k : Nat} {xs : List Int} : marked k xs 0 = xs := by simp [marked, marks]
def taken {α : Type} (xs : List α) (z : α) (i : Nat) : List α := xs.take i ++ List.replicate (xs.length - i) z
theorem taken_length {α : Type} {xs : List α} {z : α} {i : Nat} (h : i ≤ xs.length) : (taken xs z i).length = xs.length := by
  simp [taken]; omega
theorem taken_set {α : Type} {xs : List α} {z : α} {i : Nat} (h : i < xs.length) : (taken xs z i).set i xs[i] = taken xs z (i + 1) := by
  unfold taken
  have h1 : (xs.take i).length = i := by simp; omega
  rw [List.set_append_right _ _ (by omega), h1, Nat.sub_self, show xs.length - i = (xs.length - (i + 1)) + 1 by omega, List.replicate_succ, List.set_cons_zero, List.take_add_one, List.getElem?_eq_getElem h, List.append_assoc]
  rfl
theorem taken_all {α : Type} {xs : List α} {z : α} : taken xs z xs.length = xs := by simp [taken]
theorem taken_zero {α : Type} {xs : List α} {z : α} : taken xs z 0 = List.replicate xs.length z := by simp [taken]
theorem gxMake_nat {α : Type} {B : Nat} {n : Nat} {z : α} (h : n * B ≤ 140737488355328) : gxMake B (n : Int) z = some (List.replicate n z) := by
  unfold gxMake
  rw [if_pos ⟨by omega, by rw [← Int.natCast_mul]; omega⟩, Int.toNat_natCast]
theorem gxApp_ok {α : Type} {B : Nat} {xs ys : List α} (h : (xs.length + ys.length) * B ≤ 140737488355328) : gxApp B xs ys = some (xs ++ ys) := by
  unfold gxApp
  rw [if_pos h]
def okI (n : Int) : Prop := -9223372036854775808 ≤ n ∧ n ≤ 9223372036854775807
def okB (_ : Bool) : Prop := True
def okS (s : ByteArray) : Prop := s.size ≤ maxLen
def okL {α : Type} (ok : α → Prop) (xs : List α) : Prop := xs.length ≤ 9223372036854775807 ∧ ∀ x ∈ xs, ok x
end Go.Gx
set_option linter.unusedVariables false
set_option linter.unusedSimpArgs false
set_option maxHeartbeats 4000000
namespace Go.Proofs.YtllhajkgkghhdaaGreat
open Go.Gx
theorem s_in (x a b : Int) : M.s_l1In x a b = some (decide (a ≤ x) && decide (x ≤ b)) := by
  unfold M.s_l1In
  by_cases h : x ≥ a <;> simp [h]
theorem i_in (x a b : Int) : M.i_inside x a b = some (decide (a ≤ x) && decide (x ≤ b)) := by
  unfold M.i_inside
  by_cases h : x ≥ a <;> simp [h]
theorem while_first {σ ρ : Type} {body : σ → Option (σ ⊕ ρ)} {s0 : σ} (st : Nat → σ) (p : Nat → Bool) (hit : Nat → ρ) (r : ρ) (n : Nat) (h0 : s0 = st 0) (hn : n ≤ 4611686018427387904) (h : ∀ i, i < n → body (st i) = some (bif p i then .inr (hit i) else .inl (st (i + 1)))) (he : body (st n) = some (.inr r)) :
    whileM body gxFuel s0 = some (match (List.range n).find? p with
      | some i => hit i
      | none => r) := by
  cases hf : (List.range n).find? p with
  | none =>
    rw [List.find?_eq_none] at hf
    refine while_run st r n h0 hn (fun i hi => ?_) he
    have : p i = false := by
      have := hf i (List.mem_range.2 hi)
      simpa using this
    rw [h i hi, this]
    rfl
  | some i =>
    rw [List.find?_range_eq_some] at hf
    obtain ⟨h1, h2, h3⟩ := hf
    have hi : i < n := List.mem_range.1 h2
    refine while_run st (hit i) i h0 (by omega) (fun j hj => ?_) (by rw [h i hi, h1]; rfl)
    have : p j = false := by
      have := h3 j hj
      simpa using this
    rw [h j (by omega), this]
    rfl
theorem while_all {σ ρ : Type} {body : σ → Option (σ ⊕ ρ)} {s0 : σ} (st : Nat → σ) (ok : Nat → Bool) (bad r : ρ) (n : Nat) (h0 : s0 = st 0) (hn : n ≤ 4611686018427387904) (h : ∀ i, i < n → body (st i) = some (bif ok i then .inl (st (i + 1)) else .inr bad)) (he : body (st n) = some (.inr r)) :
    whileM body gxFuel s0 = some (bif (List.range n).all ok then r else bad) := by
  rw [while_first st (fun i => !(ok i)) (fun _ => bad) r n h0 hn (fun i hi => by rw [h i hi]; cases ok i <;> rfl) he]
  cases hf : (List.range n).find? (fun i => !(ok i)) with
  | none =>
    rw [List.find?_eq_none] at hf
    have : (List.range n).all ok = true := List.all_eq_true.2 fun i hi => by simpa using hf i hi
    rw [this]
    rfl
  | some i =>
    have h1 := List.find?_some hf
    have h2 := List.mem_of_find?_eq_some hf
    have : (List.range n).all ok = false := by
      rw [List.all_eq_false]
      exact ⟨i, h2, by simpa using h1⟩
    rw [this]
    rfl
theorem getD_at {α : Type} {xs : List α} {i : Nat} {z : α} (h : i < xs.length) : xs.getD i z = xs[i] := by
  rw [List.getD_eq_getElem?_getD, List.getElem?_eq_getElem h]; rfl
theorem eqIntS_refl (xs : List Int) (h : xs.length ≤ 4611686018427387904) : M.l_eqIntS xs xs = some true := by
  unfold M.l_eqIntS
  rw [while_run (fun i => (i : Int)) (Sum.inl ()) xs.length (by simp) h]
  · simp
  · intro i hi
    have h1 : ((i : Int) < (xs.length : Int)) := by omega
    simp [h1, gxIdx_nat hi, w64_succ (show i ≤ 4611686018427387904 by omega)]
  · simp
theorem toIntS_id (xs : List Int) (h : xs.length ≤ 1099511627776) : M.l_toIntS xs = some xs := by
  unfold M.l_toIntS
  rw [gxMake_nat (by omega), Option.bind_some, while_run (fun i => ((i : Int), taken xs 0 i)) xs xs.length (by simp [taken_zero]) (by omega)]
  · rfl
  · intro i hi
    have h1 : ((i : Int) < (xs.length : Int)) := by omega
    have h2 : i < (taken xs 0 i).length := by rw [taken_length (by omega)]; exact hi
    simp [h1, gxIdx_nat hi, gxIdx_nat h2, w64_succ (show i ≤ 4611686018427387904 by omega), taken_set hi]
  · simp [taken_all]
theorem markIntS_ok (xs : List Int) (k : Nat) (h : k + xs.length ≤ 1099511627776) : M.l_markIntS xs k = some (((k + xs.length : Nat) : Int), marks k xs.length) := by
  unfold M.l_markIntS
  rw [while_run (fun i => (((k + i : Nat) : Int), (i : Int), marked k xs i)) (((k + xs.length : Nat) : Int), marks k xs.length) xs.length (by simp [marked_zero]) (by omega)]
  · rfl
  · intro i hi
    have h0 : (marked k xs i).length = xs.length := marked_length (by omega)
    have h1 : ((i : Int) < (xs.length : Int)) := by omega
    have h2 : i < (marked k xs i).length := by omega
    simp only [h0, h1, gxIdx_nat h2, decide_true, cond_true, Option.bind_some, Int.toNat_natCast, marked_set hi, w64_succ (show i ≤ 4611686018427387904 by omega), w64_succ (show k + i ≤ 4611686018427387904 by omega)]
    rfl
  · have h0 : (marked k xs xs.length).length = xs.length := marked_length (by omega)
    simp [marked_all, marks_length]
theorem heldIntS_ok (k n : Nat) (h : k + n ≤ 1099511627776) : M.l_heldIntS (marks k n) k = some ((k + n : Nat) : Int) := by
  unfold M.l_heldIntS
  rw [while_run (fun i => (((k + i : Nat) : Int), (i : Int))) (Sum.inl ((k + n : Nat) : Int)) n (by simp) (by omega)]
  · rfl
  · intro i hi
    have h1 : ((i : Int) < (n : Int)) := by omega
    have h2 : i < (marks k n).length := by rw [marks_length]; exact hi
    simp only [marks_length, h1, gxIdx_nat h2, marks_get, decide_true, cond_true, Option.bind_some, bne_self_eq_false, cond_false, w64_succ (show i ≤ 4611686018427387904 by omega), w64_succ (show k + i ≤ 4611686018427387904 by omega)]
    rfl
  · simp [marks_length]
def bmark (k : Nat) : Bool := ((k : Int).tmod 3) == 0
def bmarks (k n : Nat) : List Bool := (List.range n).map fun i => bmark (k + i)
theorem bmarks_length (k n : Nat) : (bmarks k n).length = n := by simp [bmarks]
theorem bmarks_get {k n i : Nat} (h : i < (bmarks k n).length) : (bmarks k n)[i] = bmark (k + i) := by simp [bmarks]
def bmarked (k : Nat) (xs : List Bool) (i : Nat) : List Bool := bmarks k i ++ xs.drop i
theorem bmarked_length {k : Nat} {xs : List Bool} {i : Nat} (h : i ≤ xs.length) : (bmarked k xs i).length = xs.length := by
  simp [bmarked, bmarks_length]; omega
theorem bmarked_set {k : Nat} {xs : List Bool} {i : Nat} (h : i < xs.length) : (bmarked k xs i).set i (bmark (k + i)) = bmarked k xs (i + 1) := by
  unfold bmarked
  rw [List.set_append_right _ _ (by simp [bmarks_length]), bmarks_length, Nat.sub_self, List.drop_eq_getElem_cons h, List.set_cons_zero]
  unfold bmarks
  rw [List.range_succ, List.map_append, List.append_assoc]
  rfl
theorem eqBoolS_refl (xs : List Bool) (h : xs.length ≤ 4611686018427387904) : M.l_eqBoolS xs xs = some true := by
  unfold M.l_eqBoolS
  rw [while_run (fun i => (i : Int)) (Sum.inl ()) xs.length (by simp) h]
  · simp
  · intro i hi
    have h1 : ((i : Int) < (xs.length : Int)) := by omega
    simp [h1, gxIdx_nat hi, w64_succ (show i ≤ 4611686018427387904 by omega)]
  · simp
theorem toBoolS_id (xs : List Bool) (h : xs.length ≤ 1099511627776) : M.l_toBoolS xs = some xs := by
  unfold M.l_toBoolS
  rw [gxMake_nat (by omega), Option.bind_some, while_run (fun i => ((i : Int), taken xs false i)) xs xs.length (by simp [taken_zero]) (by omega)]
  · rfl
  · intro i hi
    have h1 : ((i : Int) < (xs.length : Int)) := by omega
    have h2 : i < (taken xs false i).length := by rw [taken_length (by omega)]; exact hi
    simp [h1, gxIdx_nat hi, gxIdx_nat h2, w64_succ (show i ≤ 4611686018427387904 by omega), taken_set hi]
  · simp [taken_all]
theorem markBoolS_ok (xs : List Bool) (k : Nat) (h : k + xs.length ≤ 1099511627776) : M.l_markBoolS xs k = some (((k + xs.length : Nat) : Int), bmarks k xs.length) := by
  unfold M.l_markBoolS
  rw [while_run (fun i => (((k + i : Nat) : Int), (i : Int), bmarked k xs i)) (((k + xs.length : Nat) : Int), bmarks k xs.length) xs.length (by simp [bmarked, bmarks]) (by omega)]
  · rfl
  · intro i hi
    have h0 : (bmarked k xs i).length = xs.length := bmarked_length (by omega)
    have h1 : ((i : Int) < (xs.length : Int)) := by omega
    have h2 : i < (bmarked k xs i).length := by omega
    have h3 := bmarked_set (k := k) hi
    unfold bmark at h3
    simp only [h0, h1, gxIdx_nat h2, decide_true, cond_true, Option.bind_some, Int.toNat_natCast, h3, w64_succ (show i ≤ 4611686018427387904 by omega), w64_succ (show k + i ≤ 4611686018427387904 by omega)]
    rfl
  · simp [bmarked, bmarks_length]
theorem heldBoolS_ok (k n : Nat) (h : k + n ≤ 1099511627776) : M.l_heldBoolS (bmarks k n) k = some ((k + n : Nat) : Int) := by
  unfold M.l_heldBoolS
  rw [while_run (fun i => (((k + i : Nat) : Int), (i : Int))) (Sum.inl ((k + n : Nat) : Int)) n (by simp) (by omega)]
  · rfl
  · intro i hi
    have h1 : ((i : Int) < (n : Int)) := by omega
    have h2 : i < (bmarks k n).length := by rw [bmarks_length]; exact hi
    simp only [bmarks_length, h1, gxIdx_nat h2, bmarks_get, bmark, decide_true, cond_true, Option.bind_some, beq_self_eq_true, Bool.not_true, cond_false, w64_succ (show i ≤ 4611686018427387904 by omega), w64_succ (show k + i ≤ 4611686018427387904 by omega)]
    rfl
  · simp [bmarks_length]
def gmk {α : Type} (f : α → Nat → Nat × α) : List α → Nat → Nat × List α
  | [], k => (k, [])
  | x :: r, k => ((gmk f r (f x k).1).1, (f x k).2 :: (gmk f r (f x k).1).2)
theorem gmk_app {α : Type} {f : α → Nat → Nat × α} : ∀ (a b : List α) (k : Nat), gmk f (a ++ b) k = ((gmk f b (gmk f a k).1).1, (gmk f a k).2 ++ (gmk f b (gmk f a k).1).2)
  | [], b, k => rfl
  | x :: r, b, k => by simp only [List.cons_append, gmk, gmk_app r b]
theorem gmk_len {α : Type} {f : α → Nat → Nat × α} : ∀ (a : List α) (k : Nat), (gmk f a k).2.length = a.length
  | [], k => rfl
  | x :: r, k => by simp only [gmk, List.length_cons, gmk_len r]
theorem gmk_succ {α : Type} {f : α → Nat → Nat × α} {xs : List α} {i : Nat} (h : i < xs.length) (k : Nat) : gmk f (xs.take (i + 1)) k = ((f xs[i] (gmk f (xs.take i) k).1).1, (gmk f (xs.take i) k).2 ++ [(f xs[i] (gmk f (xs.take i) k).1).2]) := by
  rw [List.take_add_one, List.getElem?_eq_getElem h, Option.toList_some, gmk_app]
  rfl
theorem gmk_mono {α : Type} {f : α → Nat → Nat × α} (hf : ∀ x k, k ≤ (f x k).1) : ∀ (a : List α) (k : Nat), k ≤ (gmk f a k).1
  | [], k => Nat.le_refl _
  | x :: r, k => Nat.le_trans (hf x k) (gmk_mono hf r _)
theorem gmk_take_le {α : Type} {f : α → Nat → Nat × α} (hf : ∀ x k, k ≤ (f x k).1) (xs : List α) (k i : Nat) : (gmk f (xs.take i) k).1 ≤ (gmk f xs k).1 := by
  have : gmk f xs k = gmk f (xs.take i ++ xs.drop i) k := by rw [List.take_append_drop]
  rw [this, gmk_app]
  exact gmk_mono hf _ _
theorem gmk_get {α : Type} {f : α → Nat → Nat × α} {xs : List α} {i : Nat} (h : i < xs.length) (k : Nat) (h2 : i < (gmk f xs k).2.length) : (gmk f xs k).2[i] = (f xs[i] (gmk f (xs.take i) k).1).2 := by
  have e : gmk f xs k = gmk f (xs.take (i + 1) ++ xs.drop (i + 1)) k := by rw [List.take_append_drop]
  have h3 : (gmk f xs k).2 = (gmk f (xs.take i) k).2 ++ ([(f xs[i] (gmk f (xs.take i) k).1).2] ++ (gmk f (xs.drop (i + 1)) (gmk f (xs.take (i + 1)) k).1).2) := by
    rw [e, gmk_app, gmk_succ h]
    simp
  have hl : (gmk f (xs.take i) k).2.length = i := by rw [gmk_len]; simp; omega
  have : (gmk f xs k).2[i]? = some (f xs[i] (gmk f (xs.take i) k).1).2 := by
    rw [h3, List.getElem?_append_right (by omega), hl, Nat.sub_self]
    rfl
  rw [List.getElem?_eq_getElem h2] at this
  exact Option.some.inj this
theorem mark_run {α : Type} (f : α → Nat → Nat × α) {xs : List α} {k : Nat} {body : Int × Int × List α → Option ((Int × Int × List α) ⊕ (Int × List α))} (hf : ∀ x k, k ≤ (f x k).1) (hb : (gmk f xs k).1 ≤ 1099511627776) (hl : xs.length ≤ 1099511627776)
    (h : ∀ (i : Nat) (hi : i < xs.length) (K : Nat) (L : List α) (hL : i < L.length), (f xs[i] K).1 ≤ 1099511627776 → L[i] = xs[i] → L.length = xs.length → body ((K : Int), (i : Int), L) = some (.inl (((f xs[i] K).1 : Int), w64 ((i : Int) + 1), L.set i (f xs[i] K).2)))
    (he : ∀ (K : Int) (L : List α), L.length = xs.length → body (K, (xs.length : Int), L) = some (.inr (K, L))) : whileM body gxFuel ((k : Int), 0, xs) = some (((gmk f xs k).1 : Int), (gmk f xs k).2) := by
  refine while_run (fun i => (((gmk f (xs.take i) k).1 : Int), (i : Int), (gmk f (xs.take i) k).2 ++ xs.drop i)) _ xs.length (by simp [gmk]) (by omega) (fun i hi => ?_) ?_
  · have hll : (gmk f (xs.take i) k).2.length = i := by rw [gmk_len]; simp; omega
    have hL : i < ((gmk f (xs.take i) k).2 ++ xs.drop i).length := by simp [hll]; omega
    have hs := gmk_succ (f := f) hi k
    have hle := gmk_take_le hf xs k (i + 1)
    rw [hs] at hle
    rw [h i hi _ _ hL (by simp only at hle; omega) (by rw [List.getElem_append_right (by omega)]; simp [hll]) (by simp [hll]; omega), hs, w64_succ (by omega)]
    congr 4
    rw [List.set_append_right _ _ (by omega), hll, Nat.sub_self, List.drop_eq_getElem_cons hi, List.set_cons_zero]
    simp
  · have := he ((gmk f (xs.take xs.length) k).1 : Int) ((gmk f (xs.take xs.length) k).2 ++ xs.drop xs.length) (by simp [gmk_len])
    rw [this]
    simp
theorem held_run {α : Type} (f : α → Nat → Nat × α) {xs : List α} {k : Nat} {body : Int × Int → Option ((Int × Int) ⊕ (Int ⊕ Int))} (hf : ∀ x k, k ≤ (f x k).1) (hb : (gmk f xs k).1 ≤ 1099511627776) (hl : xs.length ≤ 1099511627776)
    (h : ∀ (i : Nat) (hi : i < xs.length) (h2 : i < (gmk f xs k).2.length) (K : Nat), (f xs[i] K).1 ≤ 1099511627776 → (gmk f xs k).2[i] = (f xs[i] K).2 → body ((K : Int), (i : Int)) = some (.inl (((f xs[i] K).1 : Int), w64 ((i : Int) + 1))))
    (he : ∀ K : Int, body (K, (xs.length : Int)) = some (.inr (.inl K))) : whileM body gxFuel ((k : Int), 0) = some (.inl ((gmk f xs k).1 : Int)) := by
  refine while_run (fun i => (((gmk f (xs.take i) k).1 : Int), (i : Int))) _ xs.length (by simp [gmk]) (by omega) (fun i hi => ?_) ?_
  · have h2 : i < (gmk f xs k).2.length := by rw [gmk_len]; exact hi
    have hs := gmk_succ (f := f) hi k
    have hle := gmk_take_le hf xs k (i + 1)
    rw [hs] at hle
    rw [h i hi h2 _ (by simp only at hle; omega) (gmk_get hi k h2), hs, w64_succ (by omega)]
  · rw [he, List.take_length]
theorem gxIdx_same {α : Type} {xs : List α} {i : Nat} {a : α} (h : i < xs.length) : gxIdx (xs.set i a) (i : Int) = some a := by
  rw [gxIdx_nat (by simpa using h)]
  simp
theorem gmk_const {α : Type} {f : α → Nat → Nat × α} {W : Nat} (hf : ∀ x k, (f x k).1 = k + W) : ∀ (a : List α) (k : Nat), (gmk f a k).1 = k + W * a.length
  | [], k => by simp [gmk]
  | x :: r, k => by
    simp only [gmk, gmk_const hf r, hf, List.length_cons, Nat.mul_add, Nat.mul_one]
    omega
theorem nat_nlt (n : Nat) : decide ((n : Int) < 0) = false := by simp
def okRoute (x : Route) : Prop := okI x.Priority ∧ okI x.Target
theorem eqRoute_refl (x : Route) : M.l_eqRoute x x = some true := by unfold M.l_eqRoute; simp
theorem eqRouteS_refl (xs : List Route) (h : xs.length ≤ 4611686018427387904) : M.l_eqRouteS xs xs = some true := by
  unfold M.l_eqRouteS
  rw [while_run (fun i => (i : Int)) (Sum.inl ()) xs.length (by simp) h]
  · simp
  · intro i hi
    have h1 : ((i : Int) < (xs.length : Int)) := by omega
    simp [h1, gxIdx_nat hi, eqRoute_refl, w64_succ (show i ≤ 4611686018427387904 by omega)]
  · simp
theorem toRouteS_id (xs : List Route) (h : xs.length ≤ 1099511627776) : M.l_toRouteS xs = some xs := by
  unfold M.l_toRouteS
  rw [gxMake_nat (by omega), Option.bind_some, while_run (fun i => ((i : Int), taken xs (⟨0, 0⟩ : Route) i)) xs xs.length (by simp [taken_zero]) (by omega)]
  · rfl
  · intro i hi
    have h1 : ((i : Int) < (xs.length : Int)) := by omega
    have h2 : i < (taken xs (⟨0, 0⟩ : Route) i).length := by rw [taken_length (by omega)]; exact hi
    simp [h1, gxIdx_nat hi, gxIdx_nat h2, M.l_toRoute, w64_succ (show i ≤ 4611686018427387904 by omega), taken_set hi]
  · simp [taken_all]
def mkRoute (x : Route) (k : Nat) : Nat × Route := (k + 2, ⟨((k : Nat) : Int), (((k + 1) : Nat) : Int)⟩)
theorem markRouteS_ex (xs : List Route) (k : Nat) (h : k + 2 * xs.length ≤ 1099511627776) : M.l_markRouteS xs k = some (((gmk mkRoute xs k).1 : Int), (gmk mkRoute xs k).2) ∧ M.l_heldRouteS (gmk mkRoute xs k).2 k = some ((gmk mkRoute xs k).1 : Int) ∧ k ≤ (gmk mkRoute xs k).1 ∧ (gmk mkRoute xs k).1 = k + 2 * xs.length := by
  have hf : ∀ (x : Route) (k : Nat), k ≤ (mkRoute x k).1 := fun x k => by simp only [mkRoute]; omega
  have hc : (gmk mkRoute xs k).1 = k + 2 * xs.length := gmk_const (fun _ _ => rfl) xs k
  refine ⟨?_, ?_, gmk_mono hf _ _, hc⟩
  · unfold M.l_markRouteS
    rw [mark_run mkRoute hf (by omega) (by omega)]
    · rfl
    · intro i hi K L hL hK hLi hLl
      have h1 : ((i : Int) < (L.length : Int)) := by omega
      have hK : K + 2 ≤ 1099511627776 := hK
      simp only [h1, decide_true, cond_true, gxIdx_nat hL, gxIdx_same hL, List.set_set, Option.bind_some, Int.toNat_natCast, w64_succ (show K ≤ 4611686018427387904 by omega), w64_succ (show K + 1 ≤ 4611686018427387904 by omega), Nat.add_assoc, Nat.reduceAdd, mkRoute]
      all_goals rfl
    · intro K L hL
      simp only [hL, Int.lt_irrefl, decide_false, cond_false]
  · unfold M.l_heldRouteS
    rw [held_run mkRoute (xs := xs) hf (by omega) (by omega)]
    · rfl
    · intro i hi h2 K hK he
      have h1 : ((i : Int) < ((gmk mkRoute xs k).2.length : Int)) := by omega
      have hK : K + 2 ≤ 1099511627776 := hK
      simp only [h1, decide_true, cond_true, gxIdx_nat h2, he, mkRoute, Option.bind_some, bne_self_eq_false, beq_self_eq_true, Bool.not_true, cond_false, w64_succ (show K ≤ 4611686018427387904 by omega), w64_succ (show K + 1 ≤ 4611686018427387904 by omega), Nat.add_assoc, Nat.reduceAdd]
      all_goals rfl
    · intro K
      simp only [gmk_len, Int.lt_irrefl, decide_false, cond_false]
      all_goals rfl
def okSlot (x : Slot) : Prop := okI x.State ∧ okI x.Irq ∧ okI x.Priority
theorem eqSlot_refl (x : Slot) : M.l_eqSlot x x = some true := by unfold M.l_eqSlot; simp
theorem eqSlotS_refl (xs : List Slot) (h : xs.length ≤ 4611686018427387904) : M.l_eqSlotS xs xs = some true := by
  unfold M.l_eqSlotS
  rw [while_run (fun i => (i : Int)) (Sum.inl ()) xs.length (by simp) h]
  · simp
  · intro i hi
    have h1 : ((i : Int) < (xs.length : Int)) := by omega
    simp [h1, gxIdx_nat hi, eqSlot_refl, w64_succ (show i ≤ 4611686018427387904 by omega)]
  · simp
theorem toSlotS_id (xs : List Slot) (h : xs.length ≤ 1099511627776) : M.l_toSlotS xs = some xs := by
  unfold M.l_toSlotS
  rw [gxMake_nat (by omega), Option.bind_some, while_run (fun i => ((i : Int), taken xs (⟨0, 0, 0⟩ : Slot) i)) xs xs.length (by simp [taken_zero]) (by omega)]
  · rfl
  · intro i hi
    have h1 : ((i : Int) < (xs.length : Int)) := by omega
    have h2 : i < (taken xs (⟨0, 0, 0⟩ : Slot) i).length := by rw [taken_length (by omega)]; exact hi
    simp [h1, gxIdx_nat hi, gxIdx_nat h2, M.l_toSlot, w64_succ (show i ≤ 4611686018427387904 by omega), taken_set hi]
  · simp [taken_all]
def mkSlot (x : Slot) (k : Nat) : Nat × Slot := (k + 3, ⟨((k : Nat) : Int), (((k + 1) : Nat) : Int), (((k + 2) : Nat) : Int)⟩)
theorem markSlotS_ex (xs : List Slot) (k : Nat) (h : k + 3 * xs.length ≤ 1099511627776) : M.l_markSlotS xs k = some (((gmk mkSlot xs k).1 : Int), (gmk mkSlot xs k).2) ∧ M.l_heldSlotS (gmk mkSlot xs k).2 k = some ((gmk mkSlot xs k).1 : Int) ∧ k ≤ (gmk mkSlot xs k).1 ∧ (gmk mkSlot xs k).1 = k + 3 * xs.length := by
  have hf : ∀ (x : Slot) (k : Nat), k ≤ (mkSlot x k).1 := fun x k => by simp only [mkSlot]; omega
  have hc : (gmk mkSlot xs k).1 = k + 3 * xs.length := gmk_const (fun _ _ => rfl) xs k
  refine ⟨?_, ?_, gmk_mono hf _ _, hc⟩
  · unfold M.l_markSlotS
    rw [mark_run mkSlot hf (by omega) (by omega)]
    · rfl
    · intro i hi K L hL hK hLi hLl
      have h1 : ((i : Int) < (L.length : Int)) := by omega
      have hK : K + 3 ≤ 1099511627776 := hK
      simp only [h1, decide_true, cond_true, gxIdx_nat hL, gxIdx_same hL, List.set_set, Option.bind_some, Int.toNat_natCast, w64_succ (show K ≤ 4611686018427387904 by omega), w64_succ (show K + 1 ≤ 4611686018427387904 by omega), w64_succ (show K + 2 ≤ 4611686018427387904 by omega), Nat.add_assoc, Nat.reduceAdd, mkSlot]
      all_goals rfl
    · intro K L hL
      simp only [hL, Int.lt_irrefl, decide_false, cond_false]
  · unfold M.l_heldSlotS
    rw [held_run mkSlot (xs := xs) hf (by omega) (by omega)]
    · rfl
    · intro i hi h2 K hK he
      have h1 : ((i : Int) < ((gmk mkSlot xs k).2.length : Int)) := by omega
      have hK : K + 3 ≤ 1099511627776 := hK
      simp only [h1, decide_true, cond_true, gxIdx_nat h2, he, mkSlot, Option.bind_some, bne_self_eq_false, beq_self_eq_true, Bool.not_true, cond_false, w64_succ (show K ≤ 4611686018427387904 by omega), w64_succ (show K + 1 ≤ 4611686018427387904 by omega), w64_succ (show K + 2 ≤ 4611686018427387904 by omega), Nat.add_assoc, Nat.reduceAdd]
      all_goals rfl
    · intro K
      simp only [gmk_len, Int.lt_irrefl, decide_false, cond_false]
      all_goals rfl
def okWaiter (x : Waiter) : Prop := okI x.Irq ∧ okI x.Priority
theorem eqWaiter_refl (x : Waiter) : M.l_eqWaiter x x = some true := by unfold M.l_eqWaiter; simp
theorem eqWaiterS_refl (xs : List Waiter) (h : xs.length ≤ 4611686018427387904) : M.l_eqWaiterS xs xs = some true := by
  unfold M.l_eqWaiterS
  rw [while_run (fun i => (i : Int)) (Sum.inl ()) xs.length (by simp) h]
  · simp
  · intro i hi
    have h1 : ((i : Int) < (xs.length : Int)) := by omega
    simp [h1, gxIdx_nat hi, eqWaiter_refl, w64_succ (show i ≤ 4611686018427387904 by omega)]
  · simp
theorem toWaiterS_id (xs : List Waiter) (h : xs.length ≤ 1099511627776) : M.l_toWaiterS xs = some xs := by
  unfold M.l_toWaiterS
  rw [gxMake_nat (by omega), Option.bind_some, while_run (fun i => ((i : Int), taken xs (⟨0, 0⟩ : Waiter) i)) xs xs.length (by simp [taken_zero]) (by omega)]
  · rfl
  · intro i hi
    have h1 : ((i : Int) < (xs.length : Int)) := by omega
    have h2 : i < (taken xs (⟨0, 0⟩ : Waiter) i).length := by rw [taken_length (by omega)]; exact hi
    simp [h1, gxIdx_nat hi, gxIdx_nat h2, M.l_toWaiter, w64_succ (show i ≤ 4611686018427387904 by omega), taken_set hi]
  · simp [taken_all]
def mkWaiter (x : Waiter) (k : Nat) : Nat × Waiter := (k + 2, ⟨((k : Nat) : Int), (((k + 1) : Nat) : Int)⟩)
theorem markWaiterS_ex (xs : List Waiter) (k : Nat) (h : k + 2 * xs.length ≤ 1099511627776) : M.l_markWaiterS xs k = some (((gmk mkWaiter xs k).1 : Int), (gmk mkWaiter xs k).2) ∧ M.l_heldWaiterS (gmk mkWaiter xs k).2 k = some ((gmk mkWaiter xs k).1 : Int) ∧ k ≤ (gmk mkWaiter xs k).1 ∧ (gmk mkWaiter xs k).1 = k + 2 * xs.length := by
  have hf : ∀ (x : Waiter) (k : Nat), k ≤ (mkWaiter x k).1 := fun x k => by simp only [mkWaiter]; omega
  have hc : (gmk mkWaiter xs k).1 = k + 2 * xs.length := gmk_const (fun _ _ => rfl) xs k
  refine ⟨?_, ?_, gmk_mono hf _ _, hc⟩
  · unfold M.l_markWaiterS
    rw [mark_run mkWaiter hf (by omega) (by omega)]
    · rfl
    · intro i hi K L hL hK hLi hLl
      have h1 : ((i : Int) < (L.length : Int)) := by omega
      have hK : K + 2 ≤ 1099511627776 := hK
      simp only [h1, decide_true, cond_true, gxIdx_nat hL, gxIdx_same hL, List.set_set, Option.bind_some, Int.toNat_natCast, w64_succ (show K ≤ 4611686018427387904 by omega), w64_succ (show K + 1 ≤ 4611686018427387904 by omega), Nat.add_assoc, Nat.reduceAdd, mkWaiter]
      all_goals rfl
    · intro K L hL
      simp only [hL, Int.lt_irrefl, decide_false, cond_false]
  · unfold M.l_heldWaiterS
    rw [held_run mkWaiter (xs := xs) hf (by omega) (by omega)]
    · rfl
    · intro i hi h2 K hK he
      have h1 : ((i : Int) < ((gmk mkWaiter xs k).2.length : Int)) := by omega
      have hK : K + 2 ≤ 1099511627776 := hK
      simp only [h1, decide_true, cond_true, gxIdx_nat h2, he, mkWaiter, Option.bind_some, bne_self_eq_false, beq_self_eq_true, Bool.not_true, cond_false, w64_succ (show K ≤ 4611686018427387904 by omega), w64_succ (show K + 1 ≤ 4611686018427387904 by omega), Nat.add_assoc, Nat.reduceAdd]
      all_goals rfl
    · intro K
      simp only [gmk_len, Int.lt_irrefl, decide_false, cond_false]
      all_goals rfl
theorem eqQueue_refl (x : Queue) (h : x.Slots.length ≤ 1048576 ∧ x.Waiting.length ≤ 1048576) : M.l_eqQueue x x = some true := by
  unfold M.l_eqQueue
  simp only [eqSlotS_refl _ (show x.Slots.length ≤ 4611686018427387904 by omega), eqWaiterS_refl _ (show x.Waiting.length ≤ 4611686018427387904 by omega), Option.bind_some, Bool.not_true, cond_false]
def fitIf (x : Interface) : Prop := x.Stack.length ≤ 1048576 ∧ x.Queue.Slots.length ≤ 1048576 ∧ x.Queue.Waiting.length ≤ 1048576
theorem eqInterface_refl (x : Interface) (h : fitIf x) : M.l_eqInterface x x = some true := by
  unfold M.l_eqInterface
  have h1 := eqQueue_refl x.Queue h.2
  simp only [eqIntS_refl _ (show x.Stack.length ≤ 4611686018427387904 by have := h.1; omega), h1, Option.bind_some, Bool.not_true, cond_false, bne_self_eq_false]
theorem eqInterfaceS_refl (xs : List Interface) (hl : xs.length ≤ 1048576) (h : ∀ x ∈ xs, fitIf x) : M.l_eqInterfaceS xs xs = some true := by
  unfold M.l_eqInterfaceS
  rw [while_run (fun i => (i : Int)) (Sum.inl ()) xs.length (by simp) (by omega)]
  · simp
  · intro i hi
    have h1 : ((i : Int) < (xs.length : Int)) := by omega
    have h2 := eqInterface_refl xs[i] (h _ (List.getElem_mem hi))
    simp only [h1, decide_true, cond_true, gxIdx_nat hi, Option.bind_some]
    rw [h2]
    simp only [Option.bind_some, Bool.not_true, cond_false, w64_succ (show i ≤ 4611686018427387904 by omega)]
  · simp
def wIf (x : Interface) : Nat := 1 + x.Stack.length + 3 * x.Queue.Slots.length + 2 * x.Queue.Waiting.length
def mkIf (x : Interface) (k : Nat) : Nat × Interface := (k + wIf x, ⟨(k : Int), marks (k + 1) x.Stack.length, ⟨(gmk mkSlot x.Queue.Slots (k + 1 + x.Stack.length)).2, (gmk mkWaiter x.Queue.Waiting (k + 1 + x.Stack.length + 3 * x.Queue.Slots.length)).2⟩⟩)
def wIfs (xs : List Interface) : Nat := (xs.map wIf).sum
theorem mkIf_sum : ∀ (xs : List Interface) (k : Nat), (gmk mkIf xs k).1 = k + wIfs xs
  | [], k => by simp [gmk, wIfs]
  | x :: r, k => by
    simp only [gmk, mkIf_sum r, mkIf, wIfs, List.map_cons, List.sum_cons]
    omega
theorem markIfS_ex (xs : List Interface) (k : Nat) (hl : xs.length ≤ 1048576) (h : k + wIfs xs ≤ 1099511627776) : M.l_markInterfaceS xs k = some (((gmk mkIf xs k).1 : Int), (gmk mkIf xs k).2) ∧ M.l_heldInterfaceS (gmk mkIf xs k).2 k = some ((gmk mkIf xs k).1 : Int) := by
  have hf : ∀ (x : Interface) (k : Nat), k ≤ (mkIf x k).1 := fun x k => by simp only [mkIf]; omega
  have hc := mkIf_sum xs k
  refine ⟨?_, ?_⟩
  · unfold M.l_markInterfaceS
    rw [mark_run mkIf hf (by omega) (by omega)]
    · rfl
    · intro i hi K L hL hK hLi hLl
      have h1 : ((i : Int) < (L.length : Int)) := by omega
      have hK : K + wIf xs[i] ≤ 1099511627776 := hK
      have hw : wIf xs[i] = 1 + xs[i].Stack.length + 3 * xs[i].Queue.Slots.length + 2 * xs[i].Queue.Waiting.length := rfl
      have m1 := markIntS_ok xs[i].Stack (K + 1) (by omega)
      have m2 := markSlotS_ex xs[i].Queue.Slots (K + 1 + xs[i].Stack.length) (by omega)
      have m3 := markWaiterS_ex xs[i].Queue.Waiting (K + 1 + xs[i].Stack.length + 3 * xs[i].Queue.Slots.length) (by omega)
      rw [m2.2.2.2] at m2
      simp only [h1, decide_true, cond_true, gxIdx_nat hL, gxIdx_same hL, List.set_set, Option.bind_some, Int.toNat_natCast, hLi, w64_succ (show K ≤ 4611686018427387904 by omega), m1, m2.1, m3.1]
      rw [m3.2.2.2]
      have e : K + 1 + xs[i].Stack.length + 3 * xs[i].Queue.Slots.length + 2 * xs[i].Queue.Waiting.length = K + wIf xs[i] := by omega
      rw [e]
      rfl
    · intro K L hL
      simp only [hL, Int.lt_irrefl, decide_false, cond_false]
  · unfold M.l_heldInterfaceS
    rw [held_run mkIf (xs := xs) hf (by omega) (by omega)]
    · rfl
    · intro i hi h2 K hK he
      have h1 : ((i : Int) < ((gmk mkIf xs k).2.length : Int)) := by omega
      have hK : K + wIf xs[i] ≤ 1099511627776 := hK
      have hw : wIf xs[i] = 1 + xs[i].Stack.length + 3 * xs[i].Queue.Slots.length + 2 * xs[i].Queue.Waiting.length := rfl
      have m1 := heldIntS_ok (K + 1) xs[i].Stack.length (by omega)
      have m2 := markSlotS_ex xs[i].Queue.Slots (K + 1 + xs[i].Stack.length) (by omega)
      have m3 := markWaiterS_ex xs[i].Queue.Waiting (K + 1 + xs[i].Stack.length + 3 * xs[i].Queue.Slots.length) (by omega)
      rw [m2.2.2.2] at m2
      simp only [h1, decide_true, cond_true, gxIdx_nat h2, he, mkIf, Option.bind_some, bne_self_eq_false, cond_false, w64_succ (show K ≤ 4611686018427387904 by omega), m1, m2.2.1, m3.2.1, nat_nlt]
      rw [m3.2.2.2]
      have e : K + 1 + xs[i].Stack.length + 3 * xs[i].Queue.Slots.length + 2 * xs[i].Queue.Waiting.length = K + wIf xs[i] := by omega
      rw [e]
    · intro K
      simp only [gmk_len, Int.lt_irrefl, decide_false, cond_false]
def fitM (m : Machine) : Prop := m.Routes.length ≤ 1048576 ∧ m.Enabled.length ≤ 1048576 ∧ m.Raised.length ≤ 1048576 ∧ m.Cpus.length ≤ 1048576 ∧ (∀ x ∈ m.Cpus, fitIf x) ∧ wIfs m.Cpus ≤ 1099500000000
theorem eqMachine_refl (m : Machine) (h : fitM m) : M.l_eqMachine m m = some true := by
  obtain ⟨h1, h2, h3, h4, h5, _⟩ := h
  unfold M.l_eqMachine
  simp only [eqRouteS_refl _ (show m.Routes.length ≤ 4611686018427387904 by omega), eqBoolS_refl _ (show m.Enabled.length ≤ 4611686018427387904 by omega), eqBoolS_refl _ (show m.Raised.length ≤ 4611686018427387904 by omega), eqInterfaceS_refl _ h4 h5, Option.bind_some, Bool.not_true, cond_false]
theorem markMachine_held (m : Machine) (k : Nat) (hf : fitM m) (h : k ≤ 1048576) : ∃ (n : Nat) (q : List Route × List Bool × List Bool × List Interface), M.l_markMachine m k = some ((n : Int), q) ∧ M.l_heldMachine ⟨q.1, q.2.1, q.2.2.1, q.2.2.2⟩ k = some (n : Int) ∧ k ≤ n ∧ n = k + 2 * m.Routes.length + m.Enabled.length + m.Raised.length + wIfs m.Cpus := by
  obtain ⟨h1, h2, h3, h4, h5, h6⟩ := hf
  have m1 := markRouteS_ex m.Routes k (by omega)
  rw [m1.2.2.2] at m1
  have m2 := markBoolS_ok m.Enabled (k + 2 * m.Routes.length) (by omega)
  have g2 := heldBoolS_ok (k + 2 * m.Routes.length) m.Enabled.length (by omega)
  have m3 := markBoolS_ok m.Raised (k + 2 * m.Routes.length + m.Enabled.length) (by omega)
  have g3 := heldBoolS_ok (k + 2 * m.Routes.length + m.Enabled.length) m.Raised.length (by omega)
  have m4 := markIfS_ex m.Cpus (k + 2 * m.Routes.length + m.Enabled.length + m.Raised.length) h4 (by omega)
  rw [mkIf_sum] at m4
  refine ⟨k + 2 * m.Routes.length + m.Enabled.length + m.Raised.length + wIfs m.Cpus, ⟨(gmk mkRoute m.Routes k).2, bmarks (k + 2 * m.Routes.length) m.Enabled.length, bmarks (k + 2 * m.Routes.length + m.Enabled.length) m.Raised.length, (gmk mkIf m.Cpus (k + 2 * m.Routes.length + m.Enabled.length + m.Raised.length)).2⟩, ?_, ?_, by omega, rfl⟩
  · unfold M.l_markMachine
    simp only [m1.1, m2, m3, m4.1, Option.bind_some]
  · unfold M.l_heldMachine
    simp only [m1.2.1, g2, g3, m4.2, nat_nlt, Option.bind_some, cond_false]
def okRt (c : Int) (r : Route) : Bool := (decide (0 ≤ r.Priority) && decide (r.Priority ≤ 15)) && (decide (0 ≤ r.Target) && decide (r.Target ≤ w64 (c - 1)))
def okRts (xs : List Route) (c : Int) : Bool := (decide (1 ≤ c) && decide (c ≤ 2)) && (((xs.length : Int) == 8) && (List.range xs.length).all (fun i => okRt c (xs.getD i ⟨0, 0⟩)))
theorem s_routes (xs : List Route) (c : Int) (h : xs.length ≤ 1048576) : M.s_l21Routes xs c = some (okRts xs c) := by
  unfold M.s_l21Routes okRts
  rw [while_all (fun i => (i : Int)) (fun i => okRt c (xs.getD i ⟨0, 0⟩)) (.inr false) (.inl ()) xs.length (by simp) (by omega)]
  · cases (List.range xs.length).all (fun i => okRt c (xs.getD i ⟨0, 0⟩)) with
    | false => simp
    | true =>
      simp only [cond_true, Option.bind_some, Sum.elim_inl, s_in, Bool.and_true]
      cases (decide (1 ≤ c) && decide (c ≤ 2)) <;> rfl
  · intro i hi
    have e0 : ((i : Int) < (xs.length : Int)) := by omega
    simp only [e0, decide_true, cond_true, gxIdx_nat hi, Option.bind_some, M.s_l6Prio, s_in, getD_at hi, w64_succ (show i ≤ 4611686018427387904 by omega)]
    unfold okRt
    cases (decide (0 ≤ xs[i].Priority) && decide (xs[i].Priority ≤ 15)) with
    | false => rfl
    | true =>
      simp only [Bool.not_true, cond_false, Option.bind_some, Bool.true_and]
      cases (decide (0 ≤ xs[i].Target) && decide (xs[i].Target ≤ w64 (c - 1))) <;> rfl
  · simp
end Go.Proofs.YtllhajkgkghhdaaGreat
set_option linter.unusedVariables false
set_option linter.unusedSimpArgs false
set_option maxHeartbeats 4000000
namespace Go.Proofs.YtllhajkgkghhdaaGreat
open Go.Gx
theorem while_upto {σ ρ : Type} {body : σ → Option (σ ⊕ ρ)} {s0 : σ} (st : Nat → σ) (ok : Nat → Bool) (bad r : ρ) (n : Nat) (h0 : s0 = st 0) (hn : n ≤ 4611686018427387904) (h : ∀ i, i < n → (∀ j, j < i → ok j = true) → body (st i) = some (bif ok i then .inl (st (i + 1)) else .inr bad)) (he : (∀ j, j < n → ok j = true) → body (st n) = some (.inr r)) :
    whileM body gxFuel s0 = some (bif (List.range n).all ok then r else bad) := by
  cases hf : (List.range n).find? (fun i => !(ok i)) with
  | none =>
    have hall : ∀ j, j < n → ok j = true := fun j hj => by
      have := List.find?_eq_none.1 hf j (List.mem_range.2 hj)
      simpa using this
    have : (List.range n).all ok = true := List.all_eq_true.2 fun j hj => hall j (List.mem_range.1 hj)
    rw [this]
    refine while_run st _ n h0 hn (fun i hi => ?_) (he hall)
    rw [h i hi (fun j hj => hall j (by omega)), hall i hi]
    rfl
  | some i =>
    obtain ⟨h1, h2, h3⟩ := List.find?_range_eq_some.1 hf
    have h2 := List.mem_range.1 h2
    have hb : ∀ j, j < i → ok j = true := fun j hj => by simpa using h3 j hj
    have hi : ok i = false := by simpa using h1
    have : (List.range n).all ok = false := List.all_eq_false.2 ⟨i, List.mem_range.2 h2, by simp [hi]⟩
    rw [this]
    refine while_run st _ i h0 (by omega) (fun j hj => ?_) ?_
    · rw [h j (by omega) (fun k hk => hb k (by omega)), hb j hj]
      rfl
    · rw [h i h2 hb, hi]
      rfl
theorem nodup_bound : ∀ (n : Nat) (l : List Nat), l.Nodup → (∀ x ∈ l, x < n) → l.length ≤ n
  | 0, [], _, _ => Nat.le_refl _
  | 0, x :: r, _, h => absurd (h x List.mem_cons_self) (Nat.not_lt_zero _)
  | n + 1, l, hd, h => by
    by_cases hn : n ∈ l
    · have hp := List.perm_cons_erase hn
      have hd2 := hp.nodup_iff.1 hd
      rw [List.nodup_cons] at hd2
      have hl := hp.length_eq
      have := nodup_bound n (l.erase n) hd2.2 fun x hx => by
        have h1 := h x (List.mem_of_mem_erase hx)
        have h2 : x ≠ n := fun e => hd2.1 (e ▸ hx)
        omega
      rw [List.length_cons] at hl
      omega
    · have := nodup_bound n l hd fun x hx => by
        have h1 := h x hx
        have h2 : x ≠ n := fun e => hn (e ▸ hx)
        omega
      omega
theorem nodup_perm {α : Type} [BEq α] [LawfulBEq α] : ∀ {a b : List α}, a.Nodup → (∀ x ∈ a, x ∈ b) → b.length ≤ a.length → a.Perm b
  | [], b, _, _, hl => by
    have : b = [] := List.length_eq_zero_iff.1 (by simpa using hl)
    rw [this]
  | x :: t, b, hd, h, hl => by
    rw [List.nodup_cons] at hd
    have hp := List.perm_cons_erase (h x List.mem_cons_self)
    have hlen := hp.length_eq
    have := nodup_perm (a := t) (b := b.erase x) hd.2 (fun y hy => by
      have h1 := hp.mem_iff.1 (h y (List.mem_cons_of_mem _ hy))
      rcases List.mem_cons.1 h1 with e | e
      · exact absurd (e ▸ hy) hd.1
      · exact e) (by simp at hl hlen; omega)
    exact (this.cons x).trans hp.symm
theorem first_lt {n : Nat} {p : Nat → Bool} : (match (List.range n).find? p with | some i => (i : Int) | none => -1) < 0 ↔ ∀ i, i < n → p i = false := by
  cases hf : (List.range n).find? p with
  | none =>
    simp only
    refine ⟨fun _ i hi => ?_, fun _ => by omega⟩
    have := List.find?_eq_none.1 hf i (List.mem_range.2 hi)
    simpa using this
  | some i =>
    obtain ⟨h1, h2, _⟩ := List.find?_range_eq_some.1 hf
    simp only
    refine ⟨fun h => by omega, fun h => ?_⟩
    rw [h i (List.mem_range.1 h2)] at h1
    cases h1
def gS : Slot := ⟨0, 0, 0⟩
def mtS (q : Int) (s : Slot) : Bool := s.State != 0 && s.Irq == q
def fndS (xs : List Slot) (q : Int) : Int := match (List.range xs.length).find? (fun i => mtS q (xs.getD i gS)) with
  | some i => (i : Int)
  | none => -1
theorem s_find (xs : List Slot) (q : Int) (h : xs.length ≤ 1048576) : M.s_l8Find xs q = some (fndS xs q) := by
  unfold M.s_l8Find fndS
  rw [while_first (fun i => (i : Int)) (fun i => mtS q (xs.getD i gS)) (fun i => (Sum.inr (i : Int) : Unit ⊕ Int)) (Sum.inl ()) xs.length (by simp) (by omega)]
  · cases (List.range xs.length).find? (fun i => mtS q (xs.getD i gS)) <;> rfl
  · intro i hi
    have e0 : ((i : Int) < (xs.length : Int)) := by omega
    simp only [e0, decide_true, cond_true, gxIdx_nat hi, Option.bind_some, getD_at hi, w64_succ (show i ≤ 4611686018427387904 by omega), mtS]
    cases (xs[i].State != 0) with
    | false => rfl
    | true => cases (xs[i].Irq == q) <;> rfl
  · simp
theorem i_find (xs : List Slot) (q : Int) (h : xs.length ≤ 1048576) : M.i_findSlot xs q = some (fndS xs q) := by
  unfold M.i_findSlot M.slices_IndexFunc_210__i_findSlot_1 fndS
  rw [while_first (fun i => (i : Int)) (fun i => mtS q (xs.getD i gS)) (fun i => (Sum.inr (i : Int) : Unit ⊕ Int)) (Sum.inl ()) xs.length (by simp) (by omega)]
  · cases (List.range xs.length).find? (fun i => mtS q (xs.getD i gS)) <;> rfl
  · intro i hi
    have e0 : ((i : Int) < (xs.length : Int)) := by omega
    simp only [e0, decide_true, cond_true, gxIdx_nat hi, Option.bind_some, getD_at hi, w64_succ (show i ≤ 4611686018427387904 by omega), mtS, M.i_findSlot_1]
    cases (xs[i].State != 0) with
    | false => rfl
    | true => cases (xs[i].Irq == q) <;> rfl
  · simp
theorem fndS_neg {xs : List Slot} {q : Int} : fndS xs q < 0 ↔ ∀ i, (hi : i < xs.length) → mtS q xs[i] = false := by
  unfold fndS
  rw [first_lt]
  exact ⟨fun h i hi => by have := h i hi; rwa [getD_at hi] at this, fun h i hi => by rw [getD_at hi]; exact h i hi⟩
theorem fndS_at {xs : List Slot} {q : Int} (h : ¬ fndS xs q < 0) : ∃ i, ∃ hi : i < xs.length, fndS xs q = (i : Int) ∧ mtS q xs[i] = true ∧ ∀ j, (hj : j < i) → mtS q (xs[j]'(by omega)) = false := by
  unfold fndS at h ⊢
  cases hf : (List.range xs.length).find? (fun i => mtS q (xs.getD i gS)) with
  | none => rw [hf] at h; simp at h
  | some i =>
    obtain ⟨h1, h2, h3⟩ := List.find?_range_eq_some.1 hf
    have h2 := List.mem_range.1 h2
    rw [getD_at h2] at h1
    refine ⟨i, h2, rfl, h1, fun j hj => ?_⟩
    have := h3 j hj
    rw [getD_at (show j < xs.length by omega)] at this
    simpa using this
def inR (x a b : Int) : Bool := decide (a ≤ x) && decide (x ≤ b)
def freshS (xs : List Slot) (i : Nat) : Bool := (List.range i).all fun j => !(mtS (xs.getD i gS).Irq (xs.getD j gS))
def okSl (xs : List Slot) (i : Nat) : Bool := inR (xs.getD i gS).State 0 3 && (inR (xs.getD i gS).Irq 0 7 && (inR (xs.getD i gS).Priority 0 15 && (bif (xs.getD i gS).State == 0 then (xs.getD i gS).Irq == 0 && (xs.getD i gS).Priority == 0 else freshS xs i)))
def goodS (xs : List Slot) : Bool := (xs.length : Int) == 4 && (List.range xs.length).all (okSl xs)
theorem fresh_find {xs : List Slot} {i : Nat} (hi : i < xs.length) (hs : (xs[i].State == 0) = false) : (fndS xs xs[i].Irq != (i : Int)) = !(freshS xs i) := by
  have hm : mtS xs[i].Irq xs[i] = true := by unfold mtS; simp [bne, hs]
  have hnn : ¬ fndS xs xs[i].Irq < 0 := fun h => by rw [fndS_neg.1 h i hi] at hm; cases hm
  obtain ⟨k, hk, he, h1, h2⟩ := fndS_at hnn
  cases hf : freshS xs i with
  | true =>
    unfold freshS at hf
    rw [List.all_eq_true] at hf
    have hki : k = i := by
      rcases Nat.lt_trichotomy k i with h | h | h
      · have := hf k (List.mem_range.2 h)
        rw [getD_at hi, getD_at hk, h1] at this
        cases this
      · exact h
      · have := h2 i h
        rw [hm] at this
        cases this
    rw [he, hki]
    simp
  | false =>
    unfold freshS at hf
    rw [List.all_eq_false] at hf
    obtain ⟨j, hj, hjf⟩ := hf
    have hj := List.mem_range.1 hj
    rw [getD_at hi, getD_at (show j < xs.length by omega)] at hjf
    have hkj : k ≠ i := fun e => by
      have := h2 j (by omega)
      rw [this] at hjf
      simp at hjf
    rw [he]
    simp
    omega
theorem fresh_take {xs : List Slot} {i : Nat} (hi : i < xs.length) : decide (fndS (xs.take i) xs[i].Irq ≥ 0) = !(freshS xs i) := by
  have hl : (xs.take i).length = i := by simp; omega
  cases hf : freshS xs i with
  | true =>
    unfold freshS at hf
    rw [List.all_eq_true] at hf
    have : fndS (xs.take i) xs[i].Irq < 0 := fndS_neg.2 fun j hj => by
      have hji : j < i := by omega
      have := hf j (List.mem_range.2 hji)
      rw [getD_at hi, getD_at (show j < xs.length by omega)] at this
      rw [List.getElem_take]
      simpa using this
    have : ¬ (fndS (xs.take i) xs[i].Irq ≥ 0) := by omega
    simp [this]
  | false =>
    unfold freshS at hf
    rw [List.all_eq_false] at hf
    obtain ⟨j, hj, hjf⟩ := hf
    have hj := List.mem_range.1 hj
    rw [getD_at hi, getD_at (show j < xs.length by omega)] at hjf
    have : ¬ fndS (xs.take i) xs[i].Irq < 0 := fun h => by
      have := fndS_neg.1 h j (by omega)
      rw [List.getElem_take] at this
      rw [this] at hjf
      simp at hjf
    have : fndS (xs.take i) xs[i].Irq ≥ 0 := by omega
    simp [this]
theorem s_goodS (xs : List Slot) (h : xs.length ≤ 1048576) : M.s_l8Good xs = some (goodS xs) := by
  unfold M.s_l8Good goodS
  rw [while_all (fun i => (i : Int)) (okSl xs) (Sum.inr false : Unit ⊕ Bool) (Sum.inl ()) xs.length (by simp) (by omega)]
  · cases (List.range xs.length).all (okSl xs) <;> simp
  · intro i hi
    have e0 : ((i : Int) < (xs.length : Int)) := by omega
    simp only [e0, decide_true, cond_true, gxIdx_nat hi, Option.bind_some, M.s_l6Irq, M.s_l6Prio, s_in, w64_succ (show i ≤ 4611686018427387904 by omega)]
    unfold okSl inR
    rw [getD_at hi]
    cases (decide (0 ≤ xs[i].State) && decide (xs[i].State ≤ 3)) with
    | false => rfl
    | true => cases (decide (0 ≤ xs[i].Irq) && decide (xs[i].Irq ≤ 7)) with
      | false => rfl
      | true => cases (decide (0 ≤ xs[i].Priority) && decide (xs[i].Priority ≤ 15)) with
        | false => rfl
        | true =>
          cases hs : (xs[i].State == 0) with
          | true =>
            simp only [Bool.not_true, cond_false, cond_true, Option.bind_some, Bool.true_and, bne, hs]
            cases (xs[i].Irq == 0) with
            | false => rfl
            | true => cases (xs[i].Priority == 0) <;> rfl
          | false =>
            have := fresh_find hi hs
            simp only [Bool.not_true, Bool.not_false, cond_false, cond_true, Option.bind_some, Bool.true_and, bne, hs, s_find xs _ h] at this ⊢
            rw [this]
            cases freshS xs i <;> rfl
  · simp
theorem i_goodS (xs : List Slot) (h : xs.length ≤ 1048576) : M.i_AreSlots xs = some (goodS xs) := by
  unfold M.i_AreSlots goodS
  cases h4 : ((xs.length : Int) == 4) with
  | false => simp only [bne, h4, Bool.not_false, cond_true, Bool.false_and]
  | true =>
    simp only [bne, h4, Bool.not_true, cond_false, Bool.true_and]
    rw [while_all (fun i => (i : Int)) (okSl xs) (Sum.inr false : Unit ⊕ Bool) (Sum.inl ()) xs.length (by simp) (by omega)]
    · cases (List.range xs.length).all (okSl xs) <;> simp
    · intro i hi
      have e0 : ((i : Int) < (xs.length : Int)) := by omega
      have hsl : gxSlice xs 0 (i : Int) = some (xs.take i) := by
        unfold gxSlice
        rw [if_pos ⟨by omega, by omega, by omega⟩]
        simp
      have hfd := i_find (xs.take i) xs[i].Irq (by simp; omega)
      simp only [e0, decide_true, cond_true, gxIdx_nat hi, Option.bind_some, M.i_isIrq, M.i_isPriority, i_in, w64_succ (show i ≤ 4611686018427387904 by omega), hsl, hfd, fresh_take hi]
      unfold okSl inR
      rw [getD_at hi]
      cases hs : (xs[i].State == 0) with
      | true =>
        have hs0 : xs[i].State = 0 := by simpa using hs
        simp only [cond_true, hs, Bool.true_and, Bool.and_true, hs0]
        cases h1 : (xs[i].Irq == 0) with
        | false => simp
        | true => cases h2 : (xs[i].Priority == 0) with
          | false => simp
          | true =>
            have h1 : xs[i].Irq = 0 := by simpa using h1
            have h2 : xs[i].Priority = 0 := by simpa using h2
            simp [h1, h2]
      | false =>
        have hs0 : xs[i].State ≠ 0 := by simpa using hs
        have e1 : (decide (1 ≤ xs[i].State) && decide (xs[i].State ≤ 3)) = (decide (0 ≤ xs[i].State) && decide (xs[i].State ≤ 3)) := by
          rw [Bool.eq_iff_iff]
          simp only [Bool.and_eq_true, decide_eq_true_eq]
          omega
        simp only [cond_false, e1]
        cases (decide (0 ≤ xs[i].State) && decide (xs[i].State ≤ 3)) with
        | false => rfl
        | true => cases (decide (0 ≤ xs[i].Irq) && decide (xs[i].Irq ≤ 7)) with
          | false => rfl
          | true => cases (decide (0 ≤ xs[i].Priority) && decide (xs[i].Priority ≤ 15)) with
            | false => rfl
            | true =>
              simp only [Bool.not_true, cond_false, Option.bind_some, Bool.true_and]
              cases freshS xs i <;> rfl
    · simp
def lessU (p q r s : Int) : Bool := decide (p < r) || (p == r && decide (q < s))
theorem s_less (p q r s : Int) : M.s_l8Less p q r s = some (lessU p q r s) := by
  unfold M.s_l8Less lessU
  by_cases h : p < r
  · simp [h]
  · simp only [h, decide_false, cond_false, Bool.false_or]
    cases (p == r) <;> rfl
def cmpI (a b : Int) : Int := if a < b then -1 else if a > b then 1 else 0
theorem i_cmp (a b : Int) : M.cmp_Compare_170 a b = some (cmpI a b) := by
  unfold M.cmp_Compare_170 M.cmp_isNaN_222 cmpI
  simp only [bne_self_eq_false, Option.bind_some, cond_false]
  by_cases h : a < b
  · simp [h]
  · by_cases h2 : a > b
    · simp [h, h2]
    · simp [h, h2]
def cmpU (a b : Waiter) : Int := if cmpI a.Priority b.Priority ≠ 0 then cmpI a.Priority b.Priority else cmpI a.Irq b.Irq
theorem i_cmpU (a b : Waiter) : M.i_compareUrgency a b = some (cmpU a b) := by
  unfold M.i_compareUrgency M.cmp_Or_169 cmpU
  simp only [i_cmp, Option.bind_some]
  by_cases h1 : cmpI a.Priority b.Priority = 0
  · by_cases h2 : cmpI a.Irq b.Irq = 0
    · rw [while_run (fun i => (i : Int)) (Sum.inl ()) 2 (by simp) (by omega)]
      · simp [h1, h2]
      · intro i hi
        have hi' : i = 0 ∨ i = 1 := by omega
        rcases hi' with rfl | rfl <;> simp [gxIdx, h1, h2] <;> rfl
      · rfl
    · rw [while_run (fun i => (i : Int)) (Sum.inr (cmpI a.Irq b.Irq)) 1 (by simp) (by omega)]
      · simp [h1]
      · intro i hi
        have hi' : i = 0 := by omega
        subst hi'
        simp [gxIdx, h1]
        rfl
      · simp [gxIdx, bne_iff_ne.2 h2]
  · rw [while_run (fun i => (i : Int)) (Sum.inr (cmpI a.Priority b.Priority)) 0 (by simp) (by omega)]
    · simp [h1]
    · intro i hi; omega
    · simp [gxIdx, bne_iff_ne.2 h1]
theorem cmpU_lt (a b : Waiter) : decide (cmpU a b < 0) = lessU a.Priority a.Irq b.Priority b.Irq := by
  unfold cmpU cmpI lessU
  rw [Bool.eq_iff_iff]
  simp only [decide_eq_true_eq, Bool.or_eq_true, Bool.and_eq_true, beq_iff_eq]
  by_cases h1 : a.Priority < b.Priority <;> by_cases h2 : a.Priority > b.Priority <;> by_cases h3 : a.Irq < b.Irq <;> by_cases h4 : a.Irq > b.Irq <;> simp [h1, h2, h3, h4] <;> omega
theorem cmpU_gt (a b : Waiter) : decide (cmpU a b > 0) = lessU b.Priority b.Irq a.Priority a.Irq := by
  unfold cmpU cmpI lessU
  rw [Bool.eq_iff_iff]
  simp only [decide_eq_true_eq, Bool.or_eq_true, Bool.and_eq_true, beq_iff_eq]
  by_cases h1 : a.Priority < b.Priority <;> by_cases h2 : a.Priority > b.Priority <;> by_cases h3 : a.Irq < b.Irq <;> by_cases h4 : a.Irq > b.Irq <;> simp [h1, h2, h3, h4] <;> omega
theorem cmpU_ge (a b : Waiter) : decide (cmpU a b ≥ 0) = !(lessU a.Priority a.Irq b.Priority b.Irq) := by
  rw [← cmpU_lt, ← decide_not]
  congr 1
  rw [eq_iff_iff]
  omega
end Go.Proofs.YtllhajkgkghhdaaGreat
set_option linter.unusedVariables false
set_option linter.unusedSimpArgs false
set_option maxHeartbeats 4000000
namespace Go.Proofs.YtllhajkgkghhdaaGreat
open Go.Gx
def gW : Waiter := ⟨0, 0⟩
def freshW (ws : List Waiter) (i : Nat) : Bool := (List.range i).all fun j => !((ws.getD j gW).Irq == (ws.getD i gW).Irq)
def okW (xs : List Slot) (ws : List Waiter) (i : Nat) : Bool := inR (ws.getD i gW).Irq 0 7 && (inR (ws.getD i gW).Priority 0 15 && (decide (fndS xs (ws.getD i gW).Irq < 0) && (freshW ws i && (decide (i = 0) || lessU (ws.getD (i - 1) gW).Priority (ws.getD (i - 1) gW).Irq (ws.getD i gW).Priority (ws.getD i gW).Irq))))
def goodP (xs : List Slot) (ws : List Waiter) : Bool := goodS xs && (List.range ws.length).all (okW xs ws)
theorem okW_irq {xs : List Slot} {ws : List Waiter} {i : Nat} (h : okW xs ws i = true) : (0 ≤ (ws.getD i gW).Irq ∧ (ws.getD i gW).Irq ≤ 7) ∧ ∀ j, j < i → (ws.getD j gW).Irq ≠ (ws.getD i gW).Irq := by
  unfold okW inR freshW at h
  simp only [Bool.and_eq_true, decide_eq_true_eq, List.all_eq_true] at h
  refine ⟨h.1, fun j hj => ?_⟩
  have := h.2.2.2.1 j (List.mem_range.2 hj)
  simpa using this
theorem w_len {xs : List Slot} {ws : List Waiter} (h : ∀ i, i < 9 → i < ws.length → okW xs ws i = true) : ws.length ≤ 8 := by
  by_cases hl : ws.length ≤ 8
  · exact hl
  · exfalso
    have h9 : ∀ i, i < 9 → okW xs ws i = true := fun i hi => h i hi (by omega)
    have := nodup_bound 8 ((List.range 9).map fun i => (ws.getD i gW).Irq.toNat) (by
      rw [List.Nodup, List.pairwise_map]
      refine List.Pairwise.imp_of_mem (fun {a b} ha hb hab => ?_) List.pairwise_lt_range
      have h1 := okW_irq (h9 a (List.mem_range.1 ha))
      have h2 := okW_irq (h9 b (List.mem_range.1 hb))
      have h3 := h2.2 a hab
      omega) (fun x hx => by
      obtain ⟨i, hi, rfl⟩ := List.mem_map.1 hx
      have h1 := okW_irq (h9 i (List.mem_range.1 hi))
      omega)
    simp at this
theorem gxIdx_prevZ {α : Type} {xs : List α} {i : Nat} {z : α} (h : i < xs.length) (h0 : 0 < i) (hl : i ≤ 4611686018427387904) : gxIdx xs (w64 ((i : Int) - 1)) = some (xs.getD (i - 1) z) := by
  rw [w64_id (by omega) (by omega)]
  obtain ⟨k, rfl⟩ : ∃ k, i = k + 1 := ⟨i - 1, by omega⟩
  have e : ((k + 1 : Nat) : Int) - 1 = (k : Int) := by omega
  rw [e, gxIdx_nat (by omega), Nat.add_sub_cancel, getD_at (by omega)]
theorem s_waiting (xs : List Slot) (ws : List Waiter) (hx : xs.length ≤ 1048576) (hw : ws.length ≤ 1048576) : M.s_l9Waiting xs ws = some (goodP xs ws) := by
  unfold M.s_l9Waiting
  rw [while_all (fun i => (i : Int)) (okW xs ws) (Sum.inr false : Unit ⊕ Bool) (Sum.inl ()) (min ws.length 9) (by simp) (by omega)]
  · have hval : (bif (List.range (min ws.length 9)).all (okW xs ws) then (goodS xs && decide ((ws.length : Int) ≤ 8)) else false) = goodP xs ws := by
      unfold goodP
      cases ha : (List.range (min ws.length 9)).all (okW xs ws) with
      | true =>
        rw [List.all_eq_true] at ha
        have h8 := w_len (xs := xs) (ws := ws) fun i h9 hi => ha i (List.mem_range.2 (by omega))
        have hall : (List.range ws.length).all (okW xs ws) = true := List.all_eq_true.2 fun i hi => ha i (List.mem_range.2 (by have := List.mem_range.1 hi; omega))
        have h8' : ((ws.length : Int) ≤ 8) := by omega
        simp [hall, h8']
      | false =>
        rw [List.all_eq_false] at ha
        obtain ⟨i, hi, hf⟩ := ha
        have hall : (List.range ws.length).all (okW xs ws) = false := List.all_eq_false.2 ⟨i, List.mem_range.2 (by have := List.mem_range.1 hi; omega), hf⟩
        simp [hall]
    rw [← hval]
    cases (List.range (min ws.length 9)).all (okW xs ws) with
    | false => simp
    | true =>
      simp only [cond_true, Option.bind_some, Sum.elim_inl, s_goodS xs hx]
      cases goodS xs <;> rfl
  · intro i hi
    have hi' : i < ws.length := by omega
    have e0 : ((i : Int) < (ws.length : Int)) := by omega
    have e8 : ((i : Int) ≤ 8) := by omega
    simp only [e0, e8, decide_true, cond_true, gxIdx_nat hi', Option.bind_some, M.s_l6Irq, M.s_l6Prio, s_in, s_find xs _ hx, s_less]
    unfold okW inR
    rw [getD_at hi']
    cases (decide (0 ≤ ws[i].Irq) && decide (ws[i].Irq ≤ 7)) with
    | false => rfl
    | true => cases (decide (0 ≤ ws[i].Priority) && decide (ws[i].Priority ≤ 15)) with
      | false => rfl
      | true =>
        by_cases hf : fndS xs ws[i].Irq < 0
        · have hf2 : ¬ (fndS xs ws[i].Irq ≥ 0) := by omega
          simp only [hf, hf2, decide_true, decide_false, Bool.not_true, cond_false, Option.bind_some, Bool.true_and]
          have hin : whileM (σ := Int) (ρ := (Unit) ⊕ (Bool)) (fun s1770 =>
              bif decide (s1770 < (i : Int)) then (Option.bind (gxIdx ws s1770) fun y1782 =>
              bif y1782.Irq == ws[i].Irq then some (.inr (.inr false))
              else some (.inl (w64 (s1770 + 1))))
              else some (.inr (.inl ()))) gxFuel 0 = some (bif freshW ws i then .inl () else .inr false) := by
            unfold freshW
            refine while_all (fun j => (j : Int)) (fun j => !((ws.getD j gW).Irq == (ws.getD i gW).Irq)) (Sum.inr false : Unit ⊕ Bool) (Sum.inl ()) i (by simp) (by omega) (fun j hj => ?_) ?_
            · have e1 : ((j : Int) < (i : Int)) := by omega
              simp only [e1, decide_true, cond_true, gxIdx_nat (show j < ws.length by omega), Option.bind_some, getD_at hi', getD_at (show j < ws.length by omega), w64_succ (show j ≤ 4611686018427387904 by omega)]
              cases (ws[j].Irq == ws[i].Irq) <;> rfl
            · simp
          by_cases h0 : i = 0
          · subst h0
            have hz : ¬ (((0 : Nat) : Int) > 0) := by omega
            simp only [hz, decide_false, cond_false, Option.bind_some, decide_true, Bool.true_or, Bool.and_true]
            rw [hin]
            cases freshW ws 0 <;> rfl
          · have hz : ((i : Int) > 0) := by omega
            simp only [hz, h0, decide_true, decide_false, cond_true, Option.bind_some, Bool.false_or, gxIdx_prevZ (z := gW) hi' (show 0 < i by omega) (by omega)]
            cases lessU (ws.getD (i - 1) gW).Priority (ws.getD (i - 1) gW).Irq ws[i].Priority ws[i].Irq with
            | false => simp
            | true =>
              simp only [Bool.not_true, cond_false, Bool.and_true]
              rw [hin, Option.bind_some]
              cases freshW ws i with
              | false => rfl
              | true =>
                simp only [cond_true, Sum.elim_inl, w64_succ (show i ≤ 4611686018427387904 by omega)]
        · have hf2 : (fndS xs ws[i].Irq ≥ 0) := by omega
          simp [hf, hf2]
  · by_cases hl : ws.length ≤ 9
    · have e1 : min ws.length 9 = ws.length := by omega
      rw [e1]
      simp
    · have e1 : min ws.length 9 = 9 := by omega
      have e2 : (((9 : Nat) : Int) < (ws.length : Int)) := by omega
      rw [e1]
      simp only [e2, decide_true, cond_true]
      rfl
theorem i_windex (ws : List Waiter) (i : Nat) (hi : i < ws.length) (hw : ws.length ≤ 1048576) : ∃ r, M.i_waiterIndex (ws.take i) ws[i].Irq = some r ∧ decide (r ≥ 0) = !(freshW ws i) := by
  unfold M.i_waiterIndex M.slices_IndexFunc_166__i_waiterIndex_1
  have hl : (ws.take i).length = i := by simp; omega
  rw [while_first (fun j => (j : Int)) (fun j => (ws.getD j gW).Irq == (ws.getD i gW).Irq) (fun j => (Sum.inr (j : Int) : Unit ⊕ Int)) (Sum.inl ()) i (by simp) (by omega)]
  · unfold freshW
    cases hf : (List.range i).find? (fun j => (ws.getD j gW).Irq == (ws.getD i gW).Irq) with
    | none =>
      have hall : (List.range i).all (fun j => !((ws.getD j gW).Irq == (ws.getD i gW).Irq)) = true := List.all_eq_true.2 fun j hj => by
        have := List.find?_eq_none.1 hf j hj
        simpa using this
      rw [hall]
      exact ⟨_, rfl, rfl⟩
    | some j =>
      obtain ⟨h1, h2, _⟩ := List.find?_range_eq_some.1 hf
      have hall : (List.range i).all (fun j => !((ws.getD j gW).Irq == (ws.getD i gW).Irq)) = false := List.all_eq_false.2 ⟨j, h2, by simpa using h1⟩
      rw [hall]
      have : ((j : Int) ≥ 0) := by omega
      exact ⟨_, rfl, by simp [this]⟩
  · intro j hj
    have e0 : ((j : Int) < ((ws.take i).length : Int)) := by omega
    have hj' : j < (ws.take i).length := by omega
    simp only [e0, decide_true, cond_true, gxIdx_nat hj', List.getElem_take, Option.bind_some, M.i_waiterIndex_1, getD_at hi, getD_at (show j < ws.length by omega), w64_succ (show j ≤ 4611686018427387904 by omega)]
    cases (ws[j].Irq == ws[i].Irq) <;> rfl
  · rw [hl]
    simp
theorem i_parts (xs : List Slot) (ws : List Waiter) (hx : xs.length ≤ 1048576) (hw : ws.length ≤ 1048576) : M.i_areParts xs ws = some (goodP xs ws) := by
  unfold M.i_areParts goodP
  rw [i_goodS xs hx, Option.bind_some]
  cases goodS xs with
  | false => rfl
  | true =>
    simp only [Bool.not_true, cond_false, Bool.true_and]
    rw [while_all (fun i => (i : Int)) (okW xs ws) (Sum.inr false : Unit ⊕ Bool) (Sum.inl ()) ws.length (by simp) (by omega)]
    · cases (List.range ws.length).all (okW xs ws) <;> simp
    · intro i hi
      have e0 : ((i : Int) < (ws.length : Int)) := by omega
      have hsl : gxSlice ws 0 (i : Int) = some (ws.take i) := by
        unfold gxSlice
        rw [if_pos ⟨by omega, by omega, by omega⟩]
        simp
      obtain ⟨r, hr, hr2⟩ := i_windex ws i hi hw
      simp only [e0, decide_true, cond_true, gxIdx_nat hi, Option.bind_some, M.i_isIrq, M.i_isPriority, i_in, i_find xs _ hx, hsl, hr, hr2, i_cmpU, cmpU_ge, w64_succ (show i ≤ 4611686018427387904 by omega)]
      unfold okW inR
      rw [getD_at hi]
      cases (decide (0 ≤ ws[i].Irq) && decide (ws[i].Irq ≤ 7)) with
      | false => rfl
      | true => cases (decide (0 ≤ ws[i].Priority) && decide (ws[i].Priority ≤ 15)) with
        | false => rfl
        | true =>
          by_cases hf : fndS xs ws[i].Irq < 0
          · have hf2 : ¬ (fndS xs ws[i].Irq ≥ 0) := by omega
            simp only [hf, hf2, decide_true, decide_false, Bool.not_true, cond_false, Option.bind_some, Bool.true_and]
            cases freshW ws i with
            | false => rfl
            | true =>
              by_cases h0 : i = 0
              · subst h0
                have hz : ¬ (((0 : Nat) : Int) > 0) := by omega
                simp [hz]
              · have hz : ((i : Int) > 0) := by omega
                simp only [hz, h0, decide_true, decide_false, Bool.not_true, cond_false, cond_true, Option.bind_some, Bool.false_or, Bool.true_and, gxIdx_prevZ (z := gW) hi (show 0 < i by omega) (by omega)]
                cases lessU (ws.getD (i - 1) gW).Priority (ws.getD (i - 1) gW).Irq ws[i].Priority ws[i].Irq <;> rfl
          · have hf2 : (fndS xs ws[i].Irq ≥ 0) := by omega
            simp [hf, hf2]
    · simp
def frS (xs : List Slot) : Int := match (List.range xs.length).find? (fun i => (xs.getD i gS).State == 0) with
  | some i => (i : Int)
  | none => -1
theorem s_free (xs : List Slot) (h : xs.length ≤ 1048576) : M.s_l8Free xs = some (frS xs) := by
  unfold M.s_l8Free frS
  rw [while_first (fun i => (i : Int)) (fun i => (xs.getD i gS).State == 0) (fun i => (Sum.inr (i : Int) : Unit ⊕ Int)) (Sum.inl ()) xs.length (by simp) (by omega)]
  · cases (List.range xs.length).find? (fun i => (xs.getD i gS).State == 0) <;> rfl
  · intro i hi
    have e0 : ((i : Int) < (xs.length : Int)) := by omega
    simp only [e0, decide_true, cond_true, gxIdx_nat hi, Option.bind_some, getD_at hi, w64_succ (show i ≤ 4611686018427387904 by omega)]
    cases (xs[i].State == 0) <;> rfl
  · simp
theorem i_free (xs : List Slot) (h : xs.length ≤ 1048576) : M.i_firstEmpty xs = some (frS xs) := by
  unfold M.i_firstEmpty M.slices_IndexFunc_210__i_firstEmpty_1 frS
  rw [while_first (fun i => (i : Int)) (fun i => (xs.getD i gS).State == 0) (fun i => (Sum.inr (i : Int) : Unit ⊕ Int)) (Sum.inl ()) xs.length (by simp) (by omega)]
  · cases (List.range xs.length).find? (fun i => (xs.getD i gS).State == 0) <;> rfl
  · intro i hi
    have e0 : ((i : Int) < (xs.length : Int)) := by omega
    simp only [e0, decide_true, cond_true, gxIdx_nat hi, Option.bind_some, M.i_firstEmpty_1, getD_at hi, w64_succ (show i ≤ 4611686018427387904 by omega)]
    cases (xs[i].State == 0) <;> rfl
  · simp
def bestF (xs : List Slot) : Nat → Int
  | 0 => -1
  | i + 1 => bif (xs.getD i gS).State == 1 then (bif decide (bestF xs i < 0) || lessU (xs.getD (bestF xs i).toNat gS).Priority (xs.getD (bestF xs i).toNat gS).Irq (xs.getD i gS).Priority (xs.getD i gS).Irq then (i : Int) else bestF xs i) else bestF xs i
theorem bestF_at (xs : List Slot) : ∀ i, bestF xs i < 0 ∨ ∃ k, k < i ∧ bestF xs i = (k : Int) ∧ (xs.getD k gS).State = 1
  | 0 => Or.inl (by simp [bestF])
  | i + 1 => by
    have ih := bestF_at xs i
    have hih : bestF xs i < 0 ∨ ∃ k, k < i + 1 ∧ bestF xs i = (k : Int) ∧ (xs.getD k gS).State = 1 := by
      rcases ih with h | ⟨k, h1, h2, h3⟩
      · exact Or.inl h
      · exact Or.inr ⟨k, by omega, h2, h3⟩
    unfold bestF
    cases hs : ((xs.getD i gS).State == 1) with
    | false => exact hih
    | true =>
      simp only [cond_true]
      cases (decide (bestF xs i < 0) || lessU (xs.getD (bestF xs i).toNat gS).Priority (xs.getD (bestF xs i).toNat gS).Irq (xs.getD i gS).Priority (xs.getD i gS).Irq) with
      | false => exact hih
      | true => exact Or.inr ⟨i, by omega, rfl, by simpa using hs⟩
theorem s_best (xs : List Slot) (h : xs.length ≤ 1048576) : M.s_l8Best xs false = some (bestF xs xs.length) := by
  unfold M.s_l8Best
  rw [while_run (fun i => (bestF xs i, (i : Int))) (bestF xs xs.length) xs.length (by simp [bestF]) (by omega)]
  · rfl
  · intro i hi
    have e0 : ((i : Int) < (xs.length : Int)) := by omega
    simp only [e0, decide_true, cond_true, gxIdx_nat hi, Option.bind_some, s_less, w64_succ (show i ≤ 4611686018427387904 by omega)]
    have hb : bestF xs (i + 1) = bif xs[i].State == 1 then (bif decide (bestF xs i < 0) || lessU (xs.getD (bestF xs i).toNat gS).Priority (xs.getD (bestF xs i).toNat gS).Irq xs[i].Priority xs[i].Irq then (i : Int) else bestF xs i) else bestF xs i := by
      rw [bestF, getD_at hi]
    rw [hb]
    cases hs : (xs[i].State == 1) with
    | false => simp [bne, hs]
    | true =>
      simp only [bne, hs, Bool.not_true, cond_false, cond_true]
      rcases bestF_at xs i with hn | ⟨k, hk, he, _⟩
      · simp [hn]
      · have hkl : k < xs.length := by omega
        have hnn : ¬ ((k : Int) < 0) := by omega
        simp only [he, hnn, decide_false, cond_false, Bool.not_false, cond_true, gxIdx_nat hkl, Option.bind_some, Int.toNat_natCast, getD_at hkl, Bool.false_or]
        cases lessU xs[k].Priority xs[k].Irq xs[i].Priority xs[i].Irq <;> rfl
  · simp
theorem lessU_not {p q r s : Int} (h : q ≠ s) : (!(lessU p q r s)) = lessU r s p q := by
  unfold lessU
  rw [Bool.eq_iff_iff]
  simp only [Bool.not_eq_true', Bool.or_eq_false_iff, Bool.and_eq_false_iff, decide_eq_false_iff_not, Bool.or_eq_true, Bool.and_eq_true, decide_eq_true_eq, beq_iff_eq, beq_eq_false_iff_ne]
  omega
theorem irq_ne {xs : List Slot} (hg : goodS xs = true) {k i : Nat} (hk : k < i) (hi : i < xs.length) (hs : (xs[i].State == 0) = false) (hs2 : ((xs[k]'(by omega)).State == 0) = false) : (xs[k]'(by omega)).Irq ≠ xs[i].Irq := by
  unfold goodS at hg
  rw [Bool.and_eq_true, List.all_eq_true] at hg
  have := hg.2 i (List.mem_range.2 hi)
  unfold okSl freshS at this
  rw [getD_at hi, hs] at this
  simp only [Bool.and_eq_true, cond_false, List.all_eq_true] at this
  have h2 := this.2.2.2 k (List.mem_range.2 hk)
  rw [getD_at (show k < xs.length by omega)] at h2
  unfold mtS at h2
  simp only [bne, hs2, Bool.not_false, Bool.true_and, Bool.not_eq_true', beq_eq_false_iff_ne] at h2
  exact h2
theorem i_best (xs : List Slot) (h : xs.length ≤ 1048576) (hg : goodS xs = true) : M.i_pendingSlot xs false = some (bestF xs xs.length) := by
  unfold M.i_pendingSlot
  rw [while_run (fun i => (bestF xs i, (i : Int))) (bestF xs xs.length) xs.length (by simp [bestF]) (by omega)]
  · rfl
  · intro i hi
    have e0 : ((i : Int) < (xs.length : Int)) := by omega
    simp only [e0, decide_true, cond_true, gxIdx_nat hi, Option.bind_some, M.i_waiterOf, i_cmpU, w64_succ (show i ≤ 4611686018427387904 by omega)]
    have hb : bestF xs (i + 1) = bif xs[i].State == 1 then (bif decide (bestF xs i < 0) || lessU (xs.getD (bestF xs i).toNat gS).Priority (xs.getD (bestF xs i).toNat gS).Irq xs[i].Priority xs[i].Irq then (i : Int) else bestF xs i) else bestF xs i := by
      rw [bestF, getD_at hi]
    rw [hb]
    cases hs : (xs[i].State == 1) with
    | false => simp
    | true =>
      simp only [cond_true]
      rcases bestF_at xs i with hn | ⟨k, hk, he, hk1⟩
      · simp [hn]
      · have hkl : k < xs.length := by omega
        have hnn : ¬ ((k : Int) < 0) := by omega
        rw [getD_at hkl] at hk1
        have hs1 : xs[i].State = 1 := by simpa using hs
        have hne := irq_ne hg hk hi (by simp [hs1]) (by simp [hk1])
        have hl := lessU_not (p := xs[i].Priority) (r := xs[k].Priority) (q := xs[i].Irq) (s := xs[k].Irq) (fun e => hne e.symm)
        simp only [he, hnn, decide_false, cond_false, gxIdx_nat hkl, Option.bind_some, Int.toNat_natCast, getD_at hkl, Bool.false_or, cmpU_lt, beq_false, hl]
        cases lessU xs[k].Priority xs[k].Irq xs[i].Priority xs[i].Irq <;> rfl
  · simp
def setQ (q : Queue) : Bool := bif (q.Waiting.length : Int) == 0 then true else (bif decide (frS q.Slots ≥ 0) then false else (bif decide (bestF q.Slots q.Slots.length < 0) then true else lessU (q.Slots.getD (bestF q.Slots q.Slots.length).toNat gS).Priority (q.Slots.getD (bestF q.Slots q.Slots.length).toNat gS).Irq (q.Waiting.getD 0 gW).Priority (q.Waiting.getD 0 gW).Irq))
theorem s_settled (q : Queue) (h : q.Slots.length ≤ 1048576) : M.s_l9Settled q = some (setQ q) := by
  unfold M.s_l9Settled setQ
  cases hw : ((q.Waiting.length : Int) == 0) with
  | true => rfl
  | false =>
    have hw' : 0 < q.Waiting.length := by
      have : ¬ ((q.Waiting.length : Int) = 0) := by simpa using hw
      omega
    have h0 : gxIdx q.Waiting 0 = some (q.Waiting.getD 0 gW) := by rw [getD_at hw']; exact gxIdx_nat hw'
    simp only [cond_false, s_free _ h, Option.bind_some, s_best _ h, s_less, h0]
    cases decide (frS q.Slots ≥ 0) with
    | true => rfl
    | false =>
      simp only [cond_false]
      rcases bestF_at q.Slots q.Slots.length with hn | ⟨k, hk, he, _⟩
      · simp [hn]
      · have hnn : ¬ ((k : Int) < 0) := by omega
        simp only [he, hnn, decide_false, cond_false, gxIdx_nat hk, Option.bind_some, Int.toNat_natCast, getD_at hk]
theorem i_settled (q : Queue) (h : q.Slots.length ≤ 1048576) (hg : goodS q.Slots = true) : M.i_isSettled q = some (setQ q) := by
  unfold M.i_isSettled setQ
  cases hw : ((q.Waiting.length : Int) == 0) with
  | true => rfl
  | false =>
    have hw' : 0 < q.Waiting.length := by
      have : ¬ ((q.Waiting.length : Int) = 0) := by simpa using hw
      omega
    have h0 : gxIdx q.Waiting 0 = some (q.Waiting.getD 0 gW) := by rw [getD_at hw']; exact gxIdx_nat hw'
    simp only [cond_false, i_free _ h, Option.bind_some, i_best _ h hg, i_cmpU, h0, M.i_waiterOf, cmpU_gt]
    by_cases hf : frS q.Slots < 0
    · have hf2 : ¬ (frS q.Slots ≥ 0) := by omega
      simp only [hf, hf2, decide_true, decide_false, cond_true, cond_false]
      rcases bestF_at q.Slots q.Slots.length with hn | ⟨k, hk, he, _⟩
      · simp [hn]
      · have hnn : ¬ ((k : Int) < 0) := by omega
        simp only [he, hnn, decide_false, cond_false, gxIdx_nat hk, Option.bind_some, Int.toNat_natCast, getD_at hk]
    · have hf2 : (frS q.Slots ≥ 0) := by omega
      simp [hf, hf2]
def goodQ (q : Queue) : Bool := goodP q.Slots q.Waiting && setQ q
theorem s_goodQ (q : Queue) (h : q.Slots.length ≤ 1048576 ∧ q.Waiting.length ≤ 1048576) : M.s_l9Good q = some (goodQ q) := by
  unfold M.s_l9Good goodQ
  rw [s_waiting _ _ h.1 h.2, Option.bind_some, s_settled q h.1]
  cases goodP q.Slots q.Waiting <;> rfl
theorem i_goodQ (q : Queue) (h : q.Slots.length ≤ 1048576 ∧ q.Waiting.length ≤ 1048576) : M.i_IsQueue q = some (goodQ q) := by
  unfold M.i_IsQueue goodQ
  rw [i_parts _ _ h.1 h.2, Option.bind_some]
  cases hg : goodP q.Slots q.Waiting with
  | false => rfl
  | true =>
    unfold goodP at hg
    rw [Bool.and_eq_true] at hg
    rw [cond_true, i_settled q h.1 hg.1]
    rfl
end Go.Proofs.YtllhajkgkghhdaaGreat
set_option linter.unusedVariables false
set_option linter.unusedSimpArgs false
set_option maxHeartbeats 4000000
namespace Go.Proofs.YtllhajkgkghhdaaGreat
open Go.Gx
theorem while_filter {α β : Type} {xs : List α} (p : α → Bool) (f : α → β) {body : List β × Int → Option ((List β × Int) ⊕ List β)} (hl : xs.length ≤ 1099511627776)
    (h : ∀ (i : Nat) (hi : i < xs.length) (acc : List β), acc.length ≤ i → body (acc, (i : Int)) = some (.inl (bif p xs[i] then acc ++ [f xs[i]] else acc, w64 ((i : Int) + 1))))
    (he : ∀ acc, body (acc, (xs.length : Int)) = some (.inr acc)) : whileM body gxFuel ([], 0) = some ((xs.filter p).map f) := by
  refine while_run (fun i => (((xs.take i).filter p).map f, (i : Int))) _ xs.length (by simp) (by omega) (fun i hi => ?_) ?_
  · have hle : (((xs.take i).filter p).map f).length ≤ i := by
      rw [List.length_map]
      exact Nat.le_trans (List.length_filter_le _ _) (by simp; omega)
    rw [h i hi _ hle, w64_succ (by omega), List.take_add_one, List.getElem?_eq_getElem hi, Option.toList_some, List.filter_append, List.map_append]
    cases hp : p xs[i] <;> simp [hp]
  · rw [he, List.take_length]
theorem while_place {α : Type} {xs : List α} (p : α → Bool) {body : Int → Option (Int ⊕ Int)} (hl : xs.length ≤ 1099511627776)
    (h : ∀ (i : Nat) (hi : i < xs.length), body (i : Int) = some (bif p xs[i] then .inl (w64 ((i : Int) + 1)) else .inr (i : Int)))
    (he : body (xs.length : Int) = some (.inr (xs.length : Int))) : whileM body gxFuel 0 = some ((xs.takeWhile p).length : Int) := by
  have hk : (xs.takeWhile p).length ≤ xs.length := (List.takeWhile_prefix p).length_le
  refine while_run (fun i => (i : Int)) _ (xs.takeWhile p).length (by simp) (by omega) (fun i hi => ?_) ?_
  · have hi' : i < xs.length := by omega
    have hp : p xs[i] = true := by
      have h1 : (xs.takeWhile p)[i] = xs[i] := (List.takeWhile_prefix p).getElem hi
      have h2 := List.all_takeWhile (p := p) (l := xs)
      rw [List.all_eq_true] at h2
      rw [← h1]
      exact h2 _ (List.getElem_mem hi)
    rw [h i hi', hp, w64_succ (by omega)]
    rfl
  · by_cases hlt : (xs.takeWhile p).length < xs.length
    · have hp : p xs[(xs.takeWhile p).length] = false := by
        have h1 : xs = xs.takeWhile p ++ xs.dropWhile p := (List.takeWhile_append_dropWhile).symm
        cases hd : xs.dropWhile p with
        | nil => rw [hd, List.append_nil] at h1; rw [← h1] at hlt; omega
        | cons y r =>
          have h2 : p y = false := by
            have := List.head_dropWhile_not p (l := xs) (by rw [hd]; simp)
            simpa [hd] using this
          have h3 : xs[(xs.takeWhile p).length]? = some y := by
            conv => lhs; arg 1; rw [h1]
            rw [List.getElem?_append_right (Nat.le_refl _), Nat.sub_self, hd]
            rfl
          rw [List.getElem?_eq_getElem hlt] at h3
          rw [Option.some.inj h3]
          exact h2
      rw [h _ hlt, hp]
      rfl
    · rw [show (xs.takeWhile p).length = xs.length by omega, he]
theorem gxSlice_take {α : Type} {xs : List α} {k : Nat} (h : k ≤ xs.length) : gxSlice xs 0 (k : Int) = some (xs.take k) := by
  unfold gxSlice
  rw [if_pos ⟨by omega, by omega, by omega⟩]
  simp
theorem gxSlice_drop {α : Type} {xs : List α} {k : Nat} (h : k ≤ xs.length) : gxSlice xs (k : Int) (xs.length : Int) = some (xs.drop k) := by
  unfold gxSlice
  rw [if_pos ⟨by omega, by omega, by omega⟩]
  simp
theorem while_inv_fuel {σ ρ : Type} {body : σ → Option (σ ⊕ ρ)} (R : Nat → σ → Prop) (Q : ρ → Prop) (n : Nat) (hstep : ∀ i s, i < n → R i s → (∃ s', body s = some (.inl s') ∧ R (i + 1) s') ∨ (∃ r, body s = some (.inr r) ∧ Q r)) (hend : ∀ s, R n s → ∃ r, body s = some (.inr r) ∧ Q r) : ∀ (k i fuel : Nat) (s : σ), i + k = n → k < fuel → R i s → ∃ r, whileM body fuel s = some r ∧ Q r
  | 0, i, fuel, s, hi, hf, hR => by
    obtain ⟨m, rfl⟩ : ∃ m, fuel = m + 1 := ⟨fuel - 1, by omega⟩
    obtain ⟨r, hr, hq⟩ := hend s (by rw [← hi]; exact hR)
    exact ⟨r, by simp only [whileM, hr], hq⟩
  | k + 1, i, fuel, s, hi, hf, hR => by
    obtain ⟨m, rfl⟩ : ∃ m, fuel = m + 1 := ⟨fuel - 1, by omega⟩
    rcases hstep i s (by omega) hR with ⟨s', hs, hR'⟩ | ⟨r, hr, hq⟩
    · obtain ⟨r, hr, hq⟩ := while_inv_fuel R Q n hstep hend k (i + 1) m s' (by omega) (by omega) hR'
      exact ⟨r, by simp only [whileM, hs]; exact hr, hq⟩
    · exact ⟨r, by simp only [whileM, hr], hq⟩
theorem while_inv {σ ρ : Type} {body : σ → Option (σ ⊕ ρ)} {s0 : σ} (R : Nat → σ → Prop) (Q : ρ → Prop) (n : Nat) (hn : n ≤ 4611686018427387904) (h0 : R 0 s0) (hstep : ∀ i s, i < n → R i s → (∃ s', body s = some (.inl s') ∧ R (i + 1) s') ∨ (∃ r, body s = some (.inr r) ∧ Q r)) (hend : ∀ s, R n s → ∃ r, body s = some (.inr r) ∧ Q r) : ∃ r, whileM body gxFuel s0 = some r ∧ Q r :=
  while_inv_fuel R Q n hstep hend n 0 gxFuel s0 (by omega) (by unfold gxFuel; omega) h0
def isAct (s : Slot) : Bool := s.State == 2 || s.State == 3
def actS (xs : List Slot) : List Int := (xs.filter isAct).map (·.Irq)
theorem actS_snoc (xs : List Slot) (s : Slot) : actS (xs ++ [s]) = actS xs ++ (bif isAct s then [s.Irq] else []) := by
  unfold actS
  rw [List.filter_append, List.map_append]
  cases h : isAct s <;> simp [h]
theorem isAct_ne {s : Slot} (h : isAct s = true) : (s.State == 0) = false := by
  unfold isAct at h
  simp only [Bool.or_eq_true, beq_iff_eq] at h
  have : s.State ≠ 0 := by omega
  simp [this]
theorem actS_new {xs : List Slot} (hg : goodS xs = true) {i : Nat} (hi : i < xs.length) (ha : isAct xs[i] = true) : xs[i].Irq ∉ actS (xs.take i) := by
  intro hc
  obtain ⟨s, hs, he⟩ := List.mem_map.1 hc
  obtain ⟨hm, hs2⟩ := List.mem_filter.1 hs
  obtain ⟨k, hk, hk2⟩ := List.getElem_of_mem hm
  have hki : k < i := by simp at hk; omega
  rw [List.getElem_take] at hk2
  exact irq_ne hg hki hi (isAct_ne ha) (by rw [hk2]; exact isAct_ne hs2) (by rw [hk2, he])
theorem actS_nodup {xs : List Slot} (hg : goodS xs = true) : ∀ i, i ≤ xs.length → (actS (xs.take i)).Nodup
  | 0, _ => by simp [actS]
  | i + 1, hi => by
    have ih := actS_nodup hg i (by omega)
    rw [List.take_add_one, List.getElem?_eq_getElem (show i < xs.length by omega), Option.toList_some, actS_snoc]
    cases ha : isAct (xs[i]'(by omega)) with
    | false => simpa using ih
    | true =>
      have hn := actS_new hg (show i < xs.length by omega) ha
      simp only [cond_true]
      rw [List.nodup_append]
      refine ⟨ih, by simp, fun a ha2 b hb => ?_⟩
      rw [List.mem_singleton.1 hb]
      exact fun e => hn (e ▸ ha2)
theorem s_put (l : List Int) (x : Int) (hl : l.length ≤ 1048576) (hx : x ∉ l) : ∃ r, M.s_l1Put l x = some r ∧ r.Perm (x :: l) := by
  unfold M.s_l1Put
  have hk : (l.takeWhile (fun y => decide (y < x))).length ≤ l.length := (List.takeWhile_prefix _).length_le
  rw [while_place (xs := l) (fun y => decide (y < x)) (by omega)]
  · have hno : (bif decide (((l.takeWhile (fun y => decide (y < x))).length : Int) < (l.length : Int)) then (Option.bind (gxIdx l ((l.takeWhile (fun y => decide (y < x))).length : Int)) fun y2907 => some (y2907 == x)) else some false) = some false := by
      by_cases hlt : (l.takeWhile (fun y => decide (y < x))).length < l.length
      · have e1 : (((l.takeWhile (fun y => decide (y < x))).length : Int) < (l.length : Int)) := by omega
        simp only [e1, decide_true, cond_true, gxIdx_nat hlt, Option.bind_some]
        have : (l[(l.takeWhile (fun y => decide (y < x))).length] == x) = false := by
          rw [beq_eq_false_iff_ne]
          exact fun e => hx (e ▸ List.getElem_mem hlt)
        rw [this]
      · have e1 : ¬ (((l.takeWhile (fun y => decide (y < x))).length : Int) < (l.length : Int)) := by omega
        simp only [e1, decide_false, cond_false]
    simp only [Option.bind_some]
    rw [hno]
    simp only [Option.bind_some, cond_false, gxSlice_take hk, gxSlice_drop hk]
    rw [gxApp_ok (by simp; omega), Option.bind_some, gxApp_ok (by simp; omega), Option.bind_some, gxApp_ok (by simp; omega), Option.bind_some]
    refine ⟨_, rfl, ?_⟩
    rw [List.nil_append, List.append_assoc, List.singleton_append]
    refine List.perm_middle.trans ?_
    rw [List.take_append_drop]
  · intro i hi
    have e0 : ((i : Int) < (l.length : Int)) := by omega
    simp only [e0, decide_true, cond_true, gxIdx_nat hi, Option.bind_some]
    cases decide (l[i] < x) <;> rfl
  · simp
theorem s_active (xs : List Slot) (hg : goodS xs = true) : ∃ A, M.s_l8Active xs = some A ∧ A.Perm (actS xs) := by
  have h4 : xs.length = 4 := by
    unfold goodS at hg
    simp only [Bool.and_eq_true, beq_iff_eq] at hg
    omega
  unfold M.s_l8Active
  obtain ⟨A, hA, hp⟩ := while_inv (body := fun s3081 : List Int × Int =>
    bif decide (s3081.2 < (xs.length : Int)) then (Option.bind (α := Bool) (Option.bind (gxIdx xs s3081.2) fun y3109 =>
    bif y3109.State == 2 then some true
    else (Option.bind (gxIdx xs s3081.2) fun y3111 =>
    some (y3111.State == 3))) fun o3106 =>
    Option.bind (α := List Int) (bif o3106 then (Option.bind (gxIdx xs s3081.2) fun y3136 =>
    Option.bind (M.s_l1Put s3081.1 y3136.Irq) fun r3137 =>
    some r3137)
    else some s3081.1) fun o3127 =>
    some (Sum.inl (β := List Int) (o3127, w64 (s3081.2 + 1))))
    else some (.inr s3081.1)) (s0 := (([] : List Int), 0)) (fun i s => s.2 = (i : Int) ∧ s.1.Perm (actS (xs.take i))) (fun A => A.Perm (actS xs)) xs.length (by omega) ⟨rfl, by simp [actS]⟩ (fun i s hi hR => by
      obtain ⟨l, j⟩ := s
      obtain ⟨hj, hp⟩ := hR
      simp only at hj hp
      subst hj
      have e0 : ((i : Int) < (xs.length : Int)) := by omega
      have hact : (Option.bind (some xs[i]) fun (y3109 : Slot) => bif y3109.State == 2 then some true else (Option.bind (some xs[i]) fun (y3111 : Slot) => some (y3111.State == 3))) = some (isAct xs[i]) := by
        unfold isAct
        simp only [Option.bind_some]
        cases (xs[i].State == 2) <;> rfl
      simp only [e0, decide_true, cond_true, gxIdx_nat hi]
      rw [hact]
      simp only [Option.bind_some, w64_succ (show i ≤ 4611686018427387904 by omega)]
      have hsn : actS (xs.take (i + 1)) = actS (xs.take i) ++ (bif isAct xs[i] then [xs[i].Irq] else []) := by
        rw [List.take_add_one, List.getElem?_eq_getElem hi, Option.toList_some, actS_snoc]
      have hll : l.length ≤ 4 := by
        rw [hp.length_eq]
        unfold actS
        rw [List.length_map]
        have := List.length_filter_le isAct (xs.take i)
        have h2 : (xs.take i).length ≤ 4 := by simp; omega
        omega
      cases ha : isAct xs[i] with
      | false =>
        rw [ha] at hsn
        simp only [cond_false, List.append_nil] at hsn
        simp only [cond_false, Option.bind_some]
        exact Or.inl ⟨_, rfl, rfl, by simp only; rw [hsn]; exact hp⟩
      | true =>
        rw [ha] at hsn
        simp only [cond_true] at hsn
        have hn := actS_new hg hi ha
        obtain ⟨r, hr, hrp⟩ := s_put l xs[i].Irq (by omega) (fun hc => hn (hp.mem_iff.1 hc))
        simp only [cond_true, hr, Option.bind_some]
        refine Or.inl ⟨_, rfl, rfl, ?_⟩
        simp only
        rw [hsn]
        exact (hrp.trans (hp.cons _)).trans (List.perm_append_comm (l₁ := [xs[i].Irq])) ) (fun s hR => by
      obtain ⟨l, j⟩ := s
      obtain ⟨hj, hp⟩ := hR
      simp only at hj hp
      subst hj
      simp only [Int.lt_irrefl, decide_false, cond_false]
      rw [List.take_length] at hp
      exact ⟨_, rfl, hp⟩)
  rw [hA]
  exact ⟨A, rfl, hp⟩
theorem i_active (xs : List Slot) (h : xs.length ≤ 1048576) : M.i_activeIrqs xs = some (gxSortI (actS xs)) := by
  unfold M.i_activeIrqs
  rw [while_filter (xs := xs) isAct (·.Irq) (by omega)]
  · have hl : (actS xs).length < 4611686018427387904 := by
      unfold actS
      rw [List.length_map]
      have := List.length_filter_le isAct xs
      omega
    simp only [Option.bind_some]
    unfold M.slices_Sort_114
    have hl' : decide (((xs.filter isAct).map (·.Irq)).length < 4611686018427387904) = true := decide_eq_true hl
    rw [hl']
    rfl
  · intro i hi acc hacc
    have e0 : ((i : Int) < (xs.length : Int)) := by omega
    have hact : M.i_isActive xs[i] = some (isAct xs[i]) := by
      unfold M.i_isActive isAct
      cases (xs[i].State == 2) <;> rfl
    simp only [e0, decide_true, cond_true, gxIdx_nat hi, Option.bind_some, hact]
    cases isAct xs[i] with
    | false => rfl
    | true =>
      simp only [cond_true]
      rw [gxApp_ok (by simp; omega)]
      rfl
  · intro acc
    simp
theorem s_has (l : List Int) (x : Int) (h : l.length ≤ 1048576) : M.s_l1Has l x = some (decide (x ∈ l)) := by
  unfold M.s_l1Has
  rw [while_first (fun i => (i : Int)) (fun i => l.getD i 0 == x) (fun _ => (Sum.inr true : Unit ⊕ Bool)) (Sum.inl ()) l.length (by simp) (by omega)]
  · cases hf : (List.range l.length).find? (fun i => l.getD i 0 == x) with
    | none =>
      have : x ∉ l := fun hx => by
        obtain ⟨i, hi, he⟩ := List.getElem_of_mem hx
        have := List.find?_eq_none.1 hf i (List.mem_range.2 hi)
        rw [getD_at hi, he] at this
        simp at this
      simp [this]
    | some i =>
      obtain ⟨h1, h2, _⟩ := List.find?_range_eq_some.1 hf
      have h2 := List.mem_range.1 h2
      rw [getD_at h2, beq_iff_eq] at h1
      have : x ∈ l := h1 ▸ List.getElem_mem h2
      simp [this]
  · intro i hi
    have e0 : ((i : Int) < (l.length : Int)) := by omega
    simp only [e0, decide_true, cond_true, gxIdx_nat hi, Option.bind_some, getD_at hi, w64_succ (show i ≤ 4611686018427387904 by omega)]
    cases (l[i] == x) <;> rfl
  · simp
theorem i_equal (a b : List Int) (h : a.length ≤ 1048576) : M.slices_Equal_115 a b = some (decide (a = b)) := by
  unfold M.slices_Equal_115
  by_cases hl : a.length = b.length
  · have hlI : ((a.length : Int) != (b.length : Int)) = false := by simp [hl]
    rw [hlI, cond_false, while_all (fun i => (i : Int)) (fun i => a.getD i 0 == b.getD i 0) (Sum.inr false : Unit ⊕ Bool) (Sum.inl ()) a.length (by simp) (by omega)]
    · cases ha : (List.range a.length).all (fun i => a.getD i 0 == b.getD i 0) with
      | true =>
        have : a = b := by
          apply List.ext_getElem hl
          intro i h1 h2
          have := List.all_eq_true.1 ha i (List.mem_range.2 h1)
          rw [getD_at h1, getD_at h2] at this
          simpa using this
        simp [this]
      | false =>
        have : a ≠ b := fun e => by
          subst e
          rw [List.all_eq_false] at ha
          obtain ⟨i, _, hi⟩ := ha
          simp at hi
        simp [this]
    · intro i hi
      have e0 : ((i : Int) < (a.length : Int)) := by omega
      simp only [e0, decide_true, cond_true, gxIdx_nat hi, gxIdx_nat (show i < b.length by omega), Option.bind_some, getD_at hi, getD_at (show i < b.length by omega), bne, w64_succ (show i ≤ 4611686018427387904 by omega)]
      cases (a[i] == b[i]) <;> rfl
    · simp
  · have hlI : ((a.length : Int) != (b.length : Int)) = true := by simp; omega
    have : a ≠ b := fun e => hl (by rw [e])
    rw [hlI, cond_true]
    simp [this]
theorem sort_eq_iff (a b : List Int) : gxSortI a = gxSortI b ↔ a.Perm b := by
  unfold gxSortI
  constructor
  · intro h
    have h1 := (List.mergeSort_perm a (fun x y => decide (x ≤ y))).symm
    rw [h] at h1
    exact h1.trans (List.mergeSort_perm b _)
  · intro h
    have hs : ∀ l : List Int, (l.mergeSort fun x y => decide (x ≤ y)).Pairwise fun x y => decide (x ≤ y) = true := fun l => List.pairwise_mergeSort (fun a b c h1 h2 => by
      rw [decide_eq_true_eq] at *
      omega) (fun a b => by
      rw [Bool.or_eq_true, decide_eq_true_eq, decide_eq_true_eq]
      omega) l
    refine List.Perm.eq_of_pairwise (le := fun x y => decide (x ≤ y) = true) (fun x y _ _ h1 h2 => by
      rw [decide_eq_true_eq] at *
      omega) (hs a) (hs b) ?_
    exact ((List.mergeSort_perm a _).trans h).trans (List.mergeSort_perm b _).symm
def levS (xs : List Slot) (q : Int) : Int := (xs.getD (fndS xs q).toNat gS).Priority
theorem act_find {xs : List Slot} {q : Int} (h : q ∈ actS xs) : ¬ fndS xs q < 0 := by
  intro hn
  obtain ⟨s, hs, rfl⟩ := List.mem_map.1 h
  obtain ⟨hm, ha⟩ := List.mem_filter.1 hs
  obtain ⟨i, hi, rfl⟩ := List.getElem_of_mem hm
  have := fndS_neg.1 hn i hi
  unfold mtS at this
  simp [bne, isAct_ne ha] at this
theorem s_level (q : Queue) (irq : Int) (h : q.Slots.length ≤ 1048576) (hf : ¬ fndS q.Slots irq < 0) : M.s_l10Level q irq = some (levS q.Slots irq) := by
  unfold M.s_l10Level levS
  obtain ⟨i, hi, he, _⟩ := fndS_at hf
  rw [s_find _ _ h, Option.bind_some, he, gxIdx_nat hi, Option.bind_some, Int.toNat_natCast, getD_at hi]
theorem i_level (xs : List Slot) (irq : Int) (h : xs.length ≤ 1048576) (hf : ¬ fndS xs irq < 0) : M.i_priorityIn xs irq = some (levS xs irq) := by
  unfold M.i_priorityIn levS
  obtain ⟨i, hi, he, _⟩ := fndS_at hf
  rw [i_find _ _ h, Option.bind_some, he, gxIdx_nat hi, Option.bind_some, Int.toNat_natCast, getD_at hi]
def levsOk (xs : List Slot) (st : List Int) : Bool := (List.range st.length).all fun i => decide (i = 0) || decide (levS xs (st.getD (i - 1) 0) > levS xs (st.getD i 0))
def goodI (x : Interface) : Bool := inR x.Mask 0 16 && (goodQ x.Queue && (decide (gxSortI x.Stack = gxSortI (actS x.Queue.Slots)) && levsOk x.Queue.Slots x.Stack))
theorem goodQ_slots {q : Queue} (h : goodQ q = true) : goodS q.Slots = true := by
  unfold goodQ goodP at h
  simp only [Bool.and_eq_true] at h
  exact h.1.1
theorem s_goodI (x : Interface) (h : fitIf x) : M.s_l10Good x = some (goodI x) := by
  have hx := h.1
  have hq := h.2
  unfold M.s_l10Good goodI inR
  have hgq : M.s_l9Good (⟨x.Queue.Slots, x.Queue.Waiting⟩ : Queue) = some (goodQ x.Queue) := s_goodQ x.Queue hq
  simp only [s_in, hgq, Option.bind_some]
  cases (decide (0 ≤ x.Mask) && decide (x.Mask ≤ 16)) with
  | false => rfl
  | true => cases hg : goodQ x.Queue with
    | false => rfl
    | true =>
      have hs := goodQ_slots hg
      obtain ⟨A, hA, hp⟩ := s_active x.Queue.Slots hs
      have hnd : A.Nodup := hp.nodup_iff.2 (by have := actS_nodup hs x.Queue.Slots.length (Nat.le_refl _); rwa [List.take_length] at this)
      have hAl : A.length ≤ 1048576 := by
        rw [hp.length_eq]
        unfold actS
        rw [List.length_map]
        have := List.length_filter_le isAct x.Queue.Slots
        omega
      simp only [hA, Bool.not_true, cond_false, Option.bind_some, Bool.true_and]
      rw [while_upto (fun i => (i : Int)) (fun i => (decide (x.Stack.getD i 0 ∈ A) && !(decide (x.Stack.getD i 0 ∈ x.Stack.take i))) && (decide (i = 0) || decide (levS x.Queue.Slots (x.Stack.getD (i - 1) 0) > levS x.Queue.Slots (x.Stack.getD i 0)))) (Sum.inr false : Unit ⊕ Bool) (Sum.inl ()) x.Stack.length (by simp) (by omega)]
      · by_cases hperm : x.Stack.Perm A
        · have hsort : gxSortI x.Stack = gxSortI (actS x.Queue.Slots) := (sort_eq_iff _ _).2 (hperm.trans hp)
          have hndS : x.Stack.Nodup := hperm.nodup_iff.2 hnd
          have hlen : ((x.Stack.length : Int) == (A.length : Int)) = true := by rw [hperm.length_eq]; simp
          have hall : (List.range x.Stack.length).all (fun i => (decide (x.Stack.getD i 0 ∈ A) && !(decide (x.Stack.getD i 0 ∈ x.Stack.take i))) && (decide (i = 0) || decide (levS x.Queue.Slots (x.Stack.getD (i - 1) 0) > levS x.Queue.Slots (x.Stack.getD i 0)))) = levsOk x.Queue.Slots x.Stack := by
            unfold levsOk
            rw [Bool.eq_iff_iff, List.all_eq_true, List.all_eq_true]
            have hin : ∀ i, i < x.Stack.length → (decide (x.Stack.getD i 0 ∈ A) && !(decide (x.Stack.getD i 0 ∈ x.Stack.take i))) = true := fun i hi => by
              rw [getD_at hi]
              have h1 : x.Stack[i] ∈ A := hperm.mem_iff.1 (List.getElem_mem hi)
              have h2 : x.Stack[i] ∉ x.Stack.take i := fun hc => by
                obtain ⟨k, hk, hk2⟩ := List.getElem_of_mem hc
                have hki : k < i := by simp at hk; omega
                rw [List.getElem_take] at hk2
                have := (List.pairwise_iff_getElem.1 hndS) k i (by omega) hi hki
                exact this hk2
              simp [h1, h2]
            exact ⟨fun hh i hi => by have := hh i hi; rw [hin i (List.mem_range.1 hi)] at this; simpa using this, fun hh i hi => by rw [hin i (List.mem_range.1 hi)]; simpa using hh i hi⟩
          rw [hall, decide_eq_true hsort, Bool.true_and]
          cases levsOk x.Queue.Slots x.Stack with
          | false => rfl
          | true => simp only [cond_true, Option.bind_some, Sum.elim_inl, hlen]
        · have hsort : ¬ (gxSortI x.Stack = gxSortI (actS x.Queue.Slots)) := fun e => hperm (((sort_eq_iff _ _).1 e).trans hp.symm)
          rw [decide_eq_false hsort, Bool.false_and]
          cases hall : (List.range x.Stack.length).all (fun i => (decide (x.Stack.getD i 0 ∈ A) && !(decide (x.Stack.getD i 0 ∈ x.Stack.take i))) && (decide (i = 0) || decide (levS x.Queue.Slots (x.Stack.getD (i - 1) 0) > levS x.Queue.Slots (x.Stack.getD i 0)))) with
          | false => rfl
          | true =>
            rw [List.all_eq_true] at hall
            have hlen : ((x.Stack.length : Int) == (A.length : Int)) = false := by
              rw [beq_eq_false_iff_ne]
              intro hl
              refine hperm (nodup_perm ?_ (fun y hy => ?_) (by omega))
              · rw [List.Nodup, List.pairwise_iff_getElem]
                intro i j hi hj hij he
                have := hall j (List.mem_range.2 hj)
                simp only [Bool.and_eq_true, Bool.not_eq_true', decide_eq_false_iff_not] at this
                rw [getD_at hj] at this
                refine this.1.2 ?_
                rw [← he]
                have : x.Stack[i] = (x.Stack.take j)[i]'(by simp; omega) := by rw [List.getElem_take]
                rw [this]
                exact List.getElem_mem _
              · obtain ⟨i, hi, rfl⟩ := List.getElem_of_mem hy
                have := hall i (List.mem_range.2 hi)
                simp only [Bool.and_eq_true, decide_eq_true_eq] at this
                rw [getD_at hi] at this
                exact this.1.1
            simp only [cond_true, Option.bind_some, Sum.elim_inl, hlen]
      · intro i hi hprev
        have e0 : ((i : Int) < (x.Stack.length : Int)) := by omega
        have hsl : gxSlice x.Stack 0 (i : Int) = some (x.Stack.take i) := by
          unfold gxSlice
          rw [if_pos ⟨by omega, by omega, by omega⟩]
          simp
        simp only [e0, decide_true, cond_true, gxIdx_nat hi, Option.bind_some, s_has A _ hAl, hsl, s_has (x.Stack.take i) _ (show (x.Stack.take i).length ≤ 1048576 by simp; omega), getD_at hi, w64_succ (show i ≤ 4611686018427387904 by omega)]
        by_cases hin : x.Stack[i] ∈ A
        · by_cases hdup : x.Stack[i] ∈ x.Stack.take i
          · simp [hin, hdup]
          · by_cases h0 : i = 0
            · subst h0
              have hz : ¬ (((0 : Nat) : Int) > 0) := by omega
              simp [hin, hdup, hz]
            · have hz : ((i : Int) > 0) := by omega
              have hpl : i - 1 < x.Stack.length := by omega
              have hp1 := hprev (i - 1) (by omega)
              simp only [Bool.and_eq_true, decide_eq_true_eq] at hp1
              have hpa : x.Stack.getD (i - 1) 0 ∈ A := hp1.1.1
              have hl1 := s_level (⟨x.Queue.Slots, x.Queue.Waiting⟩ : Queue) (x.Stack.getD (i - 1) 0) hq.1 (act_find (hp.mem_iff.1 hpa))
              have hl2 := s_level (⟨x.Queue.Slots, x.Queue.Waiting⟩ : Queue) x.Stack[i] hq.1 (act_find (hp.mem_iff.1 hin))
              simp only [hin, hdup, hz, h0, decide_true, decide_false, Bool.not_true, Bool.not_false, cond_true, cond_false, Option.bind_some, Bool.true_and, Bool.false_or, gxIdx_prevZ (z := (0 : Int)) hi (show 0 < i by omega) (by omega), hl1, hl2]
              by_cases hlev : levS x.Queue.Slots (x.Stack.getD (i - 1) 0) ≤ levS x.Queue.Slots x.Stack[i]
              · have : ¬ (levS x.Queue.Slots (x.Stack.getD (i - 1) 0) > levS x.Queue.Slots x.Stack[i]) := by omega
                simp only [hlev, this, decide_true, decide_false, cond_true, cond_false]
              · have : (levS x.Queue.Slots (x.Stack.getD (i - 1) 0) > levS x.Queue.Slots x.Stack[i]) := by omega
                simp only [hlev, this, decide_true, decide_false, cond_true, cond_false]
        · simp [hin]
      · intro _
        simp
theorem i_goodI (x : Interface) (h : fitIf x) : M.i_IsInterface x = some (goodI x) := by
  have hx := h.1
  have hq := h.2
  unfold M.i_IsInterface goodI inR
  have hgq : M.i_IsQueue (⟨x.Queue.Slots, x.Queue.Waiting⟩ : Queue) = some (goodQ x.Queue) := i_goodQ x.Queue hq
  simp only [M.i_isMask, i_in, hgq, Option.bind_some]
  cases (decide (0 ≤ x.Mask) && decide (x.Mask ≤ 16)) with
  | false => rfl
  | true => cases hg : goodQ x.Queue with
    | false => rfl
    | true =>
      have hcp : M.i_copyInts x.Stack = some x.Stack := by
        unfold M.i_copyInts
        rw [gxApp_ok (by simp; omega)]
        rfl
      have hso : M.slices_Sort_114 x.Stack = some (gxSortI x.Stack) := by
        unfold M.slices_Sort_114
        rw [decide_eq_true (show x.Stack.length < 4611686018427387904 by omega)]
        rfl
      have hsl : (gxSortI x.Stack).length ≤ 1048576 := by simp [gxSortI]; omega
      simp only [Bool.not_true, cond_false, Bool.true_and, hcp, hso, i_active _ hq.1, i_equal _ _ hsl, Option.bind_some]
      by_cases hsort : gxSortI x.Stack = gxSortI (actS x.Queue.Slots)
      · have hperm := (sort_eq_iff _ _).1 hsort
        rw [decide_eq_true hsort]
        simp only [Bool.not_true, cond_false, Bool.true_and]
        have hin : ∀ i, (hi : i < x.Stack.length) → ¬ fndS x.Queue.Slots x.Stack[i] < 0 := fun i hi => act_find (hperm.mem_iff.1 (List.getElem_mem hi))
        rw [while_all (fun j => ((j + 1 : Nat) : Int)) (fun j => decide (levS x.Queue.Slots (x.Stack.getD j 0) > levS x.Queue.Slots (x.Stack.getD (j + 1) 0))) (Sum.inr false : Unit ⊕ Bool) (Sum.inl ()) (x.Stack.length - 1) (by simp) (by omega)]
        · have hlev : (List.range (x.Stack.length - 1)).all (fun j => decide (levS x.Queue.Slots (x.Stack.getD j 0) > levS x.Queue.Slots (x.Stack.getD (j + 1) 0))) = levsOk x.Queue.Slots x.Stack := by
            unfold levsOk
            rw [Bool.eq_iff_iff, List.all_eq_true, List.all_eq_true]
            constructor
            · intro hh i hi
              have hi := List.mem_range.1 hi
              by_cases h0 : i = 0
              · simp [h0]
              · have := hh (i - 1) (List.mem_range.2 (by omega))
                rw [Nat.sub_add_cancel (by omega)] at this
                simp only [h0, decide_false, Bool.false_or]
                exact this
            · intro hh j hj
              have := hh (j + 1) (List.mem_range.2 (by have := List.mem_range.1 hj; omega))
              simpa using this
          rw [hlev]
          cases levsOk x.Queue.Slots x.Stack <;> simp
        · intro j hj
          have hj1 : j + 1 < x.Stack.length := by omega
          have e0 : (((j + 1 : Nat) : Int) < (x.Stack.length : Int)) := by omega
          have hpr : gxIdx x.Stack (w64 (((j + 1 : Nat) : Int) - 1)) = some (x.Stack[j]'(by omega)) := by
            rw [w64_id (by omega) (by omega)]
            have e : ((j + 1 : Nat) : Int) - 1 = (j : Int) := by omega
            rw [e, gxIdx_nat (by omega)]
          simp only [e0, decide_true, cond_true, gxIdx_nat hj1, Option.bind_some, i_level _ _ hq.1 (hin (j + 1) hj1), hpr, i_level _ _ hq.1 (hin j (by omega)), getD_at hj1, getD_at (show j < x.Stack.length by omega), w64_succ (show j + 1 ≤ 4611686018427387904 by omega)]
          by_cases hlev : levS x.Queue.Slots x.Stack[j + 1] ≥ levS x.Queue.Slots (x.Stack[j]'(by omega))
          · have : ¬ (levS x.Queue.Slots (x.Stack[j]'(by omega)) > levS x.Queue.Slots x.Stack[j + 1]) := by omega
            simp only [hlev, this, decide_true, decide_false, cond_true, cond_false]
          · have : (levS x.Queue.Slots (x.Stack[j]'(by omega)) > levS x.Queue.Slots x.Stack[j + 1]) := by omega
            simp only [hlev, this, decide_true, decide_false, cond_true, cond_false]
        · have e0 : ¬ ((((x.Stack.length - 1) + 1 : Nat) : Int) < (x.Stack.length : Int)) := by omega
          simp only [e0, decide_false, cond_false]
      · rw [decide_eq_false hsort]
        rfl
end Go.Proofs.YtllhajkgkghhdaaGreat
set_option linter.unusedVariables false
set_option linter.unusedSimpArgs false
set_option maxHeartbeats 4000000
namespace Go.Proofs.YtllhajkgkghhdaaGreat
open Go.Gx
theorem i_routesZ (xs : List Route) (c : Int) (h : xs.length ≤ 1048576) : M.i_areRoutes xs c = some (okRts xs c) := by
  unfold M.i_areRoutes M.slices_ContainsFunc_109__i_areRoutes_1 M.slices_IndexFunc_159__i_areRoutes_1 okRts
  simp only [i_in, Option.bind_some]
  cases (decide (1 ≤ c) && decide (c ≤ 2)) with
  | false => rfl
  | true => cases ((xs.length : Int) == 8) with
    | false => rfl
    | true =>
      simp only [cond_true, Bool.true_and]
      rw [while_first (fun i => (i : Int)) (fun i => !(okRt c (xs.getD i ⟨0, 0⟩))) (fun i => (Sum.inr (i : Int) : Unit ⊕ Int)) (Sum.inl ()) xs.length (by simp) (by omega)]
      · cases hf : (List.range xs.length).find? (fun i => !(okRt c (xs.getD i ⟨0, 0⟩))) with
        | none =>
          have : (List.range xs.length).all (fun i => okRt c (xs.getD i ⟨0, 0⟩)) = true := by
            rw [List.all_eq_true]
            intro i hi
            have := List.find?_eq_none.1 hf i hi
            simpa using this
          rw [this]
          rfl
        | some i =>
          have h1 := List.find?_some hf
          have h2 := List.mem_of_find?_eq_some hf
          have : (List.range xs.length).all (fun i => okRt c (xs.getD i ⟨0, 0⟩)) = false := by
            rw [List.all_eq_false]
            exact ⟨i, h2, by simpa using h1⟩
          have hge : ((i : Int) ≥ 0) := by omega
          rw [this]
          simp only [Option.bind_some, Sum.elim_inr, hge, decide_true, Bool.not_true]
      · intro i hi
        have e0 : ((i : Int) < (xs.length : Int)) := by omega
        simp only [e0, decide_true, cond_true, gxIdx_nat hi, Option.bind_some, M.i_areRoutes_1, M.i_isPriority, i_in, getD_at hi, w64_succ (show i ≤ 4611686018427387904 by omega)]
        unfold okRt
        cases (decide (0 ≤ xs[i].Priority) && decide (xs[i].Priority ≤ 15)) with
        | false => rfl
        | true =>
          simp only [Bool.not_true, cond_false, Option.bind_some, Bool.true_and]
          cases (decide (0 ≤ xs[i].Target) && decide (xs[i].Target ≤ w64 (c - 1))) <;> rfl
      · simp
def okQueue (x : Queue) : Prop := okL okSlot x.Slots ∧ okL okWaiter x.Waiting
def okInterface (x : Interface) : Prop := okI x.Mask ∧ okL okI x.Stack ∧ okQueue x.Queue
def okMachine (x : Machine) : Prop := okL okRoute x.Routes ∧ okL okB x.Enabled ∧ okL okB x.Raised ∧ okL okInterface x.Cpus
theorem toIf_id (x : Interface) (h : fitIf x) : M.l_toInterface x = some x := by
  unfold M.l_toInterface M.l_toQueue
  simp only [toIntS_id _ (show x.Stack.length ≤ 1099511627776 by have := h.1; omega), toSlotS_id _ (show x.Queue.Slots.length ≤ 1099511627776 by have := h.2.1; omega), toWaiterS_id _ (show x.Queue.Waiting.length ≤ 1099511627776 by have := h.2.2; omega), Option.bind_some]
theorem toIfS_id (xs : List Interface) (hl : xs.length ≤ 1048576) (h : ∀ x ∈ xs, fitIf x) : M.l_toInterfaceS xs = some xs := by
  unfold M.l_toInterfaceS
  rw [gxMake_nat (by omega), Option.bind_some, while_run (fun i => ((i : Int), taken xs ⟨0, [], ⟨[], []⟩⟩ i)) xs xs.length (by simp [taken_zero]) (by omega)]
  · rfl
  · intro i hi
    have h1 : ((i : Int) < (xs.length : Int)) := by omega
    have h2 : i < (taken xs (⟨0, [], ⟨[], []⟩⟩ : Interface) i).length := by rw [taken_length (by omega)]; exact hi
    have h3 := toIf_id xs[i] (h _ (List.getElem_mem hi))
    simp only [h1, decide_true, cond_true, gxIdx_nat hi, gxIdx_nat h2, Option.bind_some]
    rw [h3]
    simp only [Option.bind_some, w64_succ (show i ≤ 4611686018427387904 by omega), Int.toNat_natCast]
    have := taken_set (z := (⟨0, [], ⟨[], []⟩⟩ : Interface)) hi
    rw [← this]
  · simp [taken_all]
theorem toMachine_id (m : Machine) (h : fitM m) : M.l_toMachine m = some m := by
  obtain ⟨h1, h2, h3, h4, h5, _⟩ := h
  unfold M.l_toMachine
  simp only [toRouteS_id _ (show m.Routes.length ≤ 1099511627776 by omega), toBoolS_id _ (show m.Enabled.length ≤ 1099511627776 by omega), toBoolS_id _ (show m.Raised.length ≤ 1099511627776 by omega), toIfS_id _ h4 h5, Option.bind_some]
theorem sz_len (n : Nat) (left : Int) (h : n ≤ 9223372036854775807) (hl : -1 ≤ left ∧ left ≤ 1048576) : ∃ q, (bif decide (w64 (left - (n : Int)) < 0) then some (-1 : Int) else some (w64 (left - (n : Int)))) = some q ∧ (q < 0 ∨ (0 ≤ q ∧ q ≤ left ∧ q + (n : Int) = left)) := by
  rw [w64_id (by omega) (by omega)]
  by_cases hc : left - (n : Int) < 0
  · exact ⟨-1, by simp [hc], Or.inl (by omega)⟩
  · exact ⟨left - n, by simp [hc], Or.inr (by omega)⟩
def nIf (x : Interface) : Nat := x.Stack.length + x.Queue.Slots.length + x.Queue.Waiting.length
theorem szIf_ex (x : Interface) (left : Int) (h : okInterface x) (hl : 0 ≤ left ∧ left ≤ 1048576) : ∃ q, M.l_szInterface x left = some q ∧ (q < 0 ∨ (0 ≤ q ∧ q ≤ left ∧ q + (nIf x : Int) = left)) := by
  unfold M.l_szInterface M.l_szQueue M.l_szIntS M.l_szSlotS M.l_szWaiterS nIf
  obtain ⟨q1, h1, e1⟩ := sz_len x.Stack.length left h.2.1.1 (by omega)
  rw [h1, Option.bind_some]
  rcases e1 with e1 | e1
  · simp only [e1, decide_true, cond_true]
    exact ⟨_, rfl, Or.inl (by omega)⟩
  obtain ⟨q2, h2, e2⟩ := sz_len x.Queue.Slots.length q1 h.2.2.1.1 (by omega)
  have hn1 : ¬ (q1 < 0) := by omega
  simp only [hn1, decide_false, cond_false]
  rw [h2, Option.bind_some]
  rcases e2 with e2 | e2
  · simp only [e2, decide_true, cond_true, Option.bind_some]
    exact ⟨_, rfl, Or.inl (by omega)⟩
  obtain ⟨q3, h3, e3⟩ := sz_len x.Queue.Waiting.length q2 h.2.2.2.1 (by omega)
  have hn2 : ¬ (q2 < 0) := by omega
  simp only [hn2, decide_false, cond_false]
  rw [h3, Option.bind_some]
  rcases e3 with e3 | e3
  · simp only [e3, decide_true, cond_true, Option.bind_some]
    exact ⟨_, rfl, Or.inl (by omega)⟩
  have hn3 : ¬ (q3 < 0) := by omega
  simp only [hn3, decide_false, cond_false, Option.bind_some]
  exact ⟨_, rfl, Or.inr (by omega)⟩
def nIfs (xs : List Interface) : Nat := (xs.map nIf).sum
theorem nIfs_snoc (xs : List Interface) (x : Interface) : nIfs (xs ++ [x]) = nIfs xs + nIf x := by simp [nIfs]
theorem szIfS_ex (xs : List Interface) (left : Int) (h : okL okInterface xs) (hl : -1 ≤ left ∧ left ≤ 1048576) : ∃ q, M.l_szInterfaceS xs left = some q ∧ (q < 0 ∨ (0 ≤ q ∧ q ≤ left ∧ q + (nIfs xs : Int) + (xs.length : Int) = left)) := by
  unfold M.l_szInterfaceS
  have h1 := h.1
  rw [w64_id (by omega) (by omega)]
  by_cases hc : left - (xs.length : Int) < 0
  · simp only [hc, decide_true, cond_true]
    exact ⟨-1, rfl, Or.inl (by omega)⟩
  · simp only [hc, decide_false, cond_false]
    obtain ⟨r, hr, hq⟩ := while_inv (body := fun s185 : Int × Int =>
      bif decide (s185.2 < (xs.length : Int)) then (Option.bind (gxIdx xs s185.2) fun y197 =>
      Option.bind (M.l_szInterface (⟨y197.Mask, y197.Stack, (⟨y197.Queue.Slots, y197.Queue.Waiting⟩ : Queue)⟩ : Interface) s185.1) fun r207 =>
      bif decide (r207 < 0) then some (Sum.inr (α := Int × Int) (Sum.inr (α := Int) (-1 : Int)))
      else some (.inl (r207, w64 (s185.2 + 1))))
      else some (.inr (.inl s185.1))) (s0 := (left - (xs.length : Int), 0)) (fun i s => s.2 = (i : Int) ∧ 0 ≤ s.1 ∧ s.1 + (nIfs (xs.take i) : Int) = left - (xs.length : Int)) (fun r => (∃ q, r = Sum.inl q ∧ 0 ≤ q ∧ q + (nIfs xs : Int) = left - (xs.length : Int)) ∨ r = Sum.inr (-1)) xs.length (by omega) ⟨rfl, by simp only; omega, by simp [nIfs]⟩ (fun i s hi hR => by
        obtain ⟨l, j⟩ := s
        obtain ⟨hj, hl0, hls⟩ := hR
        simp only at hj hl0 hls
        subst hj
        have e0 : ((i : Int) < (xs.length : Int)) := by omega
        obtain ⟨q, hq, e⟩ := szIf_ex xs[i] l (h.2 _ (List.getElem_mem hi)) (by omega)
        simp only [e0, decide_true, cond_true, gxIdx_nat hi, Option.bind_some]
        rw [hq, Option.bind_some]
        rcases e with e | e
        · simp only [e, decide_true, cond_true]
          exact Or.inr ⟨_, rfl, Or.inr rfl⟩
        · have hn : ¬ (q < 0) := by omega
          simp only [hn, decide_false, cond_false, w64_succ (show i ≤ 4611686018427387904 by omega)]
          refine Or.inl ⟨_, rfl, rfl, by simp only; omega, ?_⟩
          rw [List.take_add_one, List.getElem?_eq_getElem hi, Option.toList_some, nIfs_snoc]
          simp only
          omega) (fun s hR => by
        obtain ⟨l, j⟩ := s
        obtain ⟨hj, hl0, hls⟩ := hR
        simp only at hj hl0 hls
        subst hj
        rw [List.take_length] at hls
        simp only [Int.lt_irrefl, decide_false, cond_false]
        exact ⟨_, rfl, Or.inl ⟨_, rfl, hl0, hls⟩⟩)
    rw [hr, Option.bind_some]
    rcases hq with ⟨q, rfl, h2, h3⟩ | rfl
    · exact ⟨q, rfl, Or.inr (by omega)⟩
    · exact ⟨-1, rfl, Or.inl (by omega)⟩
theorem mem_nIfs {xs : List Interface} {x : Interface} (h : x ∈ xs) : nIf x ≤ nIfs xs := by
  induction xs with
  | nil => cases h
  | cons y r ih =>
    simp only [nIfs, List.map_cons, List.sum_cons]
    rcases List.mem_cons.1 h with rfl | h
    · omega
    · have := ih h
      unfold nIfs at this
      omega
theorem wIfs_le (xs : List Interface) : wIfs xs ≤ 3 * nIfs xs + xs.length := by
  induction xs with
  | nil => simp [wIfs, nIfs]
  | cons y r ih =>
    simp only [wIfs, nIfs, List.map_cons, List.sum_cons, List.length_cons] at ih ⊢
    have : wIf y ≤ 3 * nIf y + 1 := by unfold wIf nIf; omega
    omega
theorem szMachine_ex (m : Machine) (left : Int) (h : okMachine m) (hl : 0 ≤ left ∧ left ≤ 1048576) : ∃ q, M.l_szMachine m left = some q ∧ (q < 0 ∨ (0 ≤ q ∧ q ≤ left ∧ fitM m)) := by
  unfold M.l_szMachine M.l_szRouteS M.l_szBoolS
  obtain ⟨q1, h1, e1⟩ := sz_len m.Routes.length left h.1.1 (by omega)
  rw [h1, Option.bind_some]
  rcases e1 with e1 | e1
  · simp only [e1, decide_true, cond_true]
    exact ⟨_, rfl, Or.inl (by omega)⟩
  have hn1 : ¬ (q1 < 0) := by omega
  simp only [hn1, decide_false, cond_false]
  obtain ⟨q2, h2, e2⟩ := sz_len m.Enabled.length q1 h.2.1.1 (by omega)
  rw [h2, Option.bind_some]
  rcases e2 with e2 | e2
  · simp only [e2, decide_true, cond_true]
    exact ⟨_, rfl, Or.inl (by omega)⟩
  have hn2 : ¬ (q2 < 0) := by omega
  simp only [hn2, decide_false, cond_false]
  obtain ⟨q3, h3, e3⟩ := sz_len m.Raised.length q2 h.2.2.1.1 (by omega)
  rw [h3, Option.bind_some]
  rcases e3 with e3 | e3
  · simp only [e3, decide_true, cond_true]
    exact ⟨_, rfl, Or.inl (by omega)⟩
  have hn3 : ¬ (q3 < 0) := by omega
  simp only [hn3, decide_false, cond_false]
  obtain ⟨q4, h4, e4⟩ := szIfS_ex m.Cpus q3 h.2.2.2 (by omega)
  rw [h4, Option.bind_some]
  rcases e4 with e4 | e4
  · simp only [e4, decide_true, cond_true]
    exact ⟨_, rfl, Or.inl (by omega)⟩
  have hn4 : ¬ (q4 < 0) := by omega
  simp only [hn4, decide_false, cond_false]
  have hw := wIfs_le m.Cpus
  exact ⟨_, rfl, Or.inr ⟨e4.1, by omega, by omega, by omega, by omega, by omega, fun x hx => by
    have := mem_nIfs hx
    unfold nIf at this
    exact ⟨by omega, by omega, by omega⟩, by omega⟩⟩
def gR : Route := ⟨0, 0⟩
def rtOk (rs : List Route) (k q p : Int) : Bool := (rs.getD q.toNat gR).Target == k && (rs.getD q.toNat gR).Priority == p
def fitOk (rs : List Route) (k : Int) (x : Interface) : Bool := (x.Queue.Slots.all fun s => !(s.State == 3)) && ((x.Queue.Slots.all fun s => (s.State == 0) || rtOk rs k s.Irq s.Priority) && (x.Queue.Waiting.all fun w => rtOk rs k w.Irq w.Priority))
theorem goodI_irqs {x : Interface} (h : goodI x = true) : (∀ s ∈ x.Queue.Slots, 0 ≤ s.Irq ∧ s.Irq ≤ 7) ∧ ∀ w ∈ x.Queue.Waiting, 0 ≤ w.Irq ∧ w.Irq ≤ 7 := by
  unfold goodI goodQ goodP goodS at h
  simp only [Bool.and_eq_true, List.all_eq_true] at h
  constructor
  · intro s hs
    obtain ⟨i, hi, rfl⟩ := List.getElem_of_mem hs
    have := h.2.1.1.1.2 i (List.mem_range.2 hi)
    unfold okSl inR at this
    rw [getD_at hi] at this
    simp only [Bool.and_eq_true, decide_eq_true_eq] at this
    exact this.2.1
  · intro w hw
    obtain ⟨i, hi, rfl⟩ := List.getElem_of_mem hw
    have := h.2.1.1.2 i (List.mem_range.2 hi)
    unfold okW inR at this
    rw [getD_at hi] at this
    simp only [Bool.and_eq_true, decide_eq_true_eq] at this
    exact this.1
theorem gxIdx_irq {rs : List Route} (hr : rs.length = 8) {q : Int} (hq : 0 ≤ q ∧ q ≤ 7) : gxIdx rs q = some (rs.getD q.toNat gR) := by
  obtain ⟨n, rfl⟩ : ∃ n : Nat, q = n := ⟨q.toNat, by omega⟩
  rw [gxIdx_nat (by omega), Int.toNat_natCast, getD_at (by omega)]
theorem range_all {α : Type} (xs : List α) (z : α) (p : α → Bool) : (List.range xs.length).all (fun i => p (xs.getD i z)) = xs.all p := by
  rw [Bool.eq_iff_iff, List.all_eq_true, List.all_eq_true]
  constructor
  · intro h x hx
    obtain ⟨i, hi, rfl⟩ := List.getElem_of_mem hx
    have := h i (List.mem_range.2 hi)
    rwa [getD_at hi] at this
  · intro h i hi
    have hi := List.mem_range.1 hi
    rw [getD_at hi]
    exact h _ (List.getElem_mem hi)
theorem s_fit (rs : List Route) (k : Int) (x : Interface) (hr : rs.length = 8) (h : fitIf x) (hg : goodI x = true) : M.s_l21Queue rs x.Queue k = some (fitOk rs k x) := by
  obtain ⟨g1, g2⟩ := goodI_irqs hg
  have hs := h.2.1
  have hw := h.2.2
  unfold M.s_l21Queue
  rw [while_all (fun i => (i : Int)) (fun i => (fun s : Slot => !(s.State == 3) && ((s.State == 0) || rtOk rs k s.Irq s.Priority)) (x.Queue.Slots.getD i gS)) (Sum.inr false : Unit ⊕ Bool) (Sum.inl ()) x.Queue.Slots.length (by simp) (by omega)]
  · rw [range_all x.Queue.Slots gS (fun s : Slot => !(s.State == 3) && ((s.State == 0) || rtOk rs k s.Irq s.Priority)), while_all (fun i => (i : Int)) (fun i => (fun w : Waiter => rtOk rs k w.Irq w.Priority) (x.Queue.Waiting.getD i gW)) (Sum.inr false : Unit ⊕ Bool) (Sum.inl ()) x.Queue.Waiting.length (by simp) (by omega)]
    · rw [range_all x.Queue.Waiting gW (fun w : Waiter => rtOk rs k w.Irq w.Priority)]
      unfold fitOk
      have : (x.Queue.Slots.all fun s : Slot => !(s.State == 3) && ((s.State == 0) || rtOk rs k s.Irq s.Priority)) = ((x.Queue.Slots.all fun s => !(s.State == 3)) && (x.Queue.Slots.all fun s => (s.State == 0) || rtOk rs k s.Irq s.Priority)) := by
        rw [Bool.eq_iff_iff]
        simp only [Bool.and_eq_true, List.all_eq_true]
        exact ⟨fun hh => ⟨fun s hs => (hh s hs).1, fun s hs => (hh s hs).2⟩, fun hh s hs => ⟨hh.1 s hs, hh.2 s hs⟩⟩
      rw [this, ← Bool.and_assoc]
      cases ((x.Queue.Slots.all fun s => !(s.State == 3)) && (x.Queue.Slots.all fun s => (s.State == 0) || rtOk rs k s.Irq s.Priority)) with
      | false => rfl
      | true => cases (x.Queue.Waiting.all fun w : Waiter => rtOk rs k w.Irq w.Priority) <;> rfl
    · intro i hi
      have e0 : ((i : Int) < (x.Queue.Waiting.length : Int)) := by omega
      simp only [e0, decide_true, cond_true, gxIdx_nat hi, Option.bind_some, gxIdx_irq hr (g2 _ (List.getElem_mem hi)), getD_at hi, w64_succ (show i ≤ 4611686018427387904 by omega), rtOk, bne]
      cases ((rs.getD x.Queue.Waiting[i].Irq.toNat gR).Target == k) with
      | false => rfl
      | true => cases ((rs.getD x.Queue.Waiting[i].Irq.toNat gR).Priority == x.Queue.Waiting[i].Priority) <;> rfl
    · simp
  · intro i hi
    have e0 : ((i : Int) < (x.Queue.Slots.length : Int)) := by omega
    simp only [e0, decide_true, cond_true, gxIdx_nat hi, Option.bind_some, gxIdx_irq hr (g1 _ (List.getElem_mem hi)), getD_at hi, w64_succ (show i ≤ 4611686018427387904 by omega), rtOk, bne]
    cases (x.Queue.Slots[i].State == 3) with
    | true => rfl
    | false => cases (x.Queue.Slots[i].State == 0) with
      | true => rfl
      | false => cases ((rs.getD x.Queue.Slots[i].Irq.toNat gR).Target == k) with
        | false => rfl
        | true => cases ((rs.getD x.Queue.Slots[i].Irq.toNat gR).Priority == x.Queue.Slots[i].Priority) <;> rfl
  · simp
theorem i_fit (rs : List Route) (k : Int) (x : Interface) (hr : rs.length = 8) (h : fitIf x) (hg : goodI x = true) : M.i_fitsRoutes rs k x = some (fitOk rs k x) := by
  obtain ⟨g1, g2⟩ := goodI_irqs hg
  have hs := h.2.1
  have hw := h.2.2
  unfold M.i_fitsRoutes
  have hcl : M.slices_Clone_118 x.Queue.Waiting = some x.Queue.Waiting := by
    unfold M.slices_Clone_118
    rw [gxApp_ok (by simp; omega)]
    rfl
  rw [hcl, Option.bind_some]
  rw [while_upto (fun i => (x.Queue.Waiting ++ ((x.Queue.Slots.take i).filter (fun s => s.State != 0)).map (fun s => (⟨s.Irq, s.Priority⟩ : Waiter)), (i : Int))) (fun i => !((x.Queue.Slots.getD i gS).State == 3)) (Sum.inr false : List Waiter ⊕ Bool) (Sum.inl (x.Queue.Waiting ++ (x.Queue.Slots.filter (fun s => s.State != 0)).map (fun s => (⟨s.Irq, s.Priority⟩ : Waiter)))) x.Queue.Slots.length (by simp) (by omega)]
  · rw [range_all x.Queue.Slots gS (fun s => !(s.State == 3))]
    unfold fitOk
    cases (x.Queue.Slots.all fun s => !(s.State == 3)) with
    | false => rfl
    | true =>
      simp only [cond_true, Option.bind_some, Sum.elim_inl, Bool.true_and]
      unfold M.slices_ContainsFunc_120__i_fitsRoutes_1 M.slices_IndexFunc_166__i_fitsRoutes_1
      generalize hL : x.Queue.Waiting ++ (x.Queue.Slots.filter (fun s => s.State != 0)).map (fun s => (⟨s.Irq, s.Priority⟩ : Waiter)) = L
      have hLl : L.length ≤ 4194304 := by
        rw [← hL, List.length_append, List.length_map]
        have := List.length_filter_le (fun s : Slot => s.State != 0) x.Queue.Slots
        omega
      have hLi : ∀ w ∈ L, 0 ≤ w.Irq ∧ w.Irq ≤ 7 := fun w hwm => by
        rw [← hL, List.mem_append] at hwm
        rcases hwm with h1 | h1
        · exact g2 w h1
        · obtain ⟨s, hs1, rfl⟩ := List.mem_map.1 h1
          exact g1 s (List.mem_filter.1 hs1).1
      have hval : (L.all fun w => rtOk rs k w.Irq w.Priority) = ((x.Queue.Slots.all fun s => (s.State == 0) || rtOk rs k s.Irq s.Priority) && (x.Queue.Waiting.all fun w => rtOk rs k w.Irq w.Priority)) := by
        rw [← hL, List.all_append, Bool.and_comm]
        congr 1
        rw [Bool.eq_iff_iff]
        simp only [List.all_eq_true, List.mem_map, List.mem_filter, bne, Bool.not_eq_true', Bool.or_eq_true]
        constructor
        · intro hh s hs1
          cases hz : (s.State == 0) with
          | true => exact Or.inl rfl
          | false => exact Or.inr (hh _ ⟨s, ⟨hs1, hz⟩, rfl⟩)
        · rintro hh w ⟨s, ⟨hs1, hz⟩, rfl⟩
          rcases hh s hs1 with h1 | h1
          · rw [hz] at h1; cases h1
          · exact h1
      rw [← hval]
      rw [while_first (fun i => (i : Int)) (fun i => !(rtOk rs k (L.getD i gW).Irq (L.getD i gW).Priority)) (fun i => (Sum.inr (i : Int) : Unit ⊕ Int)) (Sum.inl ()) L.length (by simp) (by omega)]
      · cases hf : (List.range L.length).find? (fun i => !(rtOk rs k (L.getD i gW).Irq (L.getD i gW).Priority)) with
        | none =>
          have : (L.all fun w => rtOk rs k w.Irq w.Priority) = true := by
            rw [← range_all L gW (fun w => rtOk rs k w.Irq w.Priority), List.all_eq_true]
            intro i hi
            have := List.find?_eq_none.1 hf i hi
            simpa using this
          rw [this]
          rfl
        | some i =>
          obtain ⟨h1, h2, _⟩ := List.find?_range_eq_some.1 hf
          have : (L.all fun w => rtOk rs k w.Irq w.Priority) = false := by
            rw [← range_all L gW (fun w => rtOk rs k w.Irq w.Priority), List.all_eq_false]
            exact ⟨i, h2, by simpa using h1⟩
          have hge : ((i : Int) ≥ 0) := by omega
          rw [this]
          simp [hge]
      · intro i hi
        have e0 : ((i : Int) < (L.length : Int)) := by omega
        simp only [e0, decide_true, cond_true, gxIdx_nat hi, Option.bind_some, M.i_fitsRoutes_1, gxIdx_irq hr (hLi _ (List.getElem_mem hi)), getD_at hi, w64_succ (show i ≤ 4611686018427387904 by omega), rtOk, Bool.and_true]
        cases ((rs.getD L[i].Irq.toNat gR).Priority == L[i].Priority) with
        | false => cases ((rs.getD L[i].Irq.toNat gR).Target == k) <;> rfl
        | true => cases ((rs.getD L[i].Irq.toNat gR).Target == k) <;> rfl
      · simp
  · intro i hi _
    have e0 : ((i : Int) < (x.Queue.Slots.length : Int)) := by omega
    have htk : (x.Queue.Slots.take (i + 1)).filter (fun s => s.State != 0) = (x.Queue.Slots.take i).filter (fun s => s.State != 0) ++ (bif x.Queue.Slots[i].State != 0 then [x.Queue.Slots[i]] else []) := by
      rw [List.take_add_one, List.getElem?_eq_getElem hi, Option.toList_some, List.filter_append]
      cases hz : (x.Queue.Slots[i].State != 0) <;> simp [hz]
    have hll : ((x.Queue.Slots.take i).filter (fun s => s.State != 0)).length ≤ i := by
      have := List.length_filter_le (fun s : Slot => s.State != 0) (x.Queue.Slots.take i)
      have h2 : (x.Queue.Slots.take i).length ≤ i := by simp; omega
      omega
    simp only [e0, decide_true, cond_true, gxIdx_nat hi, Option.bind_some, getD_at hi, M.i_waiterOf, w64_succ (show i ≤ 4611686018427387904 by omega), htk]
    cases (x.Queue.Slots[i].State == 3) with
    | true => rfl
    | false => cases (x.Queue.Slots[i].State != 0) with
      | false => simp
      | true =>
        simp only [cond_false, cond_true, Bool.not_false]
        rw [gxApp_ok (by simp; omega)]
        simp
  · intro _
    simp
def goodMc (m : Machine) : Bool := okRts m.Routes (m.Cpus.length : Int) && (((m.Enabled.length : Int) == 8) && (((m.Raised.length : Int) == 8) && (List.range m.Cpus.length).all (fun k => goodI (m.Cpus.getD k ⟨0, [], ⟨[], []⟩⟩) && fitOk m.Routes (k : Int) (m.Cpus.getD k ⟨0, [], ⟨[], []⟩⟩))))
theorem okRts_len {rs : List Route} {c : Int} (h : okRts rs c = true) : rs.length = 8 := by
  unfold okRts at h
  simp only [Bool.and_eq_true, beq_iff_eq] at h
  omega
theorem s_goodMc (m : Machine) (h : fitM m) : M.s_l21Good m = some (goodMc m) := by
  obtain ⟨h1, h2, h3, h4, h5, _⟩ := h
  unfold M.s_l21Good goodMc
  rw [s_routes m.Routes _ h1, Option.bind_some]
  cases hr : okRts m.Routes (m.Cpus.length : Int) with
  | false => rfl
  | true =>
    have hr8 := okRts_len hr
    simp only [bne, Bool.not_true, cond_false, Bool.true_and]
    cases ((m.Enabled.length : Int) == 8) with
    | false => rfl
    | true => cases ((m.Raised.length : Int) == 8) with
      | false => rfl
      | true =>
        simp only [Bool.not_true, cond_false, Bool.true_and, Option.bind_some]
        rw [while_all (fun i => (i : Int)) (fun k => goodI (m.Cpus.getD k ⟨0, [], ⟨[], []⟩⟩) && fitOk m.Routes (k : Int) (m.Cpus.getD k ⟨0, [], ⟨[], []⟩⟩)) (Sum.inr false : Unit ⊕ Bool) (Sum.inl ()) m.Cpus.length (by simp) (by omega)]
        · cases (List.range m.Cpus.length).all (fun k => goodI (m.Cpus.getD k ⟨0, [], ⟨[], []⟩⟩) && fitOk m.Routes (k : Int) (m.Cpus.getD k ⟨0, [], ⟨[], []⟩⟩)) <;> simp
        · intro k hk
          have e0 : ((k : Int) < (m.Cpus.length : Int)) := by omega
          have hf := h5 _ (List.getElem_mem hk)
          have hgi := s_goodI m.Cpus[k] hf
          simp only [e0, decide_true, cond_true, gxIdx_nat hk, Option.bind_some, getD_at hk, w64_succ (show k ≤ 4611686018427387904 by omega)]
          rw [hgi, Option.bind_some]
          cases hg : goodI m.Cpus[k] with
          | false => rfl
          | true =>
            have hft := s_fit m.Routes (k : Int) m.Cpus[k] hr8 hf hg
            simp only [Bool.not_true, cond_false, Bool.true_and]
            rw [hft, Option.bind_some]
            cases fitOk m.Routes (k : Int) m.Cpus[k] <;> rfl
        · simp
theorem i_goodMc (m : Machine) (h : fitM m) : M.i_IsMachine m = some (goodMc m) := by
  obtain ⟨h1, h2, h3, h4, h5, _⟩ := h
  unfold M.i_IsMachine goodMc
  rw [i_routesZ m.Routes _ h1, Option.bind_some]
  cases hr : okRts m.Routes (m.Cpus.length : Int) with
  | false => rfl
  | true =>
    have hr8 := okRts_len hr
    simp only [bne, Bool.not_true, cond_false, Bool.true_and]
    cases ((m.Enabled.length : Int) == 8) with
    | false => rfl
    | true => cases ((m.Raised.length : Int) == 8) with
      | false => rfl
      | true =>
        simp only [Bool.not_true, cond_false, Bool.true_and, Option.bind_some]
        rw [while_all (fun i => (i : Int)) (fun k => goodI (m.Cpus.getD k ⟨0, [], ⟨[], []⟩⟩) && fitOk m.Routes (k : Int) (m.Cpus.getD k ⟨0, [], ⟨[], []⟩⟩)) (Sum.inr false : Unit ⊕ Bool) (Sum.inl ()) m.Cpus.length (by simp) (by omega)]
        · cases (List.range m.Cpus.length).all (fun k => goodI (m.Cpus.getD k ⟨0, [], ⟨[], []⟩⟩) && fitOk m.Routes (k : Int) (m.Cpus.getD k ⟨0, [], ⟨[], []⟩⟩)) <;> simp
        · intro k hk
          have e0 : ((k : Int) < (m.Cpus.length : Int)) := by omega
          have hf := h5 _ (List.getElem_mem hk)
          have hgi := i_goodI m.Cpus[k] hf
          simp only [e0, decide_true, cond_true, gxIdx_nat hk, Option.bind_some, getD_at hk, w64_succ (show k ≤ 4611686018427387904 by omega)]
          rw [hgi, Option.bind_some]
          cases hg : goodI m.Cpus[k] with
          | false => rfl
          | true =>
            have hft := i_fit m.Routes (k : Int) m.Cpus[k] hr8 hf hg
            simp only [Bool.not_true, cond_false, Bool.true_and]
            rw [hft, Option.bind_some]
            cases fitOk m.Routes (k : Int) m.Cpus[k] <;> rfl
        · simp
end Go.Proofs.YtllhajkgkghhdaaGreat
set_option linter.unusedVariables false
set_option linter.unusedSimpArgs false
set_option maxHeartbeats 4000000
namespace Go.Proofs.YtllhajkgkghhdaaGreat
open Go.Gx
def keyW (w : Waiter) : Int := 8 * w.Priority + w.Irq
def wOf (s : Slot) : Waiter := ⟨s.Irq, s.Priority⟩
def okWt (w : Waiter) : Prop := (0 ≤ w.Irq ∧ w.Irq ≤ 7) ∧ (0 ≤ w.Priority ∧ w.Priority ≤ 15)
def okSlt (s : Slot) : Prop := (0 ≤ s.State ∧ s.State ≤ 3) ∧ okWt (wOf s) ∧ (s.State = 0 → s.Irq = 0 ∧ s.Priority = 0)
def sepS (a b : Slot) : Prop := a.State = 0 ∨ b.State = 0 ∨ a.Irq ≠ b.Irq
theorem less_key {a b : Waiter} (ha : okWt a) (hb : okWt b) : lessU a.Priority a.Irq b.Priority b.Irq = decide (keyW a < keyW b) := by
  unfold okWt at ha hb
  unfold lessU keyW
  rw [Bool.eq_iff_iff]
  simp only [Bool.or_eq_true, Bool.and_eq_true, decide_eq_true_eq, beq_iff_eq]
  omega
structure GS (xs : List Slot) : Prop where
  len : xs.length = 4
  ok : ∀ s ∈ xs, okSlt s
  sep : xs.Pairwise sepS
theorem goodS_iff (xs : List Slot) : goodS xs = true ↔ GS xs := by
  unfold goodS
  rw [Bool.and_eq_true, beq_iff_eq, List.all_eq_true]
  constructor
  · rintro ⟨hl, h⟩
    have hb : ∀ i, (hi : i < xs.length) → okSlt xs[i] ∧ ∀ j, (hj : j < i) → sepS (xs[j]'(by omega)) xs[i] := fun i hi => by
      have := h i (List.mem_range.2 hi)
      unfold okSl inR freshS at this
      rw [getD_at hi] at this
      simp only [Bool.and_eq_true, decide_eq_true_eq] at this
      obtain ⟨h1, h2, h3, h4⟩ := this
      by_cases h0 : xs[i].State = 0
      · have e0 : (xs[i].State == 0) = true := by simp [h0]
        rw [e0, cond_true, Bool.and_eq_true, beq_iff_eq, beq_iff_eq] at h4
        exact ⟨⟨h1, ⟨h2, h3⟩, fun _ => h4⟩, fun j hj => Or.inr (Or.inl h0)⟩
      · have e0 : (xs[i].State == 0) = false := by simp [h0]
        rw [e0, cond_false, List.all_eq_true] at h4
        refine ⟨⟨h1, ⟨h2, h3⟩, fun h => absurd h h0⟩, fun j hj => ?_⟩
        have := h4 j (List.mem_range.2 hj)
        rw [getD_at (show j < xs.length by omega)] at this
        unfold mtS at this
        by_cases hz : (xs[j]'(by omega)).State = 0
        · exact Or.inl hz
        · refine Or.inr (Or.inr fun e => ?_)
          simp [hz, e] at this
    refine ⟨by omega, fun s hs => ?_, ?_⟩
    · obtain ⟨i, hi, rfl⟩ := List.getElem_of_mem hs
      exact (hb i hi).1
    · rw [List.pairwise_iff_getElem]
      intro i j hi hj hij
      exact (hb j hj).2 i hij
  · rintro ⟨hl, h1, h2⟩
    refine ⟨by omega, fun i hi => ?_⟩
    have hi := List.mem_range.1 hi
    obtain ⟨g1, ⟨g2, g3⟩, g4⟩ := h1 _ (List.getElem_mem hi)
    unfold okSl inR freshS
    rw [getD_at hi]
    simp only [wOf] at g2 g3
    simp only [Bool.and_eq_true, decide_eq_true_eq]
    refine ⟨g1, g2, g3, ?_⟩
    by_cases h0 : xs[i].State = 0
    · have e0 : (xs[i].State == 0) = true := by simp [h0]
      rw [e0, cond_true, Bool.and_eq_true, beq_iff_eq, beq_iff_eq]
      exact g4 h0
    · have e0 : (xs[i].State == 0) = false := by simp [h0]
      rw [e0, cond_false, List.all_eq_true]
      intro j hj
      have hj := List.mem_range.1 hj
      rw [getD_at (show j < xs.length by omega)]
      unfold mtS
      rcases List.pairwise_iff_getElem.1 h2 j i (by omega) hi hj with h | h | h
      · simp [h]
      · exact absurd h h0
      · simp [h]
structure GP (q : Queue) : Prop where
  s : GS q.Slots
  ok : ∀ w ∈ q.Waiting, okWt w
  ord : q.Waiting.Pairwise fun a b => keyW a < keyW b
  dist : (q.Waiting.map Waiter.Irq).Nodup
  apart : ∀ w ∈ q.Waiting, ∀ s ∈ q.Slots, s.State = 0 ∨ s.Irq ≠ w.Irq
theorem fndS_none {xs : List Slot} {q : Int} : fndS xs q < 0 ↔ ∀ s ∈ xs, s.State = 0 ∨ s.Irq ≠ q := by
  rw [fndS_neg]
  constructor
  · intro h s hs
    obtain ⟨i, hi, rfl⟩ := List.getElem_of_mem hs
    have := h i hi
    unfold mtS at this
    by_cases hz : xs[i].State = 0
    · exact Or.inl hz
    · refine Or.inr fun e => ?_
      simp [hz, e] at this
  · intro h i hi
    unfold mtS
    rcases h _ (List.getElem_mem hi) with h | h <;> simp [h]
theorem goodP_iff (q : Queue) : goodP q.Slots q.Waiting = true ↔ GP q := by
  unfold goodP
  rw [Bool.and_eq_true, goodS_iff, List.all_eq_true]
  constructor
  · rintro ⟨hs, h⟩
    have hb : ∀ i, (hi : i < q.Waiting.length) → okWt q.Waiting[i] ∧ fndS q.Slots q.Waiting[i].Irq < 0 ∧ (∀ j, (hj : j < i) → (q.Waiting[j]'(by omega)).Irq ≠ q.Waiting[i].Irq) ∧ (0 < i → lessU (q.Waiting[i - 1]'(by omega)).Priority (q.Waiting[i - 1]'(by omega)).Irq q.Waiting[i].Priority q.Waiting[i].Irq = true) := fun i hi => by
      have := h i (List.mem_range.2 hi)
      unfold okW inR freshW at this
      rw [getD_at hi, getD_at (show i - 1 < q.Waiting.length by omega)] at this
      simp only [Bool.and_eq_true, decide_eq_true_eq, List.all_eq_true, Bool.or_eq_true] at this
      obtain ⟨h1, h2, h3, h4, h5⟩ := this
      refine ⟨⟨h1, h2⟩, h3, fun j hj => ?_, fun h0 => ?_⟩
      · have := h4 j (List.mem_range.2 hj)
        rw [getD_at (show j < q.Waiting.length by omega)] at this
        simpa using this
      · rcases h5 with h5 | h5
        · omega
        · exact h5
    have hok : ∀ w ∈ q.Waiting, okWt w := fun w hw => by
      obtain ⟨i, hi, rfl⟩ := List.getElem_of_mem hw
      exact (hb i hi).1
    refine ⟨hs, hok, ?_, ?_, fun w hw s hsm => ?_⟩
    · rw [List.pairwise_iff_getElem]
      have key : ∀ d i, (hj : i + d + 1 < q.Waiting.length) → keyW (q.Waiting[i]'(by omega)) < keyW q.Waiting[i + d + 1] := by
        intro d
        induction d with
        | zero =>
          intro i hj
          have h4 := (hb (i + 1) hj).2.2.2 (by omega)
          have e : i + 1 - 1 = i := by omega
          simp only [e] at h4
          rw [less_key (hok _ (List.getElem_mem _)) (hok _ (List.getElem_mem _)), decide_eq_true_eq] at h4
          exact h4
        | succ d ih =>
          intro i hj
          have h3 := ih i (by omega)
          have h4 := (hb (i + (d + 1) + 1) hj).2.2.2 (by omega)
          have e : i + (d + 1) + 1 - 1 = i + d + 1 := by omega
          simp only [e] at h4
          rw [less_key (hok _ (List.getElem_mem _)) (hok _ (List.getElem_mem _)), decide_eq_true_eq] at h4
          omega
      intro i j hi hj hij
      have := key (j - i - 1) i (by omega)
      simp only [show i + (j - i - 1) + 1 = j by omega] at this
      exact this
    · rw [List.Nodup, List.pairwise_map, List.pairwise_iff_getElem]
      intro i j hi hj hij
      exact (hb j hj).2.2.1 i hij
    · obtain ⟨i, hi, rfl⟩ := List.getElem_of_mem hw
      exact fndS_none.1 (hb i hi).2.1 s hsm
  · rintro ⟨hs, hok, ho, hd, ha⟩
    refine ⟨hs, fun i hi => ?_⟩
    have hi := List.mem_range.1 hi
    obtain ⟨g1, g2⟩ := hok _ (List.getElem_mem hi)
    unfold okW inR freshW
    rw [getD_at hi, getD_at (show i - 1 < q.Waiting.length by omega)]
    simp only [Bool.and_eq_true, decide_eq_true_eq, List.all_eq_true, Bool.or_eq_true]
    refine ⟨g1, g2, fndS_none.2 (ha _ (List.getElem_mem hi)), fun j hj => ?_, ?_⟩
    · have hj := List.mem_range.1 hj
      rw [getD_at (show j < q.Waiting.length by omega)]
      rw [List.Nodup, List.pairwise_map, List.pairwise_iff_getElem] at hd
      have := hd j i (by omega) hi hj
      simpa using this
    · by_cases h0 : i = 0
      · exact Or.inl h0
      · refine Or.inr ?_
        rw [less_key (hok _ (List.getElem_mem _)) (hok _ (List.getElem_mem _)), decide_eq_true_eq]
        exact List.pairwise_iff_getElem.1 ho (i - 1) i (by omega) hi (by omega)
theorem frS_neg {xs : List Slot} : frS xs < 0 ↔ ∀ s ∈ xs, s.State ≠ 0 := by
  unfold frS
  refine Iff.trans (first_lt (n := xs.length) (p := fun i => (xs.getD i gS).State == 0)) ?_
  constructor
  · intro h s hs
    obtain ⟨i, hi, rfl⟩ := List.getElem_of_mem hs
    have := h i hi
    rw [getD_at hi] at this
    simpa using this
  · intro h i hi
    rw [getD_at hi]
    simpa using h _ (List.getElem_mem hi)
theorem frS_at {xs : List Slot} (h : ¬ frS xs < 0) : ∃ i : Nat, ∃ hi : i < xs.length, frS xs = (i : Int) ∧ xs[i].State = 0 := by
  unfold frS at h ⊢
  cases hf : (List.range xs.length).find? (fun i => (xs.getD i gS).State == 0) with
  | none => rw [hf] at h; simp at h
  | some i =>
    obtain ⟨h1, h2, _⟩ := List.find?_range_eq_some.1 hf
    have h2 := List.mem_range.1 h2
    rw [getD_at h2] at h1
    exact ⟨i, h2, rfl, by simpa using h1⟩
theorem bestF_least {xs : List Slot} (hg : ∀ s ∈ xs, okSlt s) : ∀ n, n ≤ xs.length → (bestF xs n < 0 ∧ ∀ i, (hi : i < xs.length) → i < n → xs[i].State ≠ 1) ∨ ∃ k, ∃ hk : k < xs.length, k < n ∧ bestF xs n = (k : Int) ∧ xs[k].State = 1 ∧ ∀ i, (hi : i < xs.length) → i < n → xs[i].State = 1 → keyW (wOf xs[i]) ≤ keyW (wOf xs[k])
  | 0, _ => Or.inl ⟨by simp [bestF], fun i hi h => by omega⟩
  | n + 1, hn => by
    have ih := bestF_least hg n (by omega)
    have hnl : n < xs.length := by omega
    have hb : bestF xs (n + 1) = bif xs[n].State == 1 then (bif decide (bestF xs n < 0) || lessU (xs.getD (bestF xs n).toNat gS).Priority (xs.getD (bestF xs n).toNat gS).Irq xs[n].Priority xs[n].Irq then (n : Int) else bestF xs n) else bestF xs n := by
      rw [bestF, getD_at hnl]
    rw [hb]
    by_cases h1 : xs[n].State = 1
    · have e1 : (xs[n].State == 1) = true := by simp [h1]
      rw [e1, cond_true]
      rcases ih with ⟨h2, h3⟩ | ⟨k, hk, hkn, h2, h3, h4⟩
      · have e2 : decide (bestF xs n < 0) = true := by simp [h2]
        rw [e2, Bool.true_or, cond_true]
        refine Or.inr ⟨n, hnl, by omega, rfl, h1, fun i hi hin hs => ?_⟩
        by_cases e : i = n
        · subst e; exact Int.le_refl _
        · exact absurd hs (h3 i hi (by omega))
      · have e2 : decide (bestF xs n < 0) = false := by rw [h2]; simp
        rw [e2, Bool.false_or, h2, Int.toNat_natCast, getD_at hk]
        have hl := less_key (a := wOf xs[k]) (b := wOf xs[n]) (hg _ (List.getElem_mem hk)).2.1 (hg _ (List.getElem_mem hnl)).2.1
        simp only [wOf] at hl
        rw [hl]
        by_cases hlt : keyW (wOf xs[k]) < keyW (wOf xs[n])
        · simp only [wOf] at hlt
          simp only [hlt, decide_true, cond_true]
          refine Or.inr ⟨n, hnl, by omega, rfl, h1, fun i hi hin hs => ?_⟩
          by_cases e : i = n
          · subst e; exact Int.le_refl _
          · have := h4 i hi (by omega) hs
            simp only [wOf] at this ⊢
            omega
        · have hlt' := hlt
          simp only [wOf] at hlt'
          simp only [hlt', decide_false, cond_false]
          refine Or.inr ⟨k, hk, by omega, rfl, h3, fun i hi hin hs => ?_⟩
          by_cases e : i = n
          · subst e; omega
          · exact h4 i hi (by omega) hs
    · have e1 : (xs[n].State == 1) = false := by simp [h1]
      rw [e1, cond_false]
      rcases ih with ⟨h2, h3⟩ | ⟨k, hk, hkn, h2, h3, h4⟩
      · refine Or.inl ⟨h2, fun i hi hin => ?_⟩
        by_cases e : i = n
        · subst e; exact h1
        · exact h3 i hi (by omega)
      · refine Or.inr ⟨k, hk, by omega, h2, h3, fun i hi hin hs => ?_⟩
        by_cases e : i = n
        · subst e; exact absurd hs h1
        · exact h4 i hi (by omega) hs
def calm (q : Queue) : Prop := q.Waiting = [] ∨ ((∀ s ∈ q.Slots, s.State ≠ 0) ∧ ∀ s ∈ q.Slots, s.State = 1 → ∀ w ∈ q.Waiting, keyW (wOf s) < keyW w)
theorem setQ_iff {q : Queue} (h : GP q) : setQ q = true ↔ calm q := by
  unfold setQ calm
  cases hw : q.Waiting with
  | nil => simp
  | cons w0 r =>
    have e0 : (((w0 :: r).length : Int) == 0) = false := by simp; omega
    rw [e0, cond_false]
    have hok := h.ok
    have hord := h.ord
    rw [hw] at hok hord
    rw [List.pairwise_cons] at hord
    by_cases hf : frS q.Slots < 0
    · have e1 : decide (frS q.Slots ≥ 0) = false := by simp; omega
      rw [e1, cond_false]
      have hf' := frS_neg.1 hf
      rcases bestF_least h.s.ok q.Slots.length (Nat.le_refl _) with ⟨h2, h3⟩ | ⟨k, hk, hkn, h2, h3, h4⟩
      · have e2 : decide (bestF q.Slots q.Slots.length < 0) = true := by simp [h2]
        rw [e2, cond_true]
        refine ⟨fun _ => Or.inr ⟨hf', fun s hs h1 => ?_⟩, fun _ => rfl⟩
        obtain ⟨i, hi, rfl⟩ := List.getElem_of_mem hs
        exact absurd h1 (h3 i hi hi)
      · have e2 : decide (bestF q.Slots q.Slots.length < 0) = false := by rw [h2]; simp
        rw [e2, cond_false, h2, Int.toNat_natCast, getD_at hk]
        have hl := less_key (a := wOf q.Slots[k]) (b := w0) (h.s.ok _ (List.getElem_mem hk)).2.1 (hok w0 (by simp))
        simp only [wOf] at hl
        simp only [List.getD_cons_zero]
        rw [hl]
        refine Iff.trans decide_eq_true_iff ?_
        constructor
        · intro hlt
          refine Or.inr ⟨hf', fun s hs h1 w hwm => ?_⟩
          obtain ⟨i, hi, rfl⟩ := List.getElem_of_mem hs
          have h5 := h4 i hi hi h1
          have h6 : keyW w0 ≤ keyW w := by
            rcases List.mem_cons.1 hwm with rfl | hwm
            · exact Int.le_refl _
            · have := hord.1 w hwm; omega
          simp only [wOf] at h5 ⊢
          omega
        · rintro (h5 | ⟨_, h5⟩)
          · cases h5
          · exact h5 _ (List.getElem_mem hk) h3 w0 (by simp)
    · have e1 : decide (frS q.Slots ≥ 0) = true := by simp; omega
      rw [e1, cond_true]
      constructor
      · intro h5; cases h5
      · rintro (h5 | ⟨h5, _⟩)
        · cases h5
        · exact absurd (frS_neg.2 h5) hf
def GQ (q : Queue) : Prop := GP q ∧ calm q
theorem goodQ_iff (q : Queue) : goodQ q = true ↔ GQ q := by
  unfold goodQ GQ
  rw [Bool.and_eq_true]
  constructor
  · rintro ⟨h1, h2⟩
    have h1 := (goodP_iff q).1 h1
    exact ⟨h1, (setQ_iff h1).1 h2⟩
  · rintro ⟨h1, h2⟩
    exact ⟨(goodP_iff q).2 h1, (setQ_iff h1).2 h2⟩
def isPd (s : Slot) : Bool := s.State == 1 || s.State == 3
def pendW (q : Queue) : List Waiter := q.Waiting ++ (q.Slots.filter isPd).map wOf
theorem sep_irqs : ∀ {xs : List Slot}, xs.Pairwise sepS → ∀ p : Slot → Bool, (∀ s, p s = true → s.State ≠ 0) → ((xs.filter p).map Slot.Irq).Nodup
  | [], _, _, _ => by simp
  | x :: r, h, p, hp => by
    rw [List.pairwise_cons] at h
    have ih := sep_irqs h.2 p hp
    by_cases hx : p x = true
    · rw [List.filter_cons_of_pos hx, List.map_cons, List.nodup_cons]
      refine ⟨fun hm => ?_, ih⟩
      obtain ⟨s, hs, he⟩ := List.mem_map.1 hm
      obtain ⟨hs1, hs2⟩ := List.mem_filter.1 hs
      rcases h.1 s hs1 with h1 | h1 | h1
      · exact hp x hx h1
      · exact hp s hs2 h1
      · exact h1 he.symm
    · rw [List.filter_cons_of_neg hx]
      exact ih
theorem isPd_ne {s : Slot} (h : isPd s = true) : s.State ≠ 0 := by
  unfold isPd at h
  intro e
  rw [e] at h
  simp at h
end Go.Proofs.YtllhajkgkghhdaaGreat
set_option linter.unusedVariables false
set_option linter.unusedSimpArgs false
set_option maxHeartbeats 4000000
namespace Go.Proofs.YtllhajkgkghhdaaGreat
open Go.Gx
theorem set_cut {α : Type} {xs : List α} {i : Nat} (hi : i < xs.length) (y : α) : xs = xs.take i ++ xs[i] :: xs.drop (i + 1) ∧ xs.set i y = xs.take i ++ y :: xs.drop (i + 1) := by
  refine ⟨?_, ?_⟩
  · conv => lhs; rw [← List.take_append_drop i xs, List.drop_eq_getElem_cons hi]
  · rw [List.set_eq_take_append_cons_drop, if_pos hi]
theorem sepS_symm {a b : Slot} (h : sepS a b) : sepS b a := by
  rcases h with h | h | h
  · exact Or.inr (Or.inl h)
  · exact Or.inl h
  · exact Or.inr (Or.inr fun e => h e.symm)
theorem pw_set {α : Type} {R : α → α → Prop} (hR : ∀ {a b}, R a b → R b a) {xs : List α} (h : xs.Pairwise R) {i : Nat} (hi : i < xs.length) {y : α} (hy : ∀ j, (hj : j < xs.length) → j ≠ i → R xs[j] y) : (xs.set i y).Pairwise R := by
  rw [List.pairwise_iff_getElem] at h ⊢
  intro a b ha hb hab
  rw [List.length_set] at ha hb
  rw [List.getElem_set, List.getElem_set]
  by_cases e1 : i = a
  · rw [if_pos e1, if_neg (by omega)]
    exact hR (hy b hb (by omega))
  · rw [if_neg e1]
    by_cases e2 : i = b
    · rw [if_pos e2]
      exact hy a ha (by omega)
    · rw [if_neg e2]
      exact h a b ha hb hab
theorem gs_set {xs : List Slot} (h : GS xs) {i : Nat} (hi : i < xs.length) {y : Slot} (hy : okSlt y) (hs : ∀ j, (hj : j < xs.length) → j ≠ i → sepS xs[j] y) : GS (xs.set i y) := by
  refine ⟨by rw [List.length_set]; exact h.len, fun s hsm => ?_, pw_set sepS_symm h.sep hi hs⟩
  obtain ⟨j, hj, rfl⟩ := List.getElem_of_mem hsm
  rw [List.length_set] at hj
  rw [List.getElem_set]
  split
  · exact hy
  · exact h.ok _ (List.getElem_mem hj)
theorem sep_at {xs : List Slot} (h : xs.Pairwise sepS) {i j : Nat} (hi : i < xs.length) (hj : j < xs.length) (hij : j ≠ i) : sepS xs[j] xs[i] := by
  rw [List.pairwise_iff_getElem] at h
  rcases Nat.lt_or_gt_of_ne hij with g | g
  · exact h j i hj hi g
  · exact sepS_symm (h i j hi hj g)
theorem mem_set_iff {xs : List Slot} {i : Nat} (hi : i < xs.length) {y s : Slot} (h : s ∈ xs.set i y) : s = y ∨ ∃ j, ∃ hj : j < xs.length, j ≠ i ∧ s = xs[j] := by
  obtain ⟨j, hj, rfl⟩ := List.getElem_of_mem h
  rw [List.length_set] at hj
  rw [List.getElem_set]
  split
  · exact Or.inl rfl
  · rename_i hne
    exact Or.inr ⟨j, hj, fun e => hne e.symm, rfl⟩
def insU (ws : List Waiter) (w : Waiter) : List Waiter := ws.takeWhile (fun x => decide (keyW x < keyW w)) ++ w :: ws.dropWhile (fun x => decide (keyW x < keyW w))
theorem insU_perm (ws : List Waiter) (w : Waiter) : (insU ws w).Perm (w :: ws) := by
  unfold insU
  refine List.perm_middle.trans ?_
  rw [List.takeWhile_append_dropWhile]
theorem insU_ord {w : Waiter} : ∀ {ws : List Waiter}, (ws.Pairwise fun a b => keyW a < keyW b) → (∀ x ∈ ws, keyW x ≠ keyW w) → (insU ws w).Pairwise fun a b => keyW a < keyW b
  | [], _, _ => by simp [insU]
  | x :: r, h, hne => by
    rw [List.pairwise_cons] at h
    unfold insU
    by_cases hx : keyW x < keyW w
    · rw [List.takeWhile_cons_of_pos (by simpa using hx), List.dropWhile_cons_of_pos (by simpa using hx), List.cons_append, List.pairwise_cons]
      have ih := insU_ord h.2 fun y hy => hne y (by simp [hy])
      refine ⟨fun y hy => ?_, ih⟩
      have hm : y ∈ w :: r := (insU_perm r w).mem_iff.1 hy
      rcases List.mem_cons.1 hm with rfl | hm
      · exact hx
      · exact h.1 y hm
    · rw [List.takeWhile_cons_of_neg (by simpa using hx), List.dropWhile_cons_of_neg (by simpa using hx), List.nil_append, List.pairwise_cons]
      have hxw := hne x (by simp)
      refine ⟨fun y hy => ?_, ?_⟩
      · rcases List.mem_cons.1 hy with rfl | hy
        · omega
        · have := h.1 y hy
          omega
      · rw [List.pairwise_cons]
        exact h
theorem irq_key {a b : Waiter} (ha : okWt a) (hb : okWt b) (h : a.Irq ≠ b.Irq) : keyW a ≠ keyW b := by
  unfold okWt at ha hb
  unfold keyW
  omega
def actM (xs : List Slot) : List (Option Slot) := xs.map fun s => bif isAct s then some s else none
theorem actM_set {xs : List Slot} {i : Nat} (hi : i < xs.length) {y : Slot} (h1 : isAct xs[i] = false) (h2 : isAct y = false) : actM (xs.set i y) = actM xs := by
  unfold actM
  rw [List.map_set, h2, cond_false]
  apply List.ext_getElem (by simp)
  intro j hj1 hj2
  rw [List.getElem_set]
  split
  · rename_i e
    subst e
    rw [List.getElem_map, h1, cond_false]
  · rfl
def headW (q : Queue) : Waiter := q.Waiting.getD 0 gW
def pendS (w : Waiter) : Slot := ⟨1, w.Irq, w.Priority⟩
def stepQ (q : Queue) : Queue :=
  bif decide (frS q.Slots < 0) then ⟨q.Slots.set (bestF q.Slots q.Slots.length).toNat (pendS (headW q)), insU (q.Waiting.drop 1) (wOf (q.Slots.getD (bestF q.Slots q.Slots.length).toNat gS))⟩
  else ⟨q.Slots.set (frS q.Slots).toNat (pendS (headW q)), q.Waiting.drop 1⟩
def muS (s : Slot) : Nat := bif s.State == 0 then 1000 else (bif s.State == 1 then (keyW (wOf s)).toNat else 0)
def mu (xs : List Slot) : Nat := (xs.map muS).sum
theorem mu_set {xs : List Slot} {i : Nat} (hi : i < xs.length) (y : Slot) : mu (xs.set i y) + muS xs[i] = mu xs + muS y := by
  obtain ⟨h1, h2⟩ := set_cut hi y
  have e1 : mu xs = ((xs.take i).map muS).sum + (muS xs[i] + ((xs.drop (i + 1)).map muS).sum) := by
    unfold mu
    conv => lhs; rw [h1]
    simp only [List.map_append, List.map_cons, List.sum_append, List.sum_cons]
  have e2 : mu (xs.set i y) = ((xs.take i).map muS).sum + (muS y + ((xs.drop (i + 1)).map muS).sum) := by
    unfold mu
    rw [h2]
    simp
  omega
theorem key_range {w : Waiter} (h : okWt w) : 0 ≤ keyW w ∧ keyW w ≤ 127 := by
  unfold okWt at h
  unfold keyW
  omega
theorem mu_le {xs : List Slot} (h : GS xs) : mu xs ≤ 4000 := by
  have key : ∀ l : List Slot, (∀ s ∈ l, okSlt s) → mu l ≤ 1000 * l.length := by
    intro l
    induction l with
    | nil => intro _; simp [mu]
    | cons s r ih =>
      intro hl
      have h1 := ih fun x hx => hl x (by simp [hx])
      have h2 : muS s ≤ 1000 := by
        have := key_range (hl s (by simp)).2.1
        unfold muS
        cases (s.State == 0) with
        | true => simp
        | false => cases (s.State == 1) with
          | true => simp only [cond_false, cond_true]; omega
          | false => simp
      simp only [mu, List.map_cons, List.sum_cons, List.length_cons] at h1 ⊢
      omega
  have := key xs h.ok
  rw [h.len] at this
  omega
structure kept (q r : Queue) : Prop where
  p : GP r
  pend : (pendW r).Perm (pendW q)
  act : actM r.Slots = actM q.Slots
theorem pend_cut (A B : List Slot) (x : Slot) (W : List Waiter) : (pendW ⟨A ++ x :: B, W⟩).Perm ((bif isPd x then [wOf x] else []) ++ (W ++ ((A.filter isPd).map wOf ++ (B.filter isPd).map wOf))) := by
  unfold pendW
  simp only [List.filter_append, List.map_append]
  cases hx : isPd x with
  | true =>
    rw [List.filter_cons_of_pos hx]
    simp only [List.map_cons, cond_true, List.cons_append, List.nil_append]
    refine (List.Perm.append_left W List.perm_middle).trans ?_
    exact List.perm_middle
  | false =>
    rw [List.filter_cons_of_neg (by simp [hx])]
    simp only [cond_false, List.nil_append]
    exact List.Perm.refl _
theorem okSlt_pend {w : Waiter} (h : okWt w) : okSlt (pendS w) := ⟨by simp [pendS], h, fun e => by simp [pendS] at e⟩
theorem headW_cons {q : Queue} {w : Waiter} {r : List Waiter} (h : q.Waiting = w :: r) : headW q = w ∧ q.Waiting.drop 1 = r := by
  unfold headW
  rw [h]
  simp
theorem step_kept {q : Queue} (h : GP q) (hc : setQ q = false) : kept q (stepQ q) ∧ mu (stepQ q).Slots < mu q.Slots := by
  have hn : ¬ calm q := fun e => by rw [(setQ_iff h).2 e] at hc; cases hc
  unfold calm at hn
  have hne : q.Waiting ≠ [] := fun e => hn (Or.inl e)
  obtain ⟨w, r, hw⟩ := List.exists_cons_of_ne_nil hne
  obtain ⟨e1, e2⟩ := headW_cons hw
  have hok := h.ok
  have hord := h.ord
  have hdist := h.dist
  have hap := h.apart
  rw [hw] at hok hord hdist hap
  rw [List.pairwise_cons] at hord
  rw [List.map_cons, List.nodup_cons] at hdist
  have okw := hok w (by simp)
  have hq : q = ⟨q.Slots, w :: r⟩ := by rw [← hw]
  have hr : ∀ x ∈ r, x.Irq ≠ w.Irq := fun x hx e => hdist.1 (by rw [← e]; exact List.mem_map_of_mem hx)
  unfold stepQ
  rw [e1, e2]
  by_cases hf : frS q.Slots < 0
  · have hf' := frS_neg.1 hf
    simp only [hf, decide_true, cond_true]
    rcases bestF_least h.s.ok q.Slots.length (Nat.le_refl _) with ⟨h2, h3⟩ | ⟨k, hk, hkn, h2, h3, h4⟩
    · exact absurd (Or.inr ⟨hf', fun s hs h1 => by
        obtain ⟨i, hi, rfl⟩ := List.getElem_of_mem hs
        exact absurd h1 (h3 i hi hi)⟩) hn
    · rw [h2, Int.toNat_natCast, getD_at hk]
      have hxk := h.s.ok _ (List.getElem_mem hk)
      have hne2 : q.Slots[k].Irq ≠ w.Irq := by
        rcases hap w (by simp) _ (List.getElem_mem hk) with g | g
        · exact absurd g (hf' _ (List.getElem_mem hk))
        · exact g
      have hlt : keyW w < keyW (wOf q.Slots[k]) := by
        have h5 := irq_key (a := wOf q.Slots[k]) (b := w) hxk.2.1 okw hne2
        by_cases h6 : keyW (wOf q.Slots[k]) < keyW w
        · exfalso
          refine hn (Or.inr ⟨hf', fun s hs h1 x hx => ?_⟩)
          obtain ⟨i, hi, rfl⟩ := List.getElem_of_mem hs
          have h7 := h4 i hi hi h1
          rw [hw] at hx
          rcases List.mem_cons.1 hx with rfl | hx
          · omega
          · have := hord.1 x hx
            omega
        · omega
      have hs1 : (q.Slots[k].State == 1) = true := by simp [h3]
      have hs0 : (q.Slots[k].State == 0) = false := by simp [h3]
      have na : isAct q.Slots[k] = false := by unfold isAct; simp [h3]
      have pk : isPd q.Slots[k] = true := by unfold isPd; simp [h3]
      have okS : okSlt (pendS w) := okSlt_pend okw
      obtain ⟨c1, c2⟩ := set_cut hk (pendS w)
      have hins := insU_perm r (wOf q.Slots[k])
      refine ⟨⟨⟨gs_set h.s hk okS fun j hj hjk => ?_, fun x hx => ?_, insU_ord hord.2 fun x hx => ?_, ?_, fun x hx s hs => ?_⟩, ?_, actM_set hk na (by simp [isAct, pendS])⟩, ?_⟩
      · rcases hap w (by simp) _ (List.getElem_mem hj) with g | g
        · exact Or.inl g
        · exact Or.inr (Or.inr g)
      · rcases List.mem_cons.1 (hins.mem_iff.1 hx) with rfl | hx
        · exact hxk.2.1
        · exact hok x (by simp [hx])
      · refine irq_key (hok x (by simp [hx])) hxk.2.1 fun e => ?_
        rcases hap x (by simp [hx]) _ (List.getElem_mem hk) with g | g
        · exact hf' _ (List.getElem_mem hk) g
        · exact g e.symm
      · rw [(hins.map Waiter.Irq).nodup_iff, List.map_cons, List.nodup_cons]
        refine ⟨fun hm => ?_, hdist.2⟩
        obtain ⟨x, hx, e⟩ := List.mem_map.1 hm
        rcases hap x (by simp [hx]) _ (List.getElem_mem hk) with g | g
        · exact hf' _ (List.getElem_mem hk) g
        · exact g e.symm
      · rcases mem_set_iff hk hs with rfl | ⟨j, hj, hjk, rfl⟩
        · rcases List.mem_cons.1 (hins.mem_iff.1 hx) with rfl | hx
          · exact Or.inr (fun e => hne2 e.symm)
          · exact Or.inr (fun e => hr x hx e.symm)
        · rcases List.mem_cons.1 (hins.mem_iff.1 hx) with rfl | hx
          · rcases sep_at h.s.sep hk hj hjk with g | g | g
            · exact Or.inl g
            · exact absurd g (hf' _ (List.getElem_mem hk))
            · exact Or.inr g
          · exact hap x (by simp [hx]) _ (List.getElem_mem hj)
      · have p1 := pend_cut (q.Slots.take k) (q.Slots.drop (k + 1)) (pendS w) (insU r (wOf q.Slots[k]))
        have p2 := pend_cut (q.Slots.take k) (q.Slots.drop (k + 1)) q.Slots[k] (w :: r)
        rw [← c2] at p1
        rw [← c1, ← hq, pk] at p2
        have pp : isPd (pendS w) = true := by simp [isPd, pendS]
        rw [pp] at p1
        refine p1.trans (List.Perm.trans ?_ p2.symm)
        simp only [cond_true, List.cons_append, List.nil_append]
        have e3 : wOf (pendS w) = w := rfl
        rw [e3]
        refine ((hins.append_right _).cons w).trans ?_
        exact List.Perm.swap _ _ _
      · have hm := mu_set hk (pendS w)
        have m1 : muS q.Slots[k] = (keyW (wOf q.Slots[k])).toNat := by unfold muS; rw [hs0, hs1]; rfl
        have m2 : muS (pendS w) = (keyW w).toNat := rfl
        have g1 := key_range okw
        omega
  · have hf2 : decide (frS q.Slots < 0) = false := by simp [hf]
    simp only [hf2, cond_false]
    obtain ⟨k, hk, h2, h3⟩ := frS_at hf
    rw [h2, Int.toNat_natCast]
    have hs0 : (q.Slots[k].State == 0) = true := by simp [h3]
    have na : isAct q.Slots[k] = false := by unfold isAct; simp [h3]
    have pk : isPd q.Slots[k] = false := by unfold isPd; simp [h3]
    obtain ⟨c1, c2⟩ := set_cut hk (pendS w)
    refine ⟨⟨⟨gs_set h.s hk (okSlt_pend okw) fun j hj hjk => ?_, fun x hx => hok x (by simp [hx]), hord.2, hdist.2, fun x hx s hs => ?_⟩, ?_, actM_set hk na (by simp [isAct, pendS])⟩, ?_⟩
    · rcases hap w (by simp) _ (List.getElem_mem hj) with g | g
      · exact Or.inl g
      · exact Or.inr (Or.inr g)
    · rcases mem_set_iff hk hs with rfl | ⟨j, hj, hjk, rfl⟩
      · exact Or.inr (fun e => hr x hx e.symm)
      · exact hap x (by simp [hx]) _ (List.getElem_mem hj)
    · have p1 := pend_cut (q.Slots.take k) (q.Slots.drop (k + 1)) (pendS w) r
      have p2 := pend_cut (q.Slots.take k) (q.Slots.drop (k + 1)) q.Slots[k] (w :: r)
      rw [← c2] at p1
      rw [← c1, ← hq, pk] at p2
      have pp : isPd (pendS w) = true := by simp [isPd, pendS]
      rw [pp] at p1
      refine p1.trans (List.Perm.trans ?_ p2.symm)
      simp only [cond_true, cond_false, List.cons_append, List.nil_append]
      exact List.Perm.refl _
    · have hm := mu_set hk (pendS w)
      have m1 : muS q.Slots[k] = 1000 := by unfold muS; rw [hs0]; rfl
      have m2 : muS (pendS w) = (keyW w).toNat := rfl
      have g1 := key_range okw
      omega
def settleF : Nat → Queue → Queue
  | 0, q => q
  | n + 1, q => bif setQ q then q else settleF n (stepQ q)
def settleQ (q : Queue) : Queue := settleF (mu q.Slots + 1) q
theorem kept_refl {q : Queue} (h : GP q) : kept q q := ⟨h, List.Perm.refl _, rfl⟩
theorem kept_trans {q r s : Queue} (h : kept q r) (g : kept r s) : kept q s := ⟨g.p, g.pend.trans h.pend, g.act.trans h.act⟩
theorem settleF_ok : ∀ (n : Nat) {q : Queue}, GP q → mu q.Slots < n → kept q (settleF n q) ∧ calm (settleF n q)
  | 0, q, _, h => by omega
  | n + 1, q, h, hm => by
    unfold settleF
    cases hs : setQ q with
    | true => exact ⟨kept_refl h, (setQ_iff h).1 hs⟩
    | false =>
      simp only [cond_false]
      obtain ⟨h1, h2⟩ := step_kept h hs
      obtain ⟨h3, h4⟩ := settleF_ok n h1.p (by omega)
      exact ⟨kept_trans h1 h3, h4⟩
theorem settleQ_ok {q : Queue} (h : GP q) : kept q (settleQ q) ∧ calm (settleQ q) := settleF_ok (mu q.Slots + 1) h (Nat.lt_succ_self _)
theorem settle_run {σ ρ : Type} {body : σ → Option (σ ⊕ ρ)} (st : Queue → σ) (out : Queue → ρ) (hb : ∀ q, GP q → body (st q) = some (bif setQ q then .inr (out q) else .inl (st (stepQ q)))) : ∀ (n fuel : Nat) {q : Queue}, GP q → mu q.Slots < n → n ≤ fuel → whileM body fuel (st q) = some (out (settleF n q))
  | 0, _, _, _, h, _ => by omega
  | n + 1, fuel, q, h, hm, hf => by
    obtain ⟨f, rfl⟩ : ∃ f, fuel = f + 1 := ⟨fuel - 1, by omega⟩
    unfold settleF
    simp only [whileM, hb q h]
    cases hs : setQ q with
    | true => rfl
    | false =>
      simp only [cond_false]
      obtain ⟨h1, h2⟩ := step_kept h hs
      exact settle_run st out hb n f h1.p (by omega) (by omega)
theorem gp_waiting {q : Queue} (h : GP q) : q.Waiting.length ≤ 8 := by
  have := nodup_bound 8 (q.Waiting.map fun w => w.Irq.toNat) (by
    have hd := h.dist
    rw [List.Nodup, List.pairwise_map] at hd ⊢
    refine hd.imp_of_mem fun {a b} ha hb hab => ?_
    have h1 := h.ok a ha
    have h2 := h.ok b hb
    unfold okWt at h1 h2
    omega) (fun x hx => by
    obtain ⟨w, hw, rfl⟩ := List.mem_map.1 hx
    have h1 := h.ok w hw
    unfold okWt at h1
    omega)
  simpa using this
end Go.Proofs.YtllhajkgkghhdaaGreat
set_option linter.unusedVariables false
set_option linter.unusedSimpArgs false
set_option maxHeartbeats 4000000
namespace Go.Proofs.YtllhajkgkghhdaaGreat
open Go.Gx
def setSt (s : Slot) (st : Int) : Slot := ⟨st, s.Irq, s.Priority⟩
theorem gs_state {xs : List Slot} (h : GS xs) {i : Nat} (hi : i < xs.length) (h0 : xs[i].State ≠ 0) {st : Int} (hst : 1 ≤ st ∧ st ≤ 3) : GS (xs.set i (setSt xs[i] st)) := by
  have ho := h.ok _ (List.getElem_mem hi)
  refine gs_set h hi ⟨⟨by simp only [setSt]; omega, by simp only [setSt]; omega⟩, ho.2.1, fun e => by simp only [setSt] at e; omega⟩ fun j hj hji => ?_
  rcases sep_at h.sep hi hj hji with g | g | g
  · exact Or.inl g
  · exact absurd g h0
  · exact Or.inr (Or.inr g)
theorem gs_empty {xs : List Slot} (h : GS xs) {i : Nat} (hi : i < xs.length) : GS (xs.set i gS) := by
  refine gs_set h hi ⟨by simp [gS], by simp [okWt, wOf, gS], fun _ => by simp [gS]⟩ fun j hj hji => Or.inr (Or.inl rfl)
theorem fnd_at {xs : List Slot} {q : Int} (h : ¬ fndS xs q < 0) : ∃ i : Nat, ∃ hi : i < xs.length, fndS xs q = (i : Int) ∧ xs[i].State ≠ 0 ∧ xs[i].Irq = q := by
  obtain ⟨i, hi, he, hm, _⟩ := fndS_at h
  unfold mtS at hm
  rw [Bool.and_eq_true, bne_iff_ne, beq_iff_eq] at hm
  exact ⟨i, hi, he, hm.1, hm.2⟩
theorem fnd_is {xs : List Slot} (h : GS xs) {i : Nat} (hi : i < xs.length) (h0 : xs[i].State ≠ 0) : fndS xs xs[i].Irq = (i : Int) := by
  have hn : ¬ fndS xs xs[i].Irq < 0 := fun hn => by
    rcases fndS_none.1 hn _ (List.getElem_mem hi) with g | g
    · exact h0 g
    · exact g rfl
  obtain ⟨k, hk, he, hk0, hk1⟩ := fnd_at hn
  by_cases e : k = i
  · rw [he, e]
  · rcases sep_at h.sep hi hk e with g | g | g
    · exact absurd g hk0
    · exact absurd g h0
    · exact absurd hk1 g
def putF (s : Slot) : Slot := bif s.State == 2 then setSt s 3 else s
def putL (xs : List Slot) (w : Waiter) : Option (List Slot) :=
  bif decide (fndS xs w.Irq ≥ 0) then some (xs.set (fndS xs w.Irq).toNat (putF (xs.getD (fndS xs w.Irq).toNat gS)))
  else (bif decide (frS xs ≥ 0) then some (xs.set (frS xs).toNat (pendS w)) else none)
theorem putF_st (s : Slot) : (putF s).Irq = s.Irq ∧ (putF s).Priority = s.Priority ∧ (s.State = 2 ∧ (putF s).State = 3 ∨ s.State ≠ 2 ∧ putF s = s) := by
  unfold putF
  by_cases h : s.State = 2
  · have e : (s.State == 2) = true := by simp [h]
    rw [e]
    exact ⟨rfl, rfl, Or.inl ⟨h, rfl⟩⟩
  · have e : (s.State == 2) = false := by simp [h]
    rw [e]
    exact ⟨rfl, rfl, Or.inr ⟨h, rfl⟩⟩
theorem putF_gs {xs : List Slot} (h : GS xs) {i : Nat} (hi : i < xs.length) (h0 : xs[i].State ≠ 0) : GS (xs.set i (putF xs[i])) := by
  obtain ⟨_, _, ⟨e1, e2⟩ | ⟨e1, e2⟩⟩ := putF_st xs[i]
  · have : putF xs[i] = setSt xs[i] 3 := by unfold putF; simp [e1]
    rw [this]
    exact gs_state h hi h0 (by omega)
  · rw [e2, List.set_getElem_self]
    exact h
def topF (xs : List Slot) : Nat → Int
  | 0 => -1
  | i + 1 => bif (xs.getD i gS).State == 1 then (bif decide (topF xs i < 0) || lessU (xs.getD i gS).Priority (xs.getD i gS).Irq (xs.getD (topF xs i).toNat gS).Priority (xs.getD (topF xs i).toNat gS).Irq then (i : Int) else topF xs i) else topF xs i
theorem topF_at (xs : List Slot) : ∀ i, topF xs i < 0 ∨ ∃ k, k < i ∧ topF xs i = (k : Int) ∧ (xs.getD k gS).State = 1
  | 0 => Or.inl (by simp [topF])
  | i + 1 => by
    have ih := topF_at xs i
    have hih : topF xs i < 0 ∨ ∃ k, k < i + 1 ∧ topF xs i = (k : Int) ∧ (xs.getD k gS).State = 1 := by
      rcases ih with h | ⟨k, h1, h2, h3⟩
      · exact Or.inl h
      · exact Or.inr ⟨k, by omega, h2, h3⟩
    unfold topF
    cases hs : ((xs.getD i gS).State == 1) with
    | false => exact hih
    | true =>
      simp only [cond_true]
      cases (decide (topF xs i < 0) || lessU (xs.getD i gS).Priority (xs.getD i gS).Irq (xs.getD (topF xs i).toNat gS).Priority (xs.getD (topF xs i).toNat gS).Irq) with
      | false => exact hih
      | true => exact Or.inr ⟨i, by omega, rfl, by simpa using hs⟩
theorem topF_most {xs : List Slot} (hg : ∀ s ∈ xs, okSlt s) : ∀ n, n ≤ xs.length → (topF xs n < 0 ∧ ∀ i, (hi : i < xs.length) → i < n → xs[i].State ≠ 1) ∨ ∃ k, ∃ hk : k < xs.length, k < n ∧ topF xs n = (k : Int) ∧ xs[k].State = 1 ∧ ∀ i, (hi : i < xs.length) → i < n → xs[i].State = 1 → keyW (wOf xs[k]) ≤ keyW (wOf xs[i])
  | 0, _ => Or.inl ⟨by simp [topF], fun i hi h => by omega⟩
  | n + 1, hn => by
    have ih := topF_most hg n (by omega)
    have hnl : n < xs.length := by omega
    have hb : topF xs (n + 1) = bif xs[n].State == 1 then (bif decide (topF xs n < 0) || lessU xs[n].Priority xs[n].Irq (xs.getD (topF xs n).toNat gS).Priority (xs.getD (topF xs n).toNat gS).Irq then (n : Int) else topF xs n) else topF xs n := by
      rw [topF, getD_at hnl]
    rw [hb]
    by_cases h1 : xs[n].State = 1
    · have e1 : (xs[n].State == 1) = true := by simp [h1]
      rw [e1, cond_true]
      rcases ih with ⟨h2, h3⟩ | ⟨k, hk, hkn, h2, h3, h4⟩
      · have e2 : decide (topF xs n < 0) = true := by simp [h2]
        rw [e2, Bool.true_or, cond_true]
        refine Or.inr ⟨n, hnl, by omega, rfl, h1, fun i hi hin hs => ?_⟩
        by_cases e : i = n
        · subst e; exact Int.le_refl _
        · exact absurd hs (h3 i hi (by omega))
      · have e2 : decide (topF xs n < 0) = false := by rw [h2]; simp
        rw [e2, Bool.false_or, h2, Int.toNat_natCast, getD_at hk]
        have hl := less_key (a := wOf xs[n]) (b := wOf xs[k]) (hg _ (List.getElem_mem hnl)).2.1 (hg _ (List.getElem_mem hk)).2.1
        simp only [wOf] at hl
        rw [hl]
        by_cases hlt : keyW (wOf xs[n]) < keyW (wOf xs[k])
        · have hlt' := hlt
          simp only [wOf] at hlt'
          simp only [hlt', decide_true, cond_true]
          refine Or.inr ⟨n, hnl, by omega, rfl, h1, fun i hi hin hs => ?_⟩
          by_cases e : i = n
          · subst e; exact Int.le_refl _
          · have := h4 i hi (by omega) hs
            omega
        · have hlt' := hlt
          simp only [wOf] at hlt'
          simp only [hlt', decide_false, cond_false]
          refine Or.inr ⟨k, hk, by omega, rfl, h3, fun i hi hin hs => ?_⟩
          by_cases e : i = n
          · subst e; omega
          · exact h4 i hi (by omega) hs
    · have e1 : (xs[n].State == 1) = false := by simp [h1]
      rw [e1, cond_false]
      rcases ih with ⟨h2, h3⟩ | ⟨k, hk, hkn, h2, h3, h4⟩
      · refine Or.inl ⟨h2, fun i hi hin => ?_⟩
        by_cases e : i = n
        · subst e; exact h1
        · exact h3 i hi (by omega)
      · refine Or.inr ⟨k, hk, by omega, h2, h3, fun i hi hin hs => ?_⟩
        by_cases e : i = n
        · subst e; exact absurd hs h1
        · exact h4 i hi (by omega) hs
def topS (xs : List Slot) : Int := topF xs xs.length
def topX (xs : List Slot) : Slot := xs.getD (topS xs).toNat gS
def canT (xs : List Slot) (limit : Int) : Bool := decide (topS xs ≥ 0) && decide ((topX xs).Priority < limit)
def takL (xs : List Slot) : List Slot := xs.set (topS xs).toNat (setSt (topX xs) 2)
theorem canT_at {xs : List Slot} {limit : Int} (h : GS xs) (hc : canT xs limit = true) : ∃ k, ∃ hk : k < xs.length, topS xs = (k : Int) ∧ topX xs = xs[k] ∧ takL xs = xs.set k (setSt xs[k] 2) ∧ xs[k].State = 1 ∧ xs[k].Priority < limit ∧ ∀ i, (hi : i < xs.length) → xs[i].State = 1 → keyW (wOf xs[k]) ≤ keyW (wOf xs[i]) := by
  unfold canT at hc
  rw [Bool.and_eq_true, decide_eq_true_eq, decide_eq_true_eq] at hc
  rcases topF_most h.ok xs.length (Nat.le_refl _) with ⟨h2, _⟩ | ⟨k, hk, _, h2, h3, h4⟩
  · have := hc.1
    unfold topS at this
    omega
  · have e1 : topS xs = (k : Int) := h2
    have e2 : topX xs = xs[k] := by unfold topX; rw [e1, Int.toNat_natCast, getD_at hk]
    refine ⟨k, hk, e1, e2, by unfold takL; rw [e1, e2, Int.toNat_natCast], h3, by rw [← e2]; exact hc.2, fun i hi hs => h4 i hi hi hs⟩
theorem takL_gs {xs : List Slot} {limit : Int} (h : GS xs) (hc : canT xs limit = true) : GS (takL xs) := by
  obtain ⟨k, hk, _, _, e, h1, _⟩ := canT_at h hc
  rw [e]
  exact gs_state h hk (by omega) (by omega)
def endF (s : Slot) : Slot := bif s.State == 2 then gS else setSt s 1
def canE (xs : List Slot) (irq : Int) : Bool := decide (fndS xs irq ≥ 0) && !((xs.getD (fndS xs irq).toNat gS).State == 1)
def endL (xs : List Slot) (irq : Int) : List Slot := xs.set (fndS xs irq).toNat (endF (xs.getD (fndS xs irq).toNat gS))
theorem canE_at {xs : List Slot} {irq : Int} (h : GS xs) (hc : canE xs irq = true) : ∃ k, ∃ hk : k < xs.length, fndS xs irq = (k : Int) ∧ (xs[k].State = 2 ∨ xs[k].State = 3) ∧ xs[k].Irq = irq ∧ endL xs irq = xs.set k (endF xs[k]) := by
  unfold canE at hc
  rw [Bool.and_eq_true, decide_eq_true_eq] at hc
  obtain ⟨k, hk, h2, h3, h4⟩ := fnd_at (show ¬ fndS xs irq < 0 by omega)
  have h5 := hc.2
  rw [h2, Int.toNat_natCast, getD_at hk] at h5
  have h6 : xs[k].State ≠ 1 := by simpa using h5
  have h7 := (h.ok _ (List.getElem_mem hk)).1
  exact ⟨k, hk, h2, by omega, h4, by unfold endL; rw [h2, Int.toNat_natCast, getD_at hk]⟩
theorem endL_gs {xs : List Slot} {irq : Int} (h : GS xs) (hc : canE xs irq = true) : GS (endL xs irq) := by
  obtain ⟨k, hk, _, hs, _, e⟩ := canE_at h hc
  rw [e]
  unfold endF
  rcases hs with hs | hs
  · have : (xs[k].State == 2) = true := by simp [hs]
    rw [this]
    exact gs_empty h hk
  · have : (xs[k].State == 2) = false := by simp [hs]
    rw [this]
    exact gs_state h hk (by omega) (by omega)
def hasW (ws : List Waiter) (irq : Int) : Bool := ws.any fun w => w.Irq == irq
def offQ (q : Queue) (w : Waiter) : Queue :=
  bif decide (fndS q.Slots w.Irq ≥ 0) then settleQ ⟨q.Slots.set (fndS q.Slots w.Irq).toNat (putF (q.Slots.getD (fndS q.Slots w.Irq).toNat gS)), q.Waiting⟩
  else (bif hasW q.Waiting w.Irq then settleQ q else settleQ ⟨q.Slots, insU q.Waiting w⟩)
theorem gp_slots {q : Queue} (h : GP q) {ys : List Slot} (hg : GS ys) (hs : ∀ s ∈ ys, s.State = 0 ∨ ∃ t ∈ q.Slots, t.State ≠ 0 ∧ t.Irq = s.Irq) : GP ⟨ys, q.Waiting⟩ := by
  refine ⟨hg, h.ok, h.ord, h.dist, fun w hw s hsm => ?_⟩
  rcases hs s hsm with e | ⟨t, ht, ht0, hti⟩
  · exact Or.inl e
  · rcases h.apart w hw t ht with g | g
    · exact absurd g ht0
    · exact Or.inr (fun e => g (hti.trans e))
theorem gp_ins {q : Queue} (h : GP q) {w : Waiter} (hw : okWt w) (h1 : fndS q.Slots w.Irq < 0) (h2 : hasW q.Waiting w.Irq = false) : GP ⟨q.Slots, insU q.Waiting w⟩ := by
  have hins := insU_perm q.Waiting w
  have hno : ∀ x ∈ q.Waiting, x.Irq ≠ w.Irq := fun x hx e => by
    unfold hasW at h2
    rw [List.any_eq_false] at h2
    exact h2 x hx (by simp [e])
  refine ⟨h.s, fun x hx => ?_, insU_ord h.ord fun x hx => irq_key (h.ok x hx) hw (hno x hx), ?_, fun x hx s hs => ?_⟩
  · rcases List.mem_cons.1 (hins.mem_iff.1 hx) with rfl | hx
    · exact hw
    · exact h.ok x hx
  · rw [(hins.map Waiter.Irq).nodup_iff, List.map_cons, List.nodup_cons]
    refine ⟨fun hm => ?_, h.dist⟩
    obtain ⟨x, hx, e⟩ := List.mem_map.1 hm
    exact hno x hx e
  · rcases List.mem_cons.1 (hins.mem_iff.1 hx) with rfl | hx
    · exact fndS_none.1 h1 s hs
    · exact h.apart x hx s hs
theorem gp_put {q : Queue} (h : GP q) {k : Nat} (hk : k < q.Slots.length) (h0 : q.Slots[k].State ≠ 0) : GP ⟨q.Slots.set k (putF q.Slots[k]), q.Waiting⟩ := by
  refine gp_slots h (putF_gs h.s hk h0) fun s hs => ?_
  rcases mem_set_iff hk hs with rfl | ⟨j, hj, _, rfl⟩
  · exact Or.inr ⟨_, List.getElem_mem hk, h0, (putF_st _).1.symm⟩
  · by_cases hz : q.Slots[j].State = 0
    · exact Or.inl hz
    · exact Or.inr ⟨_, List.getElem_mem hj, hz, rfl⟩
theorem offQ_ok {q : Queue} (h : GP q) {w : Waiter} (hw : okWt w) : GP (offQ q w) ∧ calm (offQ q w) := by
  unfold offQ
  by_cases hf : fndS q.Slots w.Irq < 0
  · have e : decide (fndS q.Slots w.Irq ≥ 0) = false := by simp; omega
    rw [e, cond_false]
    cases hh : hasW q.Waiting w.Irq with
    | true =>
      obtain ⟨h1, h2⟩ := settleQ_ok h
      exact ⟨h1.p, h2⟩
    | false =>
      obtain ⟨h1, h2⟩ := settleQ_ok (gp_ins h hw hf hh)
      exact ⟨h1.p, h2⟩
  · have e : decide (fndS q.Slots w.Irq ≥ 0) = true := by simp; omega
    rw [e, cond_true]
    obtain ⟨k, hk, h2, h3, h4⟩ := fnd_at hf
    rw [h2, Int.toNat_natCast, getD_at hk]
    obtain ⟨h1, h2⟩ := settleQ_ok (gp_put h hk h3)
    exact ⟨h1.p, h2⟩
theorem gp_take {q : Queue} (h : GP q) {limit : Int} (hc : canT q.Slots limit = true) : GP ⟨takL q.Slots, q.Waiting⟩ := by
  refine gp_slots h (takL_gs h.s hc) fun s hs => ?_
  obtain ⟨k, hk, _, _, e, h1, _⟩ := canT_at h.s hc
  rw [e] at hs
  rcases mem_set_iff hk hs with rfl | ⟨j, hj, _, rfl⟩
  · exact Or.inr ⟨_, List.getElem_mem hk, by omega, rfl⟩
  · by_cases hz : q.Slots[j].State = 0
    · exact Or.inl hz
    · exact Or.inr ⟨_, List.getElem_mem hj, hz, rfl⟩
theorem calm_take {q : Queue} (h : GQ q) {limit : Int} (hc : canT q.Slots limit = true) : calm ⟨takL q.Slots, q.Waiting⟩ := by
  rcases h.2 with e | ⟨h1, h2⟩
  · exact Or.inl e
  · obtain ⟨k, hk, _, _, e, hs1, _⟩ := canT_at h.1.s hc
    refine Or.inr ⟨fun s hs => ?_, fun s hs h5 => ?_⟩
    · rw [e] at hs
      rcases mem_set_iff hk hs with rfl | ⟨j, hj, _, rfl⟩
      · simp [setSt]
      · exact h1 _ (List.getElem_mem hj)
    · rw [e] at hs
      rcases mem_set_iff hk hs with rfl | ⟨j, hj, _, rfl⟩
      · simp [setSt] at h5
      · exact h2 _ (List.getElem_mem hj) h5
theorem gp_end {q : Queue} (h : GP q) {irq : Int} (hc : canE q.Slots irq = true) : GP ⟨endL q.Slots irq, q.Waiting⟩ := by
  refine gp_slots h (endL_gs h.s hc) fun s hs => ?_
  obtain ⟨k, hk, _, hst, _, e⟩ := canE_at h.s hc
  rw [e] at hs
  rcases mem_set_iff hk hs with rfl | ⟨j, hj, _, rfl⟩
  · unfold endF
    cases hz : (q.Slots[k].State == 2) with
    | true => exact Or.inl rfl
    | false => exact Or.inr ⟨_, List.getElem_mem hk, by omega, rfl⟩
  · by_cases hz : q.Slots[j].State = 0
    · exact Or.inl hz
    · exact Or.inr ⟨_, List.getElem_mem hj, hz, rfl⟩
def endQ (q : Queue) (irq : Int) : Queue := settleQ ⟨endL q.Slots irq, q.Waiting⟩
end Go.Proofs.YtllhajkgkghhdaaGreat
