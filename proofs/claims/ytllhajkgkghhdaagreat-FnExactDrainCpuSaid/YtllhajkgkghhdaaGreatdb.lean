/- Part of a proof: what its last text rests on. -/
import Derived.Test.YtllhajkgkghhdaaGreatProg
import Derived.Test.YtllhajkgkghhdaaGreatSh
import Derived.Test.YtllhajkgkghhdaaGreatda
set_option linter.unusedVariables false
namespace Go.Gx
def stP : Option (Store × World) → Store
  | some (s, _) => s
  | none => []
def valOf : Option (Result Next) → Value
  | some (.ok (.value v) _) => v
  | _ => undef
def valsP (P : Program) (ops : Array Oper) (n : Nat) : Nat → List Oper → Store → List Value
  | 0, _, _ => []
  | _ + 1, [], _ => []
  | m + 1, o :: r, S => valOf (oneZ P ops n S default o) :: valsP P ops n m r (putS S o.dst (valOf (oneZ P ops n S default o)))
section
variable {α : Type} {E : Enc α} {F : List Nat} {w0 w w' : World} {Ls : List Seg} {xs ys : List α} {p q : Option Addr} {c : Nat} {seg : Seg}
variable {P : Program} {ops : Array Oper} {n : Nat} {Q : Exit → Act → World → Prop} {S S' : Store} {l rest : List Oper} {o : Oper} {C : World → Prop} {K : Act → Prop}
theorem MW (m : Nat) (k : W P ops n Q (stP (runP P ops n m l S w)) w (l.drop m)) (h : (runP P ops n m l S w).map Prod.snd = some w := by kernel_rfl) : W P ops n Q S w l := by
  cases hr : runP P ops n m l S w with
  | none => rw [hr] at h; cases h
  | some r =>
    obtain ⟨s, v⟩ := r
    rw [hr] at h k
    obtain rfl := Option.some.inj h
    exact W_runP m l S _ hr k
theorem MZ (m : Nat) (k : Z P ops n C K (putL (valsP P ops n m l S) l S) (l.drop m)) (h : ∀ w, resL P ops n (valsP P ops n m l S) l S w = (valsP P ops n m l S).map (fun v => some (.ok (.value v) w)) := by (intro w_; kernel_rfl)) (hl : (valsP P ops n m l S).length = m := by kernel_rfl) : Z P ops n C K S l :=
  Z_runL (valsP P ops n m l S) h (hl.symm ▸ k)
theorem MS (m : Nat) (S' : Store) (k : Z P ops n C K S' (l.drop m)) (hs : sub S' (putL (valsP P ops n m l S) l S) = some S' := by kernel_rfl) (h : ∀ w, resL P ops n (valsP P ops n m l S) l S w = (valsP P ops n m l S).map (fun v => some (.ok (.value v) w)) := by (intro w_; kernel_rfl)) (hl : (valsP P ops n m l S).length = m := by kernel_rfl) : Z P ops n C K S l :=
  Z_runL (valsP P ops n m l S) h (Z_sub S' hs (hl.symm ▸ k))
theorem ZC {f : FuncId} {args : Array Value} (v : Value) (hc : ∀ w, Mem F w0 w Ls → Calls P f args w fun e w' => e = .returned v ∧ Mem [] w w' []) (k : Z P ops n (fun w' => Mem F w0 w' Ls) K (putS S o.dst v) rest) (hok : okAll ops n S o = true := by kernel_rfl) (hr : ∀ w, (execOp (rho S) o).run P w = .ok (.enter f args) w := by (intro w_; kernel_rfl)) : Z P ops n (fun w' => Mem F w0 w' Ls) K S (o :: rest) :=
  Z_call f args v hok hr (fun w hM => (hc w hM).mono fun e w2 h => ⟨h.1, hM.call0 h.2⟩) k
theorem WC {f : FuncId} {args : Array Value} (hc : Calls P f args w fun e w' => ∃ v, e = .returned v ∧ W P ops n Q (putS S o.dst v) w' rest) (hok : okAll ops n S o = true := by kernel_rfl) (hr : (execOp (rho S) o).run P w = .ok (.enter f args) w := by kernel_rfl) : W P ops n Q S w (o :: rest) := W_call f args hok hr hc
theorem WD {f : FuncId} {args : Array Value} {v : Value} (hc : Calls P f args w fun e w' => e = .returned v ∧ Mem [] w w' []) (hM : Mem F w0 w Ls) (kk : ∀ w', Mem F w0 w' Ls → W P ops n Q (putS S o.dst v) w' rest) (hok : okAll ops n S o = true := by kernel_rfl) (hr : (execOp (rho S) o).run P w = .ok (.enter f args) w := by kernel_rfl) : W P ops n Q S w (o :: rest) :=
  W_call f args hok hr (hc.mono fun e w' h => ⟨v, h.1, kk w' (hM.call0 h.2)⟩)
theorem HS {β : Type} {a b : β} (h : some a = some b) : a = b := Option.some.inj h
section
variable {l' : List Oper} {y z : Code} {id : Nat}
theorem NA (h : W P l'.toArray n (Exit.then (y.wp P Q) Q) S w l') : W P ops n (Exit.then ((Code.seq (.region id l'.toArray false) y).wp P Q) Q) S w [] := W_nil (N_then (G_seq (G_region h)))
theorem NB (h : W P l'.toArray n (Exit.then (y.wp P (Exit.then (z.wp P Q) Q)) (Exit.then (z.wp P Q) Q)) S w l') : W P ops n (Exit.then ((Code.seq (.seq (.region id l'.toArray false) y) z).wp P Q) Q) S w [] := W_nil (N_then (G_seq (G_seq (G_region h))))
theorem NC (h : N n Q .ret S w) : W P ops n (Exit.then (Code.ret.wp P Q) Q) S w [] := W_nil (N_then (G_ret h))
theorem ND {K : Act → World → Prop} (h : N n Q .ret S w) : W P ops n (Exit.then (Code.ret.wp P (Exit.then K Q)) (Exit.then K Q)) S w [] := W_nil (N_then (G_ret (N_then_ret h)))
theorem NE (h : G P n y (Exit.then (z.wp P Q) Q) S w) : W P ops n (Exit.then ((Code.seq y z).wp P Q) Q) S w [] := W_nil (N_then (G_seq h))
theorem NF (h : W P l'.toArray n (Exit.then (y.wp P Q) Q) S w l') : N n (Exit.then ((Code.seq (.region id l'.toArray false) y).wp P Q) Q) .normal S w := N_then (G_seq (G_region h))
theorem NO (h : G P n y Q S w) : W P ops n (Exit.then (y.wp P Q) Q) S w [] := W_nil (N_then h)
theorem NX {i : Nat} {K1 K2 : Act → World → Prop} (h : N n Q .ret S w) : W P ops n (Exit.then (Code.ret.wp P (Exit.inBlock i (Exit.then K1 (Exit.then K2 Q)))) (Exit.inBlock i (Exit.then K1 (Exit.then K2 Q)))) S w [] := W_nil (N_then (G_ret (N_block_ret (N_then_ret (N_then_ret h)))))
theorem NG {i : Nat} (h : W P l'.toArray n Q S w l') : W P ops n (Exit.inBlock i (Exit.then ((Code.region id l'.toArray false).wp P Q) Q)) S w [] := W_nil (N_block (N_then (G_region h)))
theorem KA (h : W P l'.toArray n (Exit.then (y.wp P Q) Q) S w l') : G P n .skip (Exit.then ((Code.seq (.region id l'.toArray false) y).wp P Q) Q) S w := G_skip (N_then (G_seq (G_region h)))
theorem KB (h : W P l'.toArray n (Exit.then (y.wp P (Exit.then (z.wp P Q) Q)) (Exit.then (z.wp P Q) Q)) S w l') : G P n .skip (Exit.then ((Code.seq (.seq (.region id l'.toArray false) y) z).wp P Q) Q) S w := G_skip (N_then (G_seq (G_seq (G_region h))))
theorem KC {i : Nat} (h : W P l'.toArray n Q S w l') : G P n .skip (Exit.inBlock i (Exit.then ((Code.region id l'.toArray false).wp P Q) Q)) S w := G_skip (N_block (N_then (G_region h)))
theorem KD {i : Nat} (h : W P l'.toArray n (Exit.then (y.wp P (Exit.inBlock i (Exit.then (z.wp P Q) Q))) (Exit.inBlock i (Exit.then (z.wp P Q) Q))) S w l') : G P n .skip (Exit.then ((Code.seq (.block i (.seq (.region id l'.toArray false) y)) z).wp P Q) Q) S w := G_skip (N_then (G_seq (G_block (G_seq (G_region h)))))
theorem XA {K1 K2 : Act → World → Prop} (h : N n Q .normal S w) : G P n (.exit id) (Exit.then K1 (Exit.then K2 (Exit.inBlock id Q))) S w := G_exit (N_then_exit (N_then_exit (N_block_eq h)))
theorem QA (h : W P l'.toArray n (Exit.then (y.wp P Q) Q) S w l') : G P n (.seq (.region id l'.toArray false) y) Q S w := G_seq (G_region h)
theorem QB (h : W P l'.toArray n (Exit.then (y.wp P (Exit.then (z.wp P Q) Q)) (Exit.then (z.wp P Q) Q)) S w l') : G P n (.seq (.seq (.region id l'.toArray false) y) z) Q S w := G_seq (G_seq (G_region h))
theorem WN (h : N n Q .normal S w) : W P ops n Q S w [] := W_nil h
theorem TN (h : G P n y Q S w) : N n (Exit.then (y.wp P Q) Q) .normal S w := h
theorem TR {K : Act → World → Prop} (h : N n Q .ret S w) : N n (Exit.then K Q) .ret S w := h
theorem TE {K : Act → World → Prop} {id : Nat} (h : N n Q (.exit id) S w) : N n (Exit.then K Q) (.exit id) S w := h
theorem GS (h : G P n y (Exit.then (z.wp P Q) Q) S w) : G P n (.seq y z) Q S w := G_seq h
theorem GR (h : W P l'.toArray n Q S w l') : G P n (.region id l'.toArray false) Q S w := G_region h
theorem GK (h : N n Q .normal S w) : G P n .skip Q S w := G_skip h
theorem GB (h : G P n y (Exit.inBlock id Q) S w) : G P n (.block id y) Q S w := G_block h
theorem BN (h : N n Q .normal S w) : N n (Exit.inBlock id Q) .normal S w := h
theorem BR (h : N n Q .ret S w) : N n (Exit.inBlock id Q) .ret S w := h
end
theorem RA {fn : Func} {R : Ending → World → Prop} (vs : List Value) (hR : R (.returned (retV vs)) w) (h : RVs P S w fn.results.toList vs := by first | exact rC RVs_nil | exact rC (rC RVs_nil) | exact rC (rC (rC RVs_nil)) | exact rC (rC (rC (rC RVs_nil)))) : N n (bodyPost P fn R) .ret S w := N_ret vs h hR
theorem RX (g : Bool) (k off : Nat) {t : Nat} {ty : TypeId} {b : Nat} {cs : List Value} {e : TypeId} {fr : Nat × Nat} {v : Value} {rs : List ResultVar} {vs : List Value} (hb : w.heap[b]? = some (.cells ⟨cs⟩ e fr)) (hs : RVs P S w rs vs) (hx : look S t = some (.pointer (some ⟨b, off, none⟩)) := by kernel_rfl) (hp : shapeT P ty = some (g, k) := by kernel_rfl) (hv : loadV g k cs off = some v := by kernel_rfl) : RVs P S w (.cell t ty :: rs) (v :: vs) := RVs_cons (RV_cell hb hx hp hv) hs
theorem LX (k : Nat) (p : Option Addr) (c : Nat) (xs : List α) (i : Nat) (x : α) (h : W P ops n Q ((k, .slice p (xs.set i x).length c) :: S) w l) (hk : look S k = some (.slice p xs.length c) := by kernel_rfl) : W P ops n Q S w l := W_conv k _ _ hk (by rw [List.length_set]) h
theorem LY (k : Nat) (p : Option Addr) (c : Nat) {α β : Type} {xs : List α} {ys : List β} (he : ys.length = xs.length) (h : W P ops n Q ((k, .slice p ys.length c) :: S) w l) (hk : look S k = some (.slice p xs.length c) := by kernel_rfl) : W P ops n Q S w l := W_conv k _ _ hk (by rw [he]) h
theorem ownI.r {l : List Inn} (h : ownI l seg) (hM : Mem F w0 w Ls) (pl : Nat) (hi : Ls.getD pl [] = seg := by kernel_rfl) : rdI w l := h.rd hM pl hi
theorem ownS.r (h : ownS E xs p c seg) (hM : Mem F w0 w Ls) (pl : Nat) (hi : Ls.getD pl [] = seg := by kernel_rfl) : rdS E w xs p c := h.rd hM pl hi
end
end Go.Gx
set_option linter.unusedVariables false
set_option maxRecDepth 100000
set_option maxHeartbeats 4000000
namespace Go.Proofs.YtllhajkgkghhdaaGreat
open Go.Gx
theorem c_l_szRouteS (w : World) (a : List Route) (f : Option Addr) (c : Nat) (g : rdS encRoute w a f c) (b : Int) {r : Int} (hm : M.l_szRouteS a b = some r) :
  Calls Tryz.prog 51 #[.slice f a.length c, iv b] w fun e w' => e = .returned (iv r) ∧ Mem [] w w' [] := by
 unfold M.l_szRouteS at hm
 refine cE Tryz.func51 ?_
 have M0 := Mem.refl [] w
 refine QA (MW 1 (NA (MW 5 (NB (wR 2 [(1, iv (w64 (b - (a.length : Int)))), (10, .bool (decide ((w64 (b - (a.length : Int))) < 0)))] w (NO ?_))))))
 rcases gx_bif hm with ⟨d, hm⟩ | ⟨d, hm⟩
 ·refine gT d (QA (wR 1 [(4, iv (-1))] w (ND ?_)))
  cases hm
  exact RA [iv (-1)] (⟨rfl, M0.pk []⟩)
 refine gF d (KA (wR 2 [(4, iv (w64 (b - (a.length : Int))))] w (NC ?_)))
 cases hm
 exact RA [iv (w64 (b - (a.length : Int)))] (⟨rfl, M0.pk []⟩)
theorem c_l_szBoolS (w : World) (a : List Bool) (f : Option Addr) (c : Nat) (g : rdS Gx.encB w a f c) (b : Int) {r : Int} (hm : M.l_szBoolS a b = some r) :
  Calls Tryz.prog 52 #[.slice f a.length c, iv b] w fun e w' => e = .returned (iv r) ∧ Mem [] w w' [] := by
 unfold M.l_szBoolS at hm
 refine cE Tryz.func52 ?_
 have M0 := Mem.refl [] w
 refine QA (MW 1 (NA (MW 5 (NB (wR 2 [(1, iv (w64 (b - (a.length : Int)))), (10, .bool (decide ((w64 (b - (a.length : Int))) < 0)))] w (NO ?_))))))
 rcases gx_bif hm with ⟨d, hm⟩ | ⟨d, hm⟩
 ·refine gT d (QA (wR 1 [(4, iv (-1))] w (ND ?_)))
  cases hm
  exact RA [iv (-1)] (⟨rfl, M0.pk []⟩)
 refine gF d (KA (wR 2 [(4, iv (w64 (b - (a.length : Int))))] w (NC ?_)))
 cases hm
 exact RA [iv (w64 (b - (a.length : Int)))] (⟨rfl, M0.pk []⟩)
theorem c_l_szIntS (w : World) (a : List Int) (f : Option Addr) (c : Nat) (g : rdS Gx.encI w a f c) (b : Int) {r : Int} (hm : M.l_szIntS a b = some r) :
  Calls Tryz.prog 152 #[.slice f a.length c, iv b] w fun e w' => e = .returned (iv r) ∧ Mem [] w w' [] := by
 unfold M.l_szIntS at hm
 refine cE Tryz.func152 ?_
 have M0 := Mem.refl [] w
 refine QA (MW 1 (NA (MW 5 (NB (wR 2 [(1, iv (w64 (b - (a.length : Int)))), (10, .bool (decide ((w64 (b - (a.length : Int))) < 0)))] w (NO ?_))))))
 rcases gx_bif hm with ⟨d, hm⟩ | ⟨d, hm⟩
 ·refine gT d (QA (wR 1 [(4, iv (-1))] w (ND ?_)))
  cases hm
  exact RA [iv (-1)] (⟨rfl, M0.pk []⟩)
 refine gF d (KA (wR 2 [(4, iv (w64 (b - (a.length : Int))))] w (NC ?_)))
 cases hm
 exact RA [iv (w64 (b - (a.length : Int)))] (⟨rfl, M0.pk []⟩)
theorem c_l_szSlotS (w : World) (a : List Slot) (f : Option Addr) (c : Nat) (g : rdS encSlot w a f c) (b : Int) {r : Int} (hm : M.l_szSlotS a b = some r) :
  Calls Tryz.prog 187 #[.slice f a.length c, iv b] w fun e w' => e = .returned (iv r) ∧ Mem [] w w' [] := by
 unfold M.l_szSlotS at hm
 refine cE Tryz.func187 ?_
 have M0 := Mem.refl [] w
 refine QA (MW 1 (NA (MW 5 (NB (wR 2 [(1, iv (w64 (b - (a.length : Int)))), (10, .bool (decide ((w64 (b - (a.length : Int))) < 0)))] w (NO ?_))))))
 rcases gx_bif hm with ⟨d, hm⟩ | ⟨d, hm⟩
 ·refine gT d (QA (wR 1 [(4, iv (-1))] w (ND ?_)))
  cases hm
  exact RA [iv (-1)] (⟨rfl, M0.pk []⟩)
 refine gF d (KA (wR 2 [(4, iv (w64 (b - (a.length : Int))))] w (NC ?_)))
 cases hm
 exact RA [iv (w64 (b - (a.length : Int)))] (⟨rfl, M0.pk []⟩)
theorem c_l_szWaiterS (w : World) (a : List Waiter) (f : Option Addr) (c : Nat) (g : rdS encWaiter w a f c) (b : Int) {r : Int} (hm : M.l_szWaiterS a b = some r) :
  Calls Tryz.prog 188 #[.slice f a.length c, iv b] w fun e w' => e = .returned (iv r) ∧ Mem [] w w' [] := by
 unfold M.l_szWaiterS at hm
 refine cE Tryz.func188 ?_
 have M0 := Mem.refl [] w
 refine QA (MW 1 (NA (MW 5 (NB (wR 2 [(1, iv (w64 (b - (a.length : Int)))), (10, .bool (decide ((w64 (b - (a.length : Int))) < 0)))] w (NO ?_))))))
 rcases gx_bif hm with ⟨d, hm⟩ | ⟨d, hm⟩
 ·refine gT d (QA (wR 1 [(4, iv (-1))] w (ND ?_)))
  cases hm
  exact RA [iv (-1)] (⟨rfl, M0.pk []⟩)
 refine gF d (KA (wR 2 [(4, iv (w64 (b - (a.length : Int))))] w (NC ?_)))
 cases hm
 exact RA [iv (w64 (b - (a.length : Int)))] (⟨rfl, M0.pk []⟩)
theorem c_l_szQueue (w : World) (a : Queue) (h : Option Addr) (f : Nat) (y : rdS encSlot w a.Slots h f) (i : Option Addr) (g : Nat) (z : rdS encWaiter w a.Waiting i g) (c : Int) {r : Int} (hm : M.l_szQueue a c = some r) :
  Calls Tryz.prog 153 #[.agg #[.slice h a.Slots.length f, .slice i a.Waiting.length g], iv c] w fun e w' => e = .returned (iv r) ∧ Mem [] w w' [] := by
 unfold M.l_szQueue at hm
 refine cE Tryz.func153 ?_
 have M0 := Mem.refl [] w
 refine QA (wN (.cells ⟨[.slice h a.Slots.length f, .slice i a.Waiting.length g]⟩ 124 (0, 0)) M0 fun d l o => MW 1 (NA (MW 1 (wV (.slice h a.Slots.length f) l (eL false 1 0 (o.blk 0 rfl)) (wR 1 [(1, iv c), (2, pB d 0), (6, .slice h a.Slots.length f), (7, iv c)] l ?_)))))
 obtain ⟨b, A, hm⟩ := gx_bind hm
 refine WD (c_l_szSlotS l a.Slots h f (y.mem0 o) c A) o fun j m => MW 1 (NB (wR 2 [(1, iv b), (2, pB d 0), (10, .bool (decide (b < 0)))] j (NO ?_)))
 rcases gx_bif hm with ⟨q, hm⟩ | ⟨q, hm⟩
 ·refine gT q (QA (wR 1 [(4, iv (-1))] j (ND ?_)))
  cases hm
  exact RA [iv (-1)] (⟨rfl, m.pk []⟩)
 refine gF q (KA (MW 1 (wV (.slice i a.Waiting.length g) j (eL false 1 1 (m.blk 0 rfl)) (wR 1 [(1, iv b), (12, .slice i a.Waiting.length g), (13, iv b)] j ?_))))
 obtain ⟨k, B, hm⟩ := gx_bind hm
 refine WD (c_l_szWaiterS j a.Waiting i g (z.mem0 m) b B) m fun n u => MW 1 (NB (wR 2 [(1, iv k), (16, .bool (decide (k < 0)))] n (NO ?_)))
 rcases gx_bif hm with ⟨t, hm⟩ | ⟨t, hm⟩
 ·refine gT t (QA (wR 1 [(4, iv (-1))] n (ND ?_)))
  cases hm
  exact RA [iv (-1)] (⟨rfl, u.pk []⟩)
 refine gF t (KA (wR 2 [(4, iv k)] n (NC ?_)))
 obtain rfl := HS hm
 exact RA [iv k] (⟨rfl, u.pk []⟩)
theorem c_l_szInterface (w : World) (a : Interface) (j : Option Addr) (g : Nat) (B : rdS Gx.encI w a.Stack j g) (k : Option Addr) (h : Nat) (C : rdS encSlot w a.Queue.Slots k h) (i : Option Addr) (f : Nat) (A : rdS encWaiter w a.Queue.Waiting i f) (c : Int) {r : Int} (hm : M.l_szInterface a c = some r) :
  Calls Tryz.prog 103 #[.agg #[iv a.Mask, .slice j a.Stack.length g, .slice k a.Queue.Slots.length h, .slice i a.Queue.Waiting.length f], iv c] w fun e w' => e = .returned (iv r) ∧ Mem [] w w' [] := by
 unfold M.l_szInterface at hm
 refine cE Tryz.func103 ?_
 have M0 := Mem.refl [] w
 refine QA (wN (.cells ⟨[iv a.Mask, .slice j a.Stack.length g, .slice k a.Queue.Slots.length h, .slice i a.Queue.Waiting.length f]⟩ 126 (0, 0)) M0 fun d o t => MW 1 (NA (MW 1 (wV (.slice j a.Stack.length g) o (eL false 1 1 (t.blk 0 rfl)) (wR 1 [(1, iv c), (2, pB d 0), (6, .slice j a.Stack.length g), (7, iv c)] o ?_)))))
 obtain ⟨b, D, hm⟩ := gx_bind hm
 refine WD (c_l_szIntS o a.Stack j g (B.mem0 t) c D) t fun l m => MW 1 (NB (wR 2 [(1, iv b), (2, pB d 0), (10, .bool (decide (b < 0)))] l (NO ?_)))
 rcases gx_bif hm with ⟨u, hm⟩ | ⟨u, hm⟩
 ·refine gT u (QA (wR 1 [(4, iv (-1))] l (ND ?_)))
  cases hm
  exact RA [iv (-1)] (⟨rfl, m.pk []⟩)
 refine gF u (KA (MW 1 (wV (.agg #[.slice k a.Queue.Slots.length h, .slice i a.Queue.Waiting.length f]) l (eL true 2 2 (m.blk 0 rfl)) (wR 1 [(1, iv b), (12, .agg #[.slice k a.Queue.Slots.length h, .slice i a.Queue.Waiting.length f]), (13, iv b)] l ?_))))
 obtain ⟨n, E, hm⟩ := gx_bind hm
 refine WD (c_l_szQueue l a.Queue k h (C.mem0 m) i f (A.mem0 m) b E) m fun q x => MW 1 (NB (wR 2 [(1, iv n), (16, .bool (decide (n < 0)))] q (NO ?_)))
 rcases gx_bif hm with ⟨v, hm⟩ | ⟨v, hm⟩
 ·refine gT v (QA (wR 1 [(4, iv (-1))] q (ND ?_)))
  cases hm
  exact RA [iv (-1)] (⟨rfl, x.pk []⟩)
 refine gF v (KA (wR 2 [(4, iv n)] q (NC ?_)))
 obtain rfl := HS hm
 exact RA [iv n] (⟨rfl, x.pk []⟩)
theorem c_l_szInterfaceS (w : World) (c : List Interface) (g : Option Addr) (h : Nat) (E : rdD deepInterface w c g h) (j : Int) {r : Int} (hm : M.l_szInterfaceS c j = some r) :
  Calls Tryz.prog 53 #[.slice g c.length h, iv j] w fun e w' => e = .returned (iv r) ∧ Mem [] w w' [] := by
 unfold M.l_szInterfaceS at hm
 refine cE Tryz.func53 ?_
 have M0 := Mem.refl [] w
 refine QA (MW 1 (NA (MW 5 (NB (wR 2 [(0, .slice g c.length h), (1, iv (w64 (j - (c.length : Int)))), (11, .bool (decide ((w64 (j - (c.length : Int))) < 0)))] w (NO ?_))))))
 rcases gx_bif hm with ⟨u, hm⟩ | ⟨u, hm⟩
 ·refine gT u (QA (wR 1 [(4, iv (-1))] w (ND ?_)))
  cases hm
  exact RA [iv (-1)] (⟨rfl, M0.pk []⟩)
 refine gF u (KB (wR 1 [(0, .slice g c.length h), (1, iv (w64 (j - (c.length : Int)))), (5, iv 0)] w (NO ?_)))
 obtain ⟨K, I, y⟩ := gx_bind hm
 refine G_meet (fun a w' => ∃ (m : Int), K = .inl m ∧ Mem [] w w' [] ∧ Sat Tryz.f53.ntmps [(1, iv m)] a) ?_ ?_
 ·refine GB (G_while (σ := Int × Int) (ρ := (Int) ⊕ (Int)) (fun d a w' => Mem [] w w' [] ∧ Sat Tryz.f53.ntmps [(0, .slice g c.length h), (1, iv d.1), (5, iv d.2)] a) I (fun a ha => ⟨M0.pk [], ha.s⟩) ?_)
  clear hm
  intro d P hm z N k ⟨i, F⟩
  refine G_use F (QB (wR 4 [(0, .slice g c.length h), (1, iv d.1), (5, iv d.2), (15, .bool (decide (d.2 < (c.length : Int))))] k (NO ?_)))
  rcases gx_bif hm with ⟨q, hm⟩ | ⟨q, hm⟩
  ·refine gT q (KD (wR 2 [(0, .slice g c.length h), (1, iv d.1), (5, iv d.2), (18, .slice g c.length h), (19, iv d.2)] k ?_))
   obtain ⟨f, J, hm⟩ := gx_bind hm
   obtain ⟨Q, B, A, v⟩ := id E
   obtain ⟨b, l⟩ := gxIdx_fst B J
   refine wV (elemP g (d.2.toNat * 4)) k (eI (A.mem0 i) (len_fst B) l) (wV (.agg #[iv f.Mask, .slice ((b 0).1) f.Stack.length ((b 0).2), .slice ((b 1).1) f.Queue.Slots.length ((b 1).2), .slice ((b 2).1) f.Queue.Waiting.length ((b 2).2)]) k (eE true 4 0 (d.2.toNat * 4) (A.mem0 i) l) (wR 1 [(0, .slice g c.length h), (1, iv d.1), (5, iv d.2), (21, .agg #[iv f.Mask, .slice ((b 0).1) f.Stack.length ((b 0).2), .slice ((b 1).1) f.Queue.Slots.length ((b 1).2), .slice ((b 2).1) f.Queue.Waiting.length ((b 2).2)]), (22, iv d.1)] k ?_))
   obtain ⟨n, H, hm⟩ := gx_bind hm
   refine WD (c_l_szInterface k f ((b 0).1) ((b 0).2) ((v.mem0 i).at_ l 0 ⟨Int, Gx.encI, f.Stack, (b 0).1, (b 0).2⟩ (by kernel_rfl)) ((b 1).1) ((b 1).2) ((v.mem0 i).at_ l 1 ⟨Slot, encSlot, f.Queue.Slots, (b 1).1, (b 1).2⟩ (by kernel_rfl)) ((b 2).1) ((b 2).2) ((v.mem0 i).at_ l 2 ⟨Waiter, encWaiter, f.Queue.Waiting, (b 2).1, (b 2).2⟩ (by kernel_rfl)) d.1 H) i fun o x => MW 1 (NA (wR 2 [(0, .slice g c.length h), (1, iv n), (5, iv d.2), (25, .bool (decide (n < 0)))] o (NO ?_)))
   rcases gx_bif hm with ⟨t, hm⟩ | ⟨t, hm⟩
   ·refine gT t (QA (wR 1 [(4, iv (-1))] o (NX ?_)))
    obtain rfl := HS hm
    obtain rfl := z _ rfl
    have hm := y; simp only [Sum.elim_inr] at hm
    refine BR (N_meet_ret (TR ?_))
    cases hm
    exact RA [iv (-1)] (⟨rfl, x.pk []⟩)
   refine gF t (KC (wR 3 [(0, .slice g c.length h), (1, iv n), (5, iv (w64 (d.2 + 1)))] o (WN ?_)))
   cases hm
   exact N_loop fun a ha => ⟨_, rfl, x.pk [], ha.s⟩
  refine gF q (XA ?_)
  obtain rfl := HS hm
  obtain rfl := z _ rfl
  exact N_meet fun a ha => ⟨_, rfl, i.pk [], ha.s⟩
 intro O L ⟨m, hout_, D, G⟩
 refine N_use G ?_
 subst hout_
 have hm := y; simp only [Sum.elim_inl] at hm
 refine NF (wR 2 [(4, iv m)] L (NC ?_))
 obtain rfl := HS hm
 exact RA [iv m] (⟨rfl, D.pk []⟩)
theorem c_l_szMachine (w : World) (a : Machine) (l : Option Addr) (h : Nat) (L : rdS encRoute w a.Routes l h) (m : Option Addr) (i : Nat) (N : rdS Gx.encB w a.Enabled m i) (n : Option Addr) (j : Nat) (O : rdS Gx.encB w a.Raised n j) (o : Option Addr) (k : Nat) (P : rdD deepInterface w a.Cpus o k) (g : Int) {r : Int} (hm : M.l_szMachine a g = some r) :
  Calls Tryz.prog 12 #[.agg #[.slice l a.Routes.length h, .slice m a.Enabled.length i, .slice n a.Raised.length j, .slice o a.Cpus.length k], iv g] w fun e w' => e = .returned (iv r) ∧ Mem [] w w' [] := by
 unfold M.l_szMachine at hm
 refine cE Tryz.func12 ?_
 have M0 := Mem.refl [] w
 refine QA (wN (.cells ⟨[.slice l a.Routes.length h, .slice m a.Enabled.length i, .slice n a.Raised.length j, .slice o a.Cpus.length k]⟩ 26 (0, 0)) M0 fun b v B => MW 1 (NA (MW 1 (wV (.slice l a.Routes.length h) v (eL false 1 0 (B.blk 0 rfl)) (wR 1 [(1, iv g), (2, pB b 0), (6, .slice l a.Routes.length h), (7, iv g)] v ?_)))))
 obtain ⟨c, R, hm⟩ := gx_bind hm
 refine WD (c_l_szRouteS v a.Routes l h (L.mem0 B) g R) B fun q x => MW 1 (NB (wR 2 [(1, iv c), (2, pB b 0), (10, .bool (decide (c < 0)))] q (NO ?_)))
 rcases gx_bif hm with ⟨D, hm⟩ | ⟨D, hm⟩
 ·refine gT D (QA (wR 1 [(4, iv (-1))] q (ND ?_)))
  cases hm
  exact RA [iv (-1)] (⟨rfl, x.pk []⟩)
 refine gF D (KA (MW 1 (wV (.slice m a.Enabled.length i) q (eL false 1 1 (x.blk 0 rfl)) (wR 1 [(1, iv c), (2, pB b 0), (12, .slice m a.Enabled.length i), (13, iv c)] q ?_))))
 obtain ⟨d, S, hm⟩ := gx_bind hm
 refine WD (c_l_szBoolS q a.Enabled m i (N.mem0 x) c S) x fun w64 y => MW 1 (NB (wR 2 [(1, iv d), (2, pB b 0), (16, .bool (decide (d < 0)))] w64 (NO ?_)))
 rcases gx_bif hm with ⟨E, hm⟩ | ⟨E, hm⟩
 ·refine gT E (QA (wR 1 [(4, iv (-1))] w64 (ND ?_)))
  cases hm
  exact RA [iv (-1)] (⟨rfl, y.pk []⟩)
 refine gF E (KA (MW 1 (wV (.slice n a.Raised.length j) w64 (eL false 1 2 (y.blk 0 rfl)) (wR 1 [(1, iv d), (2, pB b 0), (18, .slice n a.Raised.length j), (19, iv d)] w64 ?_))))
 obtain ⟨f, T, hm⟩ := gx_bind hm
 refine WD (c_l_szBoolS w64 a.Raised n j (O.mem0 y) d T) y fun t z => MW 1 (NB (wR 2 [(1, iv f), (2, pB b 0), (22, .bool (decide (f < 0)))] t (NO ?_)))
 rcases gx_bif hm with ⟨F, hm⟩ | ⟨F, hm⟩
 ·refine gT F (QA (wR 1 [(4, iv (-1))] t (ND ?_)))
  cases hm
  exact RA [iv (-1)] (⟨rfl, z.pk []⟩)
 refine gF F (KA (MW 1 (wV (.slice o a.Cpus.length k) t (eL false 1 3 (z.blk 0 rfl)) (wR 1 [(1, iv f), (24, .slice o a.Cpus.length k), (25, iv f)] t ?_))))
 obtain ⟨u, Q, hm⟩ := gx_bind hm
 refine WD (c_l_szInterfaceS t a.Cpus o k (P.mem0 z) f Q) z fun A G => MW 1 (NB (wR 2 [(1, iv u), (28, .bool (decide (u < 0)))] A (NO ?_)))
 rcases gx_bif hm with ⟨C, hm⟩ | ⟨C, hm⟩
 ·refine gT C (QA (wR 1 [(4, iv (-1))] A (ND ?_)))
  cases hm
  exact RA [iv (-1)] (⟨rfl, G.pk []⟩)
 refine gF C (KA (wR 2 [(4, iv u)] A (NC ?_)))
 obtain rfl := HS hm
 exact RA [iv u] (⟨rfl, G.pk []⟩)
theorem c_l_toRoute (w : World) (a : Route) {r : Route} (hm : M.l_toRoute a = some r) :
  Calls Tryz.prog 106 #[.agg #[iv a.Priority, iv a.Target]] w fun e w' => e = .returned (.agg #[iv r.Priority, iv r.Target]) ∧ Mem [] w w' [] := by
 unfold M.l_toRoute at hm
 refine cE Tryz.func106 ?_
 have M0 := Mem.refl [] w
 refine QA (wN (.cells ⟨[iv a.Priority, iv a.Target]⟩ 131 (0, 0)) M0 fun f x q => wN (.cells ⟨[iv 0, iv 0]⟩ 129 (0, 0)) q fun c y t => NA (wN (.cells ⟨[iv 0, iv 0]⟩ 129 (0, 0)) t fun d h j => NA (MW 1 (wV (iv a.Priority) h (eL false 1 0 (j.blk 0 rfl)) (wR 1 [(1, pB f 0), (2, pB c 0), (3, pB d 0), (5, iv a.Priority), (6, pB d 0)] h (wS false 1 0 (iv a.Priority) 2 [iv a.Priority, iv 0] j rfl fun i l => NA (MW 1 (wV (iv a.Target) i (eL false 1 1 (l.blk 0 rfl)) (wR 1 [(2, pB c 0), (3, pB d 0), (8, iv a.Target), (9, pB d 1)] i (wS false 1 1 (iv a.Target) 2 [iv a.Priority, iv a.Target] l rfl fun u m => NA (wV (.agg #[iv a.Priority, iv a.Target]) u (eL true 2 0 (m.blk 2 rfl)) (wS true 2 0 (.agg #[iv a.Priority, iv a.Target]) 1 [iv a.Priority, iv a.Target] m rfl fun z n => NC ?_))))))))))))
 obtain rfl := HS hm
 exact N_ret [.agg #[iv a.Priority, iv a.Target]] (RX true 2 0 (n.blk 1 rfl) RVs_nil) (⟨rfl, n.pk []⟩)
theorem c_l_toRouteS (w : World) (f : List Route) (g : Option Addr) (h : Nat) (x : rdS encRoute w f g h) {r : (List Route)} (hm : M.l_toRouteS f = some r) :
  Calls Tryz.prog 55 #[.slice g f.length h] w fun e w' => ∃ (B : Option Addr) (v : Nat) (C : Seg), e = .returned (.slice B r.length v) ∧ ownS encRoute r B v C ∧ Mem [] w w' [C] := by
 unfold M.l_toRouteS at hm
 refine cE Tryz.func55 ?_
 have M0 := Mem.refl [] w
 refine QA (MW 1 (NA (wR 2 [(0, .slice g f.length h), (6, iv (f.length : Int))] w ?_)))
 obtain ⟨A, L, hm⟩ := gx_bind hm
 refine W_make (E := encRoute) _ _ _ (f.length : Int) 16 [iv 0, iv 0] ((⟨0, 0⟩ : Route) : Route) M0 (by kernel_rfl) rfl (by kernel_rfl) (by kernel_rfl) (by kernel_rfl) (by kernel_rfl) (by kernel_rfl) L fun c d U D O G => MW 1 (NB (wR 1 [(0, .slice g f.length h), (3, .slice c A.length d), (4, iv 0)] D (NO ?_)))
 obtain ⟨m, T, N⟩ := gx_bind hm
 refine G_meet (fun a w' => ∃ (o : Seg), ownS encRoute m c d o ∧ Mem [] w w' [o] ∧ Sat Tryz.f55.ntmps [(3, .slice c m.length d)] a) ?_ ?_
 ·refine GB (G_while (σ := Int × List Route) (ρ := List Route) (fun b a w' => ∃ (n : Seg), ownS encRoute b.2 c d n ∧ Mem [] w w' [n] ∧ Sat Tryz.f55.ntmps [(0, .slice g f.length h), (3, .slice c b.2.length d), (4, iv b.1)] a) T (fun a ha => ⟨U, O, G.pk [0], ha.s⟩) ?_)
  clear hm
  intro b ac hm R aa j ⟨n, t, l, J⟩
  refine G_use J (QB (wR 4 [(0, .slice g f.length h), (3, .slice c b.2.length d), (4, iv b.1), (11, .bool (decide (b.1 < (f.length : Int))))] j (NO ?_)))
  rcases gx_bif hm with ⟨q, hm⟩ | ⟨q, hm⟩
  ·refine gT q (GK (TN (GS (GB (GR (wR 4 [(0, .slice g f.length h), (3, .slice c b.2.length d), (4, iv b.1), (14, .slice c b.2.length d), (15, iv b.1), (16, .slice g f.length h), (17, iv b.1)] j ?_))))))
   obtain ⟨k, y, hm⟩ := gx_bind hm
   refine wV (elemP g (b.1.toNat * 2)) j (eI (x.mem0 l) rfl y) (wV (.agg #[iv k.Priority, iv k.Target]) j (eE true 2 0 (b.1.toNat * 2) (x.mem0 l) y) ?_)
   obtain ⟨i, S, hm⟩ := gx_bind hm
   refine WD (c_l_toRoute j k S) l fun W u => ?_
   obtain ⟨Z, z, hm⟩ := gx_bind hm
   refine wV (elemP c (b.1.toNat * 2)) W (eI (t.r u 0) rfl z) (wE true 2 b.1.toNat 0 (b.1.toNat * 2) Z i (.agg #[iv i.Priority, iv i.Target]) 0 u t (gxIdx_spec z).2 fun X V Q H => LX 3 c d b.2 b.1.toNat i (LX 14 c d b.2 b.1.toNat i (NG (wR 3 [(0, .slice g f.length h), (3, .slice c (b.2.set b.1.toNat i).length d), (4, iv (w64 (b.1 + 1)))] X (WN ?_)))))
   cases hm
   exact N_loop fun a ha => ⟨_, rfl, V, Q, H.pk [0], ha.s⟩
  refine gF q (XA ?_)
  obtain rfl := HS hm
  obtain rfl := R _ rfl
  exact N_meet fun a ha => ⟨n, t, l.pk [0], ha.s⟩
 intro ab Y ⟨o, P, I, K⟩
 refine N_use K ?_
 have hm := N
 refine NF (wR 2 [(2, .slice c m.length d)] Y (NC ?_))
 obtain rfl := HS hm
 exact RA [.slice c m.length d] (⟨c, d, o, rfl, P, I.pk [0]⟩)
theorem c_l_toBoolS (w : World) (f : List Bool) (g : Option Addr) (h : Nat) (u : rdS Gx.encB w f g h) {r : (List Bool)} (hm : M.l_toBoolS f = some r) :
  Calls Tryz.prog 56 #[.slice g f.length h] w fun e w' => ∃ (z : Option Addr) (t : Nat) (A : Seg), e = .returned (.slice z r.length t) ∧ ownS Gx.encB r z t A ∧ Mem [] w w' [A] := by
 unfold M.l_toBoolS at hm
 refine cE Tryz.func56 ?_
 have M0 := Mem.refl [] w
 refine QA (MW 1 (NA (wR 2 [(0, .slice g f.length h), (6, iv (f.length : Int))] w ?_)))
 obtain ⟨y, I, hm⟩ := gx_bind hm
 refine W_make (E := Gx.encB) _ _ _ (f.length : Int) 1 [.bool false] (false : Bool) M0 (by kernel_rfl) rfl (by kernel_rfl) (by kernel_rfl) (by kernel_rfl) (by kernel_rfl) (by kernel_rfl) I fun c d Q B K C => MW 1 (NB (wR 1 [(0, .slice g f.length h), (3, .slice c y.length d), (4, iv 0)] B (NO ?_)))
 obtain ⟨l, P, J⟩ := gx_bind hm
 refine G_meet (fun a w' => ∃ (n : Seg), ownS Gx.encB l c d n ∧ Mem [] w w' [n] ∧ Sat Tryz.f56.ntmps [(3, .slice c l.length d)] a) ?_ ?_
 ·refine GB (G_while (σ := Int × List Bool) (ρ := List Bool) (fun b a w' => ∃ (m : Seg), ownS Gx.encB b.2 c d m ∧ Mem [] w w' [m] ∧ Sat Tryz.f56.ntmps [(0, .slice g f.length h), (3, .slice c b.2.length d), (4, iv b.1)] a) P (fun a ha => ⟨Q, K, C.pk [0], ha.s⟩) ?_)
  clear hm
  intro b X hm O V k ⟨m, q, j, G⟩
  refine G_use G (QB (wR 4 [(0, .slice g f.length h), (3, .slice c b.2.length d), (4, iv b.1), (11, .bool (decide (b.1 < (f.length : Int))))] k (NO ?_)))
  rcases gx_bif hm with ⟨o, hm⟩ | ⟨o, hm⟩
  ·refine gT o (GK (TN (GS (GB (GR (wR 4 [(0, .slice g f.length h), (3, .slice c b.2.length d), (4, iv b.1), (14, .slice c b.2.length d), (15, iv b.1), (16, .slice g f.length h), (17, iv b.1)] k ?_))))))
   obtain ⟨i, v, hm⟩ := gx_bind hm
   refine wV (elemP g (b.1.toNat * 1)) k (eI (u.mem0 j) rfl v) (wV (.bool i) k (eE false 1 0 (b.1.toNat * 1) (u.mem0 j) v) ?_)
   obtain ⟨U, x, hm⟩ := gx_bind hm
   refine wV (elemP c (b.1.toNat * 1)) k (eI (q.r j 0) rfl x) (wE false 1 b.1.toNat 0 (b.1.toNat * 1) U i (.bool i) 0 j q (gxIdx_spec x).2 fun S R N D => LX 3 c d b.2 b.1.toNat i (LX 14 c d b.2 b.1.toNat i (NG (wR 3 [(0, .slice g f.length h), (3, .slice c (b.2.set b.1.toNat i).length d), (4, iv (w64 (b.1 + 1)))] S (WN ?_)))))
   cases hm
   exact N_loop fun a ha => ⟨_, rfl, R, N, D.pk [0], ha.s⟩
  refine gF o (XA ?_)
  obtain rfl := HS hm
  obtain rfl := O _ rfl
  exact N_meet fun a ha => ⟨m, q, j.pk [0], ha.s⟩
 intro W T ⟨n, L, F, H⟩
 refine N_use H ?_
 have hm := J
 refine NF (wR 2 [(2, .slice c l.length d)] T (NC ?_))
 obtain rfl := HS hm
 exact RA [.slice c l.length d] (⟨c, d, n, rfl, L, F.pk [0]⟩)
theorem c_l_toIntS (w : World) (f : List Int) (g : Option Addr) (h : Nat) (u : rdS Gx.encI w f g h) {r : (List Int)} (hm : M.l_toIntS f = some r) :
  Calls Tryz.prog 157 #[.slice g f.length h] w fun e w' => ∃ (z : Option Addr) (t : Nat) (A : Seg), e = .returned (.slice z r.length t) ∧ ownS Gx.encI r z t A ∧ Mem [] w w' [A] := by
 unfold M.l_toIntS at hm
 refine cE Tryz.func157 ?_
 have M0 := Mem.refl [] w
 refine QA (MW 1 (NA (wR 2 [(0, .slice g f.length h), (6, iv (f.length : Int))] w ?_)))
 obtain ⟨y, I, hm⟩ := gx_bind hm
 refine W_make (E := Gx.encI) _ _ _ (f.length : Int) 8 [iv 0] (0 : Int) M0 (by kernel_rfl) rfl (by kernel_rfl) (by kernel_rfl) (by kernel_rfl) (by kernel_rfl) (by kernel_rfl) I fun c d Q B K C => MW 1 (NB (wR 1 [(0, .slice g f.length h), (3, .slice c y.length d), (4, iv 0)] B (NO ?_)))
 obtain ⟨l, P, J⟩ := gx_bind hm
 refine G_meet (fun a w' => ∃ (n : Seg), ownS Gx.encI l c d n ∧ Mem [] w w' [n] ∧ Sat Tryz.f157.ntmps [(3, .slice c l.length d)] a) ?_ ?_
 ·refine GB (G_while (σ := Int × List Int) (ρ := List Int) (fun b a w' => ∃ (m : Seg), ownS Gx.encI b.2 c d m ∧ Mem [] w w' [m] ∧ Sat Tryz.f157.ntmps [(0, .slice g f.length h), (3, .slice c b.2.length d), (4, iv b.1)] a) P (fun a ha => ⟨Q, K, C.pk [0], ha.s⟩) ?_)
  clear hm
  intro b X hm O V k ⟨m, q, j, G⟩
  refine G_use G (QB (wR 4 [(0, .slice g f.length h), (3, .slice c b.2.length d), (4, iv b.1), (11, .bool (decide (b.1 < (f.length : Int))))] k (NO ?_)))
  rcases gx_bif hm with ⟨o, hm⟩ | ⟨o, hm⟩
  ·refine gT o (GK (TN (GS (GB (GR (wR 4 [(0, .slice g f.length h), (3, .slice c b.2.length d), (4, iv b.1), (14, .slice c b.2.length d), (15, iv b.1), (16, .slice g f.length h), (17, iv b.1)] k ?_))))))
   obtain ⟨i, v, hm⟩ := gx_bind hm
   refine wV (elemP g (b.1.toNat * 1)) k (eI (u.mem0 j) rfl v) (wV (iv i) k (eE false 1 0 (b.1.toNat * 1) (u.mem0 j) v) ?_)
   obtain ⟨U, x, hm⟩ := gx_bind hm
   refine wV (elemP c (b.1.toNat * 1)) k (eI (q.r j 0) rfl x) (wE false 1 b.1.toNat 0 (b.1.toNat * 1) U i (iv i) 0 j q (gxIdx_spec x).2 fun S R N D => LX 3 c d b.2 b.1.toNat i (LX 14 c d b.2 b.1.toNat i (NG (wR 3 [(0, .slice g f.length h), (3, .slice c (b.2.set b.1.toNat i).length d), (4, iv (w64 (b.1 + 1)))] S (WN ?_)))))
   cases hm
   exact N_loop fun a ha => ⟨_, rfl, R, N, D.pk [0], ha.s⟩
  refine gF o (XA ?_)
  obtain rfl := HS hm
  obtain rfl := O _ rfl
  exact N_meet fun a ha => ⟨m, q, j.pk [0], ha.s⟩
 intro W T ⟨n, L, F, H⟩
 refine N_use H ?_
 have hm := J
 refine NF (wR 2 [(2, .slice c l.length d)] T (NC ?_))
 obtain rfl := HS hm
 exact RA [.slice c l.length d] (⟨c, d, n, rfl, L, F.pk [0]⟩)
theorem c_l_toSlot (w : World) (a : Slot) {r : Slot} (hm : M.l_toSlot a = some r) :
  Calls Tryz.prog 237 #[.agg #[iv a.State, iv a.Irq, iv a.Priority]] w fun e w' => e = .returned (.agg #[iv r.State, iv r.Irq, iv r.Priority]) ∧ Mem [] w w' [] := by
 unfold M.l_toSlot at hm
 refine cE Tryz.func237 ?_
 have M0 := Mem.refl [] w
 refine QA (wN (.cells ⟨[iv a.State, iv a.Irq, iv a.Priority]⟩ 225 (0, 0)) M0 fun f z u => wN (.cells ⟨[iv 0, iv 0, iv 0]⟩ 117 (0, 0)) u fun d A x => NA (wN (.cells ⟨[iv 0, iv 0, iv 0]⟩ 117 (0, 0)) x fun c h l => NA (MW 1 (wV (iv a.State) h (eL false 1 0 (l.blk 0 rfl)) (wR 1 [(1, pB f 0), (2, pB d 0), (3, pB c 0), (5, iv a.State), (6, pB c 0)] h (wS false 1 0 (iv a.State) 2 [iv a.State, iv 0, iv 0] l rfl fun i m => NA (MW 1 (wV (iv a.Irq) i (eL false 1 1 (m.blk 0 rfl)) (wR 1 [(1, pB f 0), (2, pB d 0), (3, pB c 0), (8, iv a.Irq), (9, pB c 1)] i (wS false 1 1 (iv a.Irq) 2 [iv a.State, iv a.Irq, iv 0] m rfl fun j n => NA (MW 1 (wV (iv a.Priority) j (eL false 1 2 (n.blk 0 rfl)) (wR 1 [(2, pB d 0), (3, pB c 0), (11, iv a.Priority), (12, pB c 2)] j (wS false 1 2 (iv a.Priority) 2 [iv a.State, iv a.Irq, iv a.Priority] n rfl fun y q => NA (wV (.agg #[iv a.State, iv a.Irq, iv a.Priority]) y (eL true 3 0 (q.blk 2 rfl)) (wS true 3 0 (.agg #[iv a.State, iv a.Irq, iv a.Priority]) 1 [iv a.State, iv a.Irq, iv a.Priority] q rfl fun B t => NC ?_))))))))))))))))
 obtain rfl := HS hm
 exact N_ret [.agg #[iv a.State, iv a.Irq, iv a.Priority]] (RX true 3 0 (t.blk 1 rfl) RVs_nil) (⟨rfl, t.pk []⟩)
theorem c_l_toSlotS (w : World) (f : List Slot) (g : Option Addr) (h : Nat) (x : rdS encSlot w f g h) {r : (List Slot)} (hm : M.l_toSlotS f = some r) :
  Calls Tryz.prog 193 #[.slice g f.length h] w fun e w' => ∃ (B : Option Addr) (v : Nat) (C : Seg), e = .returned (.slice B r.length v) ∧ ownS encSlot r B v C ∧ Mem [] w w' [C] := by
 unfold M.l_toSlotS at hm
 refine cE Tryz.func193 ?_
 have M0 := Mem.refl [] w
 refine QA (MW 1 (NA (wR 2 [(0, .slice g f.length h), (6, iv (f.length : Int))] w ?_)))
 obtain ⟨A, L, hm⟩ := gx_bind hm
 refine W_make (E := encSlot) _ _ _ (f.length : Int) 24 [iv 0, iv 0, iv 0] ((⟨0, 0, 0⟩ : Slot) : Slot) M0 (by kernel_rfl) rfl (by kernel_rfl) (by kernel_rfl) (by kernel_rfl) (by kernel_rfl) (by kernel_rfl) L fun c d U D O G => MW 1 (NB (wR 1 [(0, .slice g f.length h), (3, .slice c A.length d), (4, iv 0)] D (NO ?_)))
 obtain ⟨m, T, N⟩ := gx_bind hm
 refine G_meet (fun a w' => ∃ (o : Seg), ownS encSlot m c d o ∧ Mem [] w w' [o] ∧ Sat Tryz.f193.ntmps [(3, .slice c m.length d)] a) ?_ ?_
 ·refine GB (G_while (σ := Int × List Slot) (ρ := List Slot) (fun b a w' => ∃ (n : Seg), ownS encSlot b.2 c d n ∧ Mem [] w w' [n] ∧ Sat Tryz.f193.ntmps [(0, .slice g f.length h), (3, .slice c b.2.length d), (4, iv b.1)] a) T (fun a ha => ⟨U, O, G.pk [0], ha.s⟩) ?_)
  clear hm
  intro b ac hm R aa k ⟨n, t, l, J⟩
  refine G_use J (QB (wR 4 [(0, .slice g f.length h), (3, .slice c b.2.length d), (4, iv b.1), (11, .bool (decide (b.1 < (f.length : Int))))] k (NO ?_)))
  rcases gx_bif hm with ⟨q, hm⟩ | ⟨q, hm⟩
  ·refine gT q (GK (TN (GS (GB (GR (wR 4 [(0, .slice g f.length h), (3, .slice c b.2.length d), (4, iv b.1), (14, .slice c b.2.length d), (15, iv b.1), (16, .slice g f.length h), (17, iv b.1)] k ?_))))))
   obtain ⟨j, y, hm⟩ := gx_bind hm
   refine wV (elemP g (b.1.toNat * 3)) k (eI (x.mem0 l) rfl y) (wV (.agg #[iv j.State, iv j.Irq, iv j.Priority]) k (eE true 3 0 (b.1.toNat * 3) (x.mem0 l) y) ?_)
   obtain ⟨i, S, hm⟩ := gx_bind hm
   refine WD (c_l_toSlot k j S) l fun W u => ?_
   obtain ⟨Z, z, hm⟩ := gx_bind hm
   refine wV (elemP c (b.1.toNat * 3)) W (eI (t.r u 0) rfl z) (wE true 3 b.1.toNat 0 (b.1.toNat * 3) Z i (.agg #[iv i.State, iv i.Irq, iv i.Priority]) 0 u t (gxIdx_spec z).2 fun X V Q H => LX 3 c d b.2 b.1.toNat i (LX 14 c d b.2 b.1.toNat i (NG (wR 3 [(0, .slice g f.length h), (3, .slice c (b.2.set b.1.toNat i).length d), (4, iv (w64 (b.1 + 1)))] X (WN ?_)))))
   cases hm
   exact N_loop fun a ha => ⟨_, rfl, V, Q, H.pk [0], ha.s⟩
  refine gF q (XA ?_)
  obtain rfl := HS hm
  obtain rfl := R _ rfl
  exact N_meet fun a ha => ⟨n, t, l.pk [0], ha.s⟩
 intro ab Y ⟨o, P, I, K⟩
 refine N_use K ?_
 have hm := N
 refine NF (wR 2 [(2, .slice c m.length d)] Y (NC ?_))
 obtain rfl := HS hm
 exact RA [.slice c m.length d] (⟨c, d, o, rfl, P, I.pk [0]⟩)
theorem c_l_toWaiter (w : World) (a : Waiter) {r : Waiter} (hm : M.l_toWaiter a = some r) :
  Calls Tryz.prog 238 #[.agg #[iv a.Irq, iv a.Priority]] w fun e w' => e = .returned (.agg #[iv r.Irq, iv r.Priority]) ∧ Mem [] w w' [] := by
 unfold M.l_toWaiter at hm
 refine cE Tryz.func238 ?_
 have M0 := Mem.refl [] w
 refine QA (wN (.cells ⟨[iv a.Irq, iv a.Priority]⟩ 227 (0, 0)) M0 fun f x q => wN (.cells ⟨[iv 0, iv 0]⟩ 142 (0, 0)) q fun c y t => NA (wN (.cells ⟨[iv 0, iv 0]⟩ 142 (0, 0)) t fun d h j => NA (MW 1 (wV (iv a.Irq) h (eL false 1 0 (j.blk 0 rfl)) (wR 1 [(1, pB f 0), (2, pB c 0), (3, pB d 0), (5, iv a.Irq), (6, pB d 0)] h (wS false 1 0 (iv a.Irq) 2 [iv a.Irq, iv 0] j rfl fun i l => NA (MW 1 (wV (iv a.Priority) i (eL false 1 1 (l.blk 0 rfl)) (wR 1 [(2, pB c 0), (3, pB d 0), (8, iv a.Priority), (9, pB d 1)] i (wS false 1 1 (iv a.Priority) 2 [iv a.Irq, iv a.Priority] l rfl fun u m => NA (wV (.agg #[iv a.Irq, iv a.Priority]) u (eL true 2 0 (m.blk 2 rfl)) (wS true 2 0 (.agg #[iv a.Irq, iv a.Priority]) 1 [iv a.Irq, iv a.Priority] m rfl fun z n => NC ?_))))))))))))
 obtain rfl := HS hm
 exact N_ret [.agg #[iv a.Irq, iv a.Priority]] (RX true 2 0 (n.blk 1 rfl) RVs_nil) (⟨rfl, n.pk []⟩)
theorem c_l_toWaiterS (w : World) (f : List Waiter) (g : Option Addr) (h : Nat) (x : rdS encWaiter w f g h) {r : (List Waiter)} (hm : M.l_toWaiterS f = some r) :
  Calls Tryz.prog 194 #[.slice g f.length h] w fun e w' => ∃ (B : Option Addr) (v : Nat) (C : Seg), e = .returned (.slice B r.length v) ∧ ownS encWaiter r B v C ∧ Mem [] w w' [C] := by
 unfold M.l_toWaiterS at hm
 refine cE Tryz.func194 ?_
 have M0 := Mem.refl [] w
 refine QA (MW 1 (NA (wR 2 [(0, .slice g f.length h), (6, iv (f.length : Int))] w ?_)))
 obtain ⟨A, L, hm⟩ := gx_bind hm
 refine W_make (E := encWaiter) _ _ _ (f.length : Int) 16 [iv 0, iv 0] ((⟨0, 0⟩ : Waiter) : Waiter) M0 (by kernel_rfl) rfl (by kernel_rfl) (by kernel_rfl) (by kernel_rfl) (by kernel_rfl) (by kernel_rfl) L fun c d U D O G => MW 1 (NB (wR 1 [(0, .slice g f.length h), (3, .slice c A.length d), (4, iv 0)] D (NO ?_)))
 obtain ⟨m, T, N⟩ := gx_bind hm
 refine G_meet (fun a w' => ∃ (o : Seg), ownS encWaiter m c d o ∧ Mem [] w w' [o] ∧ Sat Tryz.f194.ntmps [(3, .slice c m.length d)] a) ?_ ?_
 ·refine GB (G_while (σ := Int × List Waiter) (ρ := List Waiter) (fun b a w' => ∃ (n : Seg), ownS encWaiter b.2 c d n ∧ Mem [] w w' [n] ∧ Sat Tryz.f194.ntmps [(0, .slice g f.length h), (3, .slice c b.2.length d), (4, iv b.1)] a) T (fun a ha => ⟨U, O, G.pk [0], ha.s⟩) ?_)
  clear hm
  intro b ac hm R aa j ⟨n, t, l, J⟩
  refine G_use J (QB (wR 4 [(0, .slice g f.length h), (3, .slice c b.2.length d), (4, iv b.1), (11, .bool (decide (b.1 < (f.length : Int))))] j (NO ?_)))
  rcases gx_bif hm with ⟨q, hm⟩ | ⟨q, hm⟩
  ·refine gT q (GK (TN (GS (GB (GR (wR 4 [(0, .slice g f.length h), (3, .slice c b.2.length d), (4, iv b.1), (14, .slice c b.2.length d), (15, iv b.1), (16, .slice g f.length h), (17, iv b.1)] j ?_))))))
   obtain ⟨k, y, hm⟩ := gx_bind hm
   refine wV (elemP g (b.1.toNat * 2)) j (eI (x.mem0 l) rfl y) (wV (.agg #[iv k.Irq, iv k.Priority]) j (eE true 2 0 (b.1.toNat * 2) (x.mem0 l) y) ?_)
   obtain ⟨i, S, hm⟩ := gx_bind hm
   refine WD (c_l_toWaiter j k S) l fun W u => ?_
   obtain ⟨Z, z, hm⟩ := gx_bind hm
   refine wV (elemP c (b.1.toNat * 2)) W (eI (t.r u 0) rfl z) (wE true 2 b.1.toNat 0 (b.1.toNat * 2) Z i (.agg #[iv i.Irq, iv i.Priority]) 0 u t (gxIdx_spec z).2 fun X V Q H => LX 3 c d b.2 b.1.toNat i (LX 14 c d b.2 b.1.toNat i (NG (wR 3 [(0, .slice g f.length h), (3, .slice c (b.2.set b.1.toNat i).length d), (4, iv (w64 (b.1 + 1)))] X (WN ?_)))))
   cases hm
   exact N_loop fun a ha => ⟨_, rfl, V, Q, H.pk [0], ha.s⟩
  refine gF q (XA ?_)
  obtain rfl := HS hm
  obtain rfl := R _ rfl
  exact N_meet fun a ha => ⟨n, t, l.pk [0], ha.s⟩
 intro ab Y ⟨o, P, I, K⟩
 refine N_use K ?_
 have hm := N
 refine NF (wR 2 [(2, .slice c m.length d)] Y (NC ?_))
 obtain rfl := HS hm
 exact RA [.slice c m.length d] (⟨c, d, o, rfl, P, I.pk [0]⟩)
theorem c_l_toQueue (w : World) (a : Queue) (t : Option Addr) (n : Nat) (Q : rdS encSlot w a.Slots t n) (u : Option Addr) (q : Nat) (R : rdS encWaiter w a.Waiting u q) {r : Queue} (hm : M.l_toQueue a = some r) :
  Calls Tryz.prog 158 #[.agg #[.slice t a.Slots.length n, .slice u a.Waiting.length q]] w fun e w' => ∃ (F : Option Addr) (D : Nat) (H : Seg), ∃ (G : Option Addr) (E : Nat) (I : Seg), e = .returned (.agg #[.slice F r.Slots.length D, .slice G r.Waiting.length E]) ∧ ownS encSlot r.Slots F D H ∧ ownS encWaiter r.Waiting G E I ∧ Mem [] w w' [H, I] := by
 unfold M.l_toQueue at hm
 refine cE Tryz.func158 ?_
 have M0 := Mem.refl [] w
 refine QA (wN (.cells ⟨[.slice t a.Slots.length n, .slice u a.Waiting.length q]⟩ 124 (0, 0)) M0 fun x ab L => wN (.cells ⟨[.slice none 0 0, .slice none 0 0]⟩ 85 (0, 0)) L fun l w640 N => NA (wN (.cells ⟨[.slice none 0 0, .slice none 0 0]⟩ 85 (0, 0)) N fun m w646 y => NA (wR 1 [(1, pB x 0), (2, pB l 0), (3, pB m 0), (4, pB x 0)] w646 (wV (.slice t a.Slots.length n) w646 (eL false 1 0 (y.blk 0 rfl)) ?_))))
 obtain ⟨i, U, hm⟩ := gx_bind hm
 refine WC ((c_l_toSlotS w646 a.Slots t n (Q.mem0 y) U).mono ?_)
 rintro e_ Y ⟨d, c, W, rfl, S, J⟩
 have O := y.call J
 refine ⟨_, rfl, ?_⟩
 refine wR 1 [(1, pB x 0), (2, pB l 0), (3, pB m 0), (6, .slice d i.length c), (7, pB m 0)] Y (wS false 1 0 (.slice d i.length c) 2 [.slice d i.length c, .slice none 0 0] O rfl fun A z => NA (wR 1 [(2, pB l 0), (3, pB m 0), (8, pB x 1)] A (wV (.slice u a.Waiting.length q) A (eL false 1 1 (z.blk 0 rfl)) ?_)))
 obtain ⟨j, V, hm⟩ := gx_bind hm
 refine WC ((c_l_toWaiterS A a.Waiting u q (R.mem0 z) V).mono ?_)
 rintro e_ Z ⟨h, f, X, rfl, T, K⟩
 have P := z.call K
 refine ⟨_, rfl, ?_⟩
 refine wR 1 [(2, pB l 0), (3, pB m 0), (10, .slice h j.length f), (11, pB m 1)] Z (wS false 1 1 (.slice h j.length f) 2 [.slice d i.length c, .slice h j.length f] P rfl fun aa B => NA (wV (.agg #[.slice d i.length c, .slice h j.length f]) aa (eL true 2 0 (B.blk 2 rfl)) (wS true 2 0 (.agg #[.slice d i.length c, .slice h j.length f]) 1 [.slice d i.length c, .slice h j.length f] B rfl fun ac C => NC ?_)))
 obtain rfl := HS hm
 exact N_ret [.agg #[.slice d i.length c, .slice h j.length f]] (RX true 2 0 (C.blk 1 rfl) RVs_nil) (⟨d, c, W, h, f, X, rfl, S, T, C.pk [3, 4]⟩)
theorem c_l_toInterface (w : World) (a : Interface) (z : Option Addr) (u : Nat) (aa : rdS Gx.encI w a.Stack z u) (A : Option Addr) (x : Nat) (ab : rdS encSlot w a.Queue.Slots A x) (B : Option Addr) (y : Nat) (ac : rdS encWaiter w a.Queue.Waiting B y) {r : Interface} (hm : M.l_toInterface a = some r) :
  Calls Tryz.prog 107 #[.agg #[iv a.Mask, .slice z a.Stack.length u, .slice A a.Queue.Slots.length x, .slice B a.Queue.Waiting.length y]] w fun e w' => ∃ (O : Option Addr) (K : Nat) (R : Seg), ∃ (P : Option Addr) (L : Nat) (S : Seg), ∃ (Q : Option Addr) (N : Nat) (T : Seg), e = .returned (.agg #[iv r.Mask, .slice O r.Stack.length K, .slice P r.Queue.Slots.length L, .slice Q r.Queue.Waiting.length N]) ∧ ownS Gx.encI r.Stack O K R ∧ ownS encSlot r.Queue.Slots P L S ∧ ownS encWaiter r.Queue.Waiting Q N T ∧ Mem [] w w' [R, S, T] := by
 unfold M.l_toInterface at hm
 refine cE Tryz.func107 ?_
 have M0 := Mem.refl [] w
 refine QA (wN (.cells ⟨[iv a.Mask, .slice z a.Stack.length u, .slice A a.Queue.Slots.length x, .slice B a.Queue.Waiting.length y]⟩ 126 (0, 0)) M0 fun t ao W => wN (.cells ⟨[iv 0, .slice none 0 0, .slice none 0 0, .slice none 0 0]⟩ 87 (0, 0)) W fun q ap X => NA (wN (.cells ⟨[iv 0, .slice none 0 0, .slice none 0 0, .slice none 0 0]⟩ 87 (0, 0)) X fun n E H => NA (MW 1 (wV (iv a.Mask) E (eL false 1 0 (H.blk 0 rfl)) (wR 1 [(1, pB t 0), (2, pB q 0), (3, pB n 0), (5, iv a.Mask), (6, pB n 0)] E (wS false 1 0 (iv a.Mask) 2 [iv a.Mask, .slice none 0 0, .slice none 0 0, .slice none 0 0] H rfl fun F D => NA (wR 1 [(1, pB t 0), (2, pB q 0), (3, pB n 0), (7, pB t 1)] F (wV (.slice z a.Stack.length u) F (eL false 1 1 (D.blk 0 rfl)) ?_))))))))
 obtain ⟨m, ag, hm⟩ := gx_bind hm
 refine WC ((c_l_toIntS F a.Stack z u (aa.mem0 D) ag).mono ?_)
 rintro e_ al ⟨f, d, ai, rfl, ad, U⟩
 have Y := D.call U
 refine ⟨_, rfl, ?_⟩
 refine wR 1 [(1, pB t 0), (2, pB q 0), (3, pB n 0), (9, .slice f m.length d), (10, pB n 1)] al (wS false 1 1 (.slice f m.length d) 2 [iv a.Mask, .slice f m.length d, .slice none 0 0, .slice none 0 0] Y rfl fun G C => NA (wR 1 [(2, pB q 0), (3, pB n 0), (11, pB t 2)] G (wV (.agg #[.slice A a.Queue.Slots.length x, .slice B a.Queue.Waiting.length y]) G (eL true 2 2 (C.blk 0 rfl)) ?_)))
 obtain ⟨c, ah, hm⟩ := gx_bind hm
 refine WC ((c_l_toQueue G a.Queue A x (ab.mem0 C) B y (ac.mem0 C) ah).mono ?_)
 rintro e_ am ⟨j, h, aj, l, i, ak, rfl, ae, af, V⟩
 have Z := C.call V
 refine ⟨_, rfl, ?_⟩
 refine wR 1 [(2, pB q 0), (3, pB n 0), (13, .agg #[.slice j c.Slots.length h, .slice l c.Waiting.length i]), (14, pB n 2)] am (wS true 2 2 (.agg #[.slice j c.Slots.length h, .slice l c.Waiting.length i]) 2 [iv a.Mask, .slice f m.length d, .slice j c.Slots.length h, .slice l c.Waiting.length i] Z rfl fun an I => NA (wV (.agg #[iv a.Mask, .slice f m.length d, .slice j c.Slots.length h, .slice l c.Waiting.length i]) an (eL true 4 0 (I.blk 2 rfl)) (wS true 4 0 (.agg #[iv a.Mask, .slice f m.length d, .slice j c.Slots.length h, .slice l c.Waiting.length i]) 1 [iv a.Mask, .slice f m.length d, .slice j c.Slots.length h, .slice l c.Waiting.length i] I rfl fun aq J => NC ?_)))
 obtain rfl := HS hm
 exact N_ret [.agg #[iv a.Mask, .slice f m.length d, .slice j c.Slots.length h, .slice l c.Waiting.length i]] (RX true 4 0 (J.blk 1 rfl) RVs_nil) (⟨f, d, ai, j, h, aj, l, i, ak, rfl, ad, ae, af, J.pk [3, 4, 5]⟩)
theorem c_l_toInterfaceS (w : World) (h : List Interface) (k : Option Addr) (l : Nat) (am : rdD deepInterface w h k l) {r : (List Interface)} (hm : M.l_toInterfaceS h = some r) :
  Calls Tryz.prog 57 #[.slice k h.length l] w fun e w' => ∃ (aa : Option Addr) (T : Nat) (ab : Seg) (ac : Seg), e = .returned (.slice aa r.length T) ∧ ownD deepInterface r aa T ab ac ∧ Mem [] w w' [ab, ac] := by
 unfold M.l_toInterfaceS at hm
 refine cE Tryz.func57 ?_
 have M0 := Mem.refl [] w
 refine QA (MW 1 (NA (wR 2 [(0, .slice k h.length l), (6, iv (h.length : Int))] w ?_)))
 obtain ⟨Z, aq, hm⟩ := gx_bind hm
 refine W_makeD (D := deepInterface) _ _ _ (h.length : Int) 80 [iv 0, .slice none 0 0, .slice none 0 0, .slice none 0 0] ((⟨0, [], (⟨[], []⟩ : Queue)⟩ : Interface) : Interface) (plOf []) M0 (by kernel_rfl) rfl (by kernel_rfl) (by kernel_rfl) (by kernel_rfl) (by kernel_rfl) (by kernel_rfl) (by intro i hi; simp [deepInterface] at hi; first | (subst hi; exact ⟨rfl, rfl, rfl⟩) | (rcases hi with rfl | rfl | rfl <;> exact ⟨rfl, rfl, rfl⟩) | (rcases hi with rfl | rfl <;> exact ⟨rfl, rfl, rfl⟩)) aq ?_
 intro f g bb ad U ak
 have S := ak.addNil
 obtain ⟨a9, n485e⟩ : ∃ s : Seg, s = [] := ⟨_, rfl⟩
 rw [← n485e] at U S
 refine MW 1 (NB (wR 1 [(0, .slice k h.length l), (3, .slice f Z.length g), (4, iv 0)] ad (NO ?_)))
 obtain ⟨A, a6, ar⟩ := gx_bind hm
 refine G_meet (fun a w' => ∃ (L : Seg), ∃ (N : Seg), ownD deepInterface A f g L N ∧ Mem [] w w' [L, N] ∧ Sat Tryz.f57.ntmps [(3, .slice f A.length g)] a) ?_ ?_
 ·refine GB (G_while (σ := Int × List Interface) (ρ := List Interface) (fun c a w' => ∃ (J : Seg), ∃ (K : Seg), ownD deepInterface c.2 f g J K ∧ Mem [] w w' [J, K] ∧ Sat Tryz.f57.ntmps [(0, .slice k h.length l), (3, .slice f c.2.length g), (4, iv c.1)] a) a6 (fun a ha => ⟨bb, a9, U, S.pk [0, 1], ha.s⟩) ?_)
  clear hm
  intro c bj hm a0 bg t ⟨J, K, V, m, ao⟩
  refine G_use ao (QB (wR 4 [(0, .slice k h.length l), (3, .slice f c.2.length g), (4, iv c.1), (11, .bool (decide (c.1 < (h.length : Int))))] t (NO ?_)))
  rcases gx_bif hm with ⟨O, hm⟩ | ⟨O, hm⟩
  ·refine gT O (GK (TN (GS (GB (GR (wR 4 [(0, .slice k h.length l), (3, .slice f c.2.length g), (4, iv c.1), (14, .slice f c.2.length g), (15, iv c.1), (16, .slice k h.length l), (17, iv c.1)] t ?_))))))
   obtain ⟨j, a8, hm⟩ := gx_bind hm
   obtain ⟨bl, Y, X, P⟩ := id am
   obtain ⟨d, n⟩ := gxIdx_fst Y a8
   refine wV (elemP k (c.1.toNat * 4)) t (eI (X.mem0 m) (len_fst Y) n) (wV (.agg #[iv j.Mask, .slice ((d 0).1) j.Stack.length ((d 0).2), .slice ((d 1).1) j.Queue.Slots.length ((d 1).2), .slice ((d 2).1) j.Queue.Waiting.length ((d 2).2)]) t (eE true 4 0 (c.1.toNat * 4) (X.mem0 m) n) ?_)
   obtain ⟨b, a4, hm⟩ := gx_bind hm
   refine WC ((c_l_toInterface t j ((d 0).1) ((d 0).2) ((P.mem0 m).at_ n 0 ⟨Int, Gx.encI, j.Stack, (d 0).1, (d 0).2⟩ (by kernel_rfl)) ((d 1).1) ((d 1).2) ((P.mem0 m).at_ n 1 ⟨Slot, encSlot, j.Queue.Slots, (d 1).1, (d 1).2⟩ (by kernel_rfl)) ((d 2).1) ((d 2).2) ((P.mem0 m).at_ n 2 ⟨Waiter, encWaiter, j.Queue.Waiting, (d 2).1, (d 2).2⟩ (by kernel_rfl)) a4).mono ?_)
   rintro e_ bc ⟨B, u, F, C, v, G, E, x, H, rfl, au, av, aw, ae⟩
   have R := m.call ae
   refine ⟨_, rfl, ?_⟩
   obtain ⟨be, a7, hm⟩ := gx_bind hm
   obtain ⟨bk, z, W, ap⟩ := id V
   obtain ⟨al, y⟩ := gxIdx_fst z a7
   refine wV (elemP f (c.1.toNat * 4)) bc (eI (W.r R 0) (len_fst z) y) ?_
   obtain ⟨o, ba, q, a5, bh, a3⟩ := ap.lens (gxIdx_spec y).2
   have af := R.cut 1 (sa := o) (sb := ba) (sc := q) a5 (by kernel_rfl)
   refine wE true 4 c.1.toNat 0 (c.1.toNat * 4) (be, al) (b, (plOf [(B, u), (C, v), (E, x)])) (.agg #[iv b.Mask, .slice B b.Stack.length u, .slice C b.Queue.Slots.length v, .slice E b.Queue.Waiting.length x]) 0 af W (gxIdx_spec y).2 ?_
   intro Q I ax ag
   have ah : Mem [] w Q [I, o, F, G, H, q] := ag.pk [0, 1, 2, 3, 4, 6]
   have ai : Mem [] w Q [I, (o ++ ((F ++ (G ++ (H ++ []))) ++ q))] := ah.regroup (by simp)
   have ay : ownD deepInterface (c.2.set c.1.toNat b) f g I (o ++ ((F ++ (G ++ (H ++ []))) ++ q)) := ⟨_, set_fst z c.1.toNat (b, (plOf [(B, u), (C, v), (E, x)])), ax, (a3 (b, (plOf [(B, u), (C, v), (E, x)])) _ (ownI_cons (i := ⟨Int, Gx.encI, _, _, _⟩) au (ownI_cons (i := ⟨Slot, encSlot, _, _, _⟩) av (ownI_cons (i := ⟨Waiter, encWaiter, _, _, _⟩) aw ownI_nil))))⟩
   have bi := gxIdx_put b (gxIdx_down z y)
   refine LX 3 f g c.2 c.1.toNat b (LX 14 f g c.2 c.1.toNat b (NG (wR 3 [(0, .slice k h.length l), (3, .slice f (c.2.set c.1.toNat b).length g), (4, iv (w64 (c.1 + 1)))] Q (WN ?_))))
   cases hm
   exact N_loop fun a ha => ⟨_, rfl, I, (o ++ ((F ++ (G ++ (H ++ []))) ++ q)), ay, ai.pk [0, 1], ha.s⟩
  refine gF O (XA ?_)
  obtain rfl := HS hm
  obtain rfl := a0 _ rfl
  exact N_meet fun a ha => ⟨J, K, V, m.pk [0, 1], ha.s⟩
 intro bf bd ⟨L, N, az, aj, an⟩
 refine N_use an ?_
 have hm := ar
 refine NF (wR 2 [(2, .slice f A.length g)] bd (NC ?_))
 obtain rfl := HS hm
 exact RA [.slice f A.length g] (⟨f, g, L, N, rfl, az, aj.pk [0, 1]⟩)
theorem c_l_toMachine (w : World) (a : Machine) (E : Option Addr) (A : Nat) (aq : rdS encRoute w a.Routes E A) (F : Option Addr) (B : Nat) (ar : rdS Gx.encB w a.Enabled F B) (G : Option Addr) (C : Nat) (au : rdS Gx.encB w a.Raised G C) (H : Option Addr) (D : Nat) (av : rdD deepInterface w a.Cpus H D) {r : Machine} (hm : M.l_toMachine a = some r) :
  Calls Tryz.prog 14 #[.agg #[.slice E a.Routes.length A, .slice F a.Enabled.length B, .slice G a.Raised.length C, .slice H a.Cpus.length D]] w fun e w' => ∃ (X : Option Addr) (T : Nat) (ab : Seg), ∃ (Y : Option Addr) (U : Nat) (ac : Seg), ∃ (Z : Option Addr) (V : Nat) (ad : Seg), ∃ (aa : Option Addr) (W : Nat) (ae : Seg) (af : Seg), e = .returned (.agg #[.slice X r.Routes.length T, .slice Y r.Enabled.length U, .slice Z r.Raised.length V, .slice aa r.Cpus.length W]) ∧ ownS encRoute r.Routes X T ab ∧ ownS Gx.encB r.Enabled Y U ac ∧ ownS Gx.encB r.Raised Z V ad ∧ ownD deepInterface r.Cpus aa W ae af ∧ Mem [] w w' [ab, ac, ad, ae, af] := by
 unfold M.l_toMachine at hm
 refine cE Tryz.func14 ?_
 have M0 := Mem.refl [] w
 refine QA (wN (.cells ⟨[.slice E a.Routes.length A, .slice F a.Enabled.length B, .slice G a.Raised.length C, .slice H a.Cpus.length D]⟩ 26 (0, 0)) M0 fun x bh al => wN (.cells ⟨[.slice none 0 0, .slice none 0 0, .slice none 0 0, .slice none 0 0]⟩ 32 (0, 0)) al fun y bi am => NA (wN (.cells ⟨[.slice none 0 0, .slice none 0 0, .slice none 0 0, .slice none 0 0]⟩ 32 (0, 0)) am fun j N I => NA (wR 1 [(1, pB x 0), (2, pB y 0), (3, pB j 0), (4, pB x 0)] N (wV (.slice E a.Routes.length A) N (eL false 1 0 (I.blk 0 rfl)) ?_))))
 obtain ⟨i, a3, hm⟩ := gx_bind hm
 refine WC ((c_l_toRouteS N a.Routes E A (aq.mem0 I) a3).mono ?_)
 rintro e_ bd ⟨d, c, a8, rfl, ax, ah⟩
 have an := I.call ah
 refine ⟨_, rfl, ?_⟩
 refine wR 1 [(1, pB x 0), (2, pB y 0), (3, pB j 0), (6, .slice d i.length c), (7, pB j 0)] bd (wS false 1 0 (.slice d i.length c) 2 [.slice d i.length c, .slice none 0 0, .slice none 0 0, .slice none 0 0] an rfl fun O J => NA (wR 1 [(1, pB x 0), (2, pB y 0), (3, pB j 0), (8, pB x 1)] O (wV (.slice F a.Enabled.length B) O (eL false 1 1 (J.blk 0 rfl)) ?_)))
 obtain ⟨n, a4, hm⟩ := gx_bind hm
 refine WC ((c_l_toBoolS O a.Enabled F B (ar.mem0 J) a4).mono ?_)
 rintro e_ be ⟨h, f, a9, rfl, ay, ai⟩
 have ao := J.call ai
 refine ⟨_, rfl, ?_⟩
 refine wR 1 [(1, pB x 0), (2, pB y 0), (3, pB j 0), (10, .slice h n.length f), (11, pB j 1)] be (wS false 1 1 (.slice h n.length f) 2 [.slice d i.length c, .slice h n.length f, .slice none 0 0, .slice none 0 0] ao rfl fun P K => NA (wR 1 [(1, pB x 0), (2, pB y 0), (3, pB j 0), (12, pB x 2)] P (wV (.slice G a.Raised.length C) P (eL false 1 2 (K.blk 0 rfl)) ?_)))
 obtain ⟨u, a5, hm⟩ := gx_bind hm
 refine WC ((c_l_toBoolS P a.Raised G C (au.mem0 K) a5).mono ?_)
 rintro e_ bf ⟨m, l, ba, rfl, az, aj⟩
 have ap := K.call aj
 refine ⟨_, rfl, ?_⟩
 refine wR 1 [(1, pB x 0), (2, pB y 0), (3, pB j 0), (14, .slice m u.length l), (15, pB j 2)] bf (wS false 1 2 (.slice m u.length l) 2 [.slice d i.length c, .slice h n.length f, .slice m u.length l, .slice none 0 0] ap rfl fun Q L => NA (wR 1 [(2, pB y 0), (3, pB j 0), (16, pB x 3)] Q (wV (.slice H a.Cpus.length D) Q (eL false 1 3 (L.blk 0 rfl)) ?_)))
 obtain ⟨z, a0, hm⟩ := gx_bind hm
 refine WC ((c_l_toInterfaceS Q a.Cpus H D (av.mem0 L) a0).mono ?_)
 rintro e_ bb ⟨t, q, a6, a7, rfl, aw, ag⟩
 have ak := L.call ag
 refine ⟨_, rfl, ?_⟩
 refine wR 1 [(2, pB y 0), (3, pB j 0), (18, .slice t z.length q), (19, pB j 3)] bb (wS false 1 3 (.slice t z.length q) 2 [.slice d i.length c, .slice h n.length f, .slice m u.length l, .slice t z.length q] ak rfl fun bc R => NA (wV (.agg #[.slice d i.length c, .slice h n.length f, .slice m u.length l, .slice t z.length q]) bc (eL true 4 0 (R.blk 2 rfl)) (wS true 4 0 (.agg #[.slice d i.length c, .slice h n.length f, .slice m u.length l, .slice t z.length q]) 1 [.slice d i.length c, .slice h n.length f, .slice m u.length l, .slice t z.length q] R rfl fun bg S => NC ?_)))
 obtain rfl := HS hm
 exact N_ret [.agg #[.slice d i.length c, .slice h n.length f, .slice m u.length l, .slice t z.length q]] (RX true 4 0 (S.blk 1 rfl) RVs_nil) (⟨d, c, a8, h, f, a9, m, l, ba, t, q, a6, a7, rfl, ax, ay, az, aw, S.pk [3, 4, 5, 6, 7]⟩)
theorem c_s_l1In (w : World) (b : Int) (d : Int) (c : Int) {r : Bool} (hm : M.s_l1In b d c = some r) :
  Calls Tryz.prog 124 #[iv b, iv d, iv c] w fun e w' => e = .returned (.bool r) ∧ Mem [] w w' [] := by
 unfold M.s_l1In at hm
 refine cE Tryz.func124 ?_
 have M0 := Mem.refl [] w
 refine QA (wR 1 [(0, iv b), (1, iv d), (2, iv c)] w (NE ?_))
 obtain ⟨g, k, j⟩ := gx_bind hm
 refine G_meet (fun a w' => Mem [] w w' [] ∧ Sat Tryz.f124.ntmps [(6, .bool g)] a) ?_ ?_
 ·have hm := k
  refine GR (wR 4 [(0, iv b), (2, iv c), (10, .bool (decide (b ≥ d)))] w ?_)
  rcases gx_bif hm with ⟨f, hm⟩ | ⟨f, hm⟩
  ·refine wK 10 true f (wR 5 [(6, .bool (decide (b ≤ c)))] w (WN ?_))
   obtain rfl := HS hm
   exact N_meet fun a ha => ⟨M0.pk [], ha.s⟩
  refine wK 10 false f (wR 5 [(6, .bool false)] w (WN ?_))
  obtain rfl := HS hm
  exact N_meet fun a ha => ⟨M0.pk [], ha.s⟩
 intro l m ⟨h, i⟩
 refine N_use i ?_
 have hm := j
 refine TN (G_ret ?_)
 obtain rfl := HS hm
 exact RA [.bool g] (⟨rfl, h.pk []⟩)
theorem c_s_l6Prio (w : World) (a : Int) {r : Bool} (hm : M.s_l6Prio a = some r) :
  Calls Tryz.prog 150 #[iv a] w fun e w' => e = .returned (.bool r) ∧ Mem [] w w' [] := by
 unfold M.s_l6Prio at hm
 refine cE Tryz.func150 ?_
 have M0 := Mem.refl [] w
 refine QA (MW 1 (NA (wR 1 [(3, iv a)] w ?_)))
 obtain ⟨b, f, hm⟩ := gx_bind hm
 refine WD (c_s_l1In w a 0 15 f) M0 fun g d => wR 1 [(2, .bool b)] g (NC ?_)
 obtain rfl := HS hm
 exact RA [.bool b] (⟨rfl, d.pk []⟩)
theorem c_s_l21Routes (w : World) (d : List Route) (b : Option Addr) (g : Nat) (i : rdS encRoute w d b g) (f : Int) {r : Bool} (hm : M.s_l21Routes d f = some r) :
  Calls Tryz.prog 99 #[.slice b d.length g, iv f] w fun e w' => e = .returned (.bool r) ∧ Mem [] w w' [] := by
 unfold M.s_l21Routes at hm
 refine cE Tryz.func99 ?_
 have M0 := Mem.refl [] w
 refine QA (MW 1 (NB (wR 1 [(0, .slice b d.length g), (1, iv f), (5, iv 0)] w (NO ?_))))
 obtain ⟨ab, Z, B⟩ := gx_bind hm
 refine G_meet (fun a w' => ∃ (D : Unit), ab = .inl D ∧ Mem [] w w' [] ∧ Sat Tryz.f99.ntmps [(0, .slice b d.length g), (1, iv f)] a) ?_ ?_
 ·refine GB (G_while (σ := Int) (ρ := (Unit) ⊕ (Bool)) (fun c a w' => Mem [] w w' [] ∧ Sat Tryz.f99.ntmps [(0, .slice b d.length g), (1, iv f), (5, iv c)] a) Z (fun a ha => ⟨M0.pk [], ha.s⟩) ?_)
  clear hm
  intro c al hm C ag j ⟨k, O⟩
  refine G_use O (QB (wR 4 [(0, .slice b d.length g), (1, iv f), (5, iv c), (9, .bool (decide (c < (d.length : Int))))] j (NO ?_)))
  rcases gx_bif hm with ⟨n, hm⟩ | ⟨n, hm⟩
  ·refine gT n (GK (TN (GS (GB (GS ?_)))))
   obtain ⟨aa, U, S⟩ := gx_bind hm
   refine G_meet (fun a w' => Mem [] w w' [] ∧ Sat Tryz.f99.ntmps [(0, .slice b d.length g), (1, iv f), (5, iv c), (29, .bool aa)] a) ?_ ?_
   ·have hm := U
    refine GR (wR 2 [(0, .slice b d.length g), (1, iv f), (5, iv c), (12, .slice b d.length g), (13, iv c)] j ?_)
    obtain ⟨y, u, hm⟩ := gx_bind hm
    refine wV (elemP b (c.toNat * 2)) j (eI (i.mem0 k) rfl u) (wV (elemP b (c.toNat * 2 + 0)) j (eF 0 (c.toNat * 2) 0 (i.mem0 k) u) (wV (iv y.Priority) j (eE false 1 0 (c.toNat * 2 + 0) (i.mem0 k) u) ?_))
    obtain ⟨ac, W, hm⟩ := gx_bind hm
    refine WD (c_s_l6Prio j y.Priority W) k fun h l => wR 2 [(0, .slice b d.length g), (1, iv f), (5, iv c), (19, .bool (!ac))] h ?_
    rcases gx_bif hm with ⟨o, hm⟩ | ⟨o, hm⟩
    ·refine wK 19 true o (wR 10 [(0, .slice b d.length g), (1, iv f), (5, iv c), (29, .bool true)] h (WN ?_))
     obtain rfl := HS hm
     exact N_meet fun a ha => ⟨l.pk [], ha.s⟩
    refine wK 19 false o (wR 2 [(0, .slice b d.length g), (1, iv f), (5, iv c), (19, .bool false), (20, .slice b d.length g), (21, iv c)] h ?_)
    obtain ⟨m, v, hm⟩ := gx_bind hm
    refine wV (elemP b (c.toNat * 2)) h (eI (i.mem0 l) rfl v) (wV (elemP b (c.toNat * 2 + 1)) h (eF 1 (c.toNat * 2) 1 (i.mem0 l) v) (wV (iv m.Target) h (eE false 1 1 (c.toNat * 2 + 1) (i.mem0 l) v) (wR 2 [(0, .slice b d.length g), (1, iv f), (5, iv c), (19, .bool false), (24, iv m.Target), (26, iv (w64 (f - 1)))] h ?_)))
    obtain ⟨ad, X, hm⟩ := gx_bind hm
    refine WD (c_s_l1In h m.Target 0 (w64 (f - 1)) X) l fun af K => wR 2 [(0, .slice b d.length g), (1, iv f), (5, iv c), (29, .bool (!ad))] af (WN ?_)
    obtain rfl := HS hm
    exact N_meet fun a ha => ⟨K.pk [], ha.s⟩
   intro ah F ⟨z, P⟩
   refine N_use P ?_
   have hm := S
   refine TN ?_
   rcases gx_bif hm with ⟨q, hm⟩ | ⟨q, hm⟩
   ·refine gT q (QA (wR 1 [(4, .bool false)] F (NX ?_)))
    obtain rfl := HS hm
    obtain rfl := C _ rfl
    have hm := B; simp only [Sum.elim_inr] at hm
    refine BR (N_meet_ret (TR ?_))
    obtain rfl := HS hm
    exact RA [.bool false] (⟨rfl, z.pk []⟩)
   refine gF q (KC (wR 3 [(0, .slice b d.length g), (1, iv f), (5, iv (w64 (c + 1)))] F (WN ?_)))
   cases hm
   exact N_loop fun a ha => ⟨_, rfl, z.pk [], ha.s⟩
  refine gF n (XA ?_)
  obtain rfl := HS hm
  obtain rfl := C _ rfl
  exact N_meet fun a ha => ⟨_, rfl, k.pk [], ha.s⟩
 intro ai G ⟨D, hout_, L, Q⟩
 refine N_use Q ?_
 subst hout_
 have hm := B; simp only [Sum.elim_inl] at hm
 refine TN (GS ?_)
 obtain ⟨E, V, T⟩ := gx_bind hm
 refine G_meet (fun a w' => Mem [] w w' [] ∧ Sat Tryz.f99.ntmps [(4, .bool E)] a) ?_ ?_
 ·have hm := V
  refine GR (wR 1 [(0, .slice b d.length g), (30, iv f)] G ?_)
  obtain ⟨ae, Y, hm⟩ := gx_bind hm
  refine WD (c_s_l1In G f 1 2 Y) L fun x A => wR 1 [(0, .slice b d.length g), (32, .bool ae)] x ?_
  rcases gx_bif hm with ⟨t, hm⟩ | ⟨t, hm⟩
  ·refine wK 32 true t (wR 5 [(4, .bool ((d.length : Int) == 8))] x (WN ?_))
   obtain rfl := HS hm
   exact N_meet fun a ha => ⟨A.pk [], ha.s⟩
  refine wK 32 false t (wR 5 [(4, .bool false)] x (WN ?_))
  obtain rfl := HS hm
  exact N_meet fun a ha => ⟨A.pk [], ha.s⟩
 intro aj ak ⟨N, R⟩
 refine N_use R ?_
 have hm := T
 refine TN (G_ret ?_)
 obtain rfl := HS hm
 exact RA [.bool E] (⟨rfl, N.pk []⟩)
theorem c_s_l6Irq (w : World) (a : Int) {r : Bool} (hm : M.s_l6Irq a = some r) :
  Calls Tryz.prog 143 #[iv a] w fun e w' => e = .returned (.bool r) ∧ Mem [] w w' [] := by
 unfold M.s_l6Irq at hm
 refine cE Tryz.func143 ?_
 have M0 := Mem.refl [] w
 refine QA (MW 1 (NA (wR 1 [(3, iv a)] w ?_)))
 obtain ⟨b, f, hm⟩ := gx_bind hm
 refine WD (c_s_l1In w a 0 7 f) M0 fun g d => wR 1 [(2, .bool b)] g (NC ?_)
 obtain rfl := HS hm
 exact RA [.bool b] (⟨rfl, d.pk []⟩)
theorem c_s_l8Find (w : World) (d : List Slot) (c : Option Addr) (f : Nat) (j : rdS encSlot w d c f) (g : Int) {r : Int} (hm : M.s_l8Find d g = some r) :
  Calls Tryz.prog 192 #[.slice c d.length f, iv g] w fun e w' => e = .returned (iv r) ∧ Mem [] w w' [] := by
 unfold M.s_l8Find at hm
 refine cE Tryz.func192 ?_
 have M0 := Mem.refl [] w
 refine QA (MW 1 (NB (wR 1 [(0, .slice c d.length f), (1, iv g), (5, iv 0)] w (NO ?_))))
 obtain ⟨I, G, t⟩ := gx_bind hm
 refine G_meet (fun a w' => ∃ (v : Unit), I = .inl v ∧ Mem [] w w' [] ∧ Sat Tryz.f192.ntmps [] a) ?_ ?_
 ·refine GB (G_while (σ := Int) (ρ := (Unit) ⊕ (Int)) (fun b a w' => Mem [] w w' [] ∧ Sat Tryz.f192.ntmps [(0, .slice c d.length f), (1, iv g), (5, iv b)] a) G (fun a ha => ⟨M0.pk [], ha.s⟩) ?_)
  clear hm
  intro b O hm u K h ⟨i, B⟩
  refine G_use B (QB (wR 4 [(0, .slice c d.length f), (1, iv g), (5, iv b), (9, .bool (decide (b < (d.length : Int))))] h (NO ?_)))
  rcases gx_bif hm with ⟨k, hm⟩ | ⟨k, hm⟩
  ·refine gT k (GK (TN (GS (GB (GS ?_)))))
   obtain ⟨H, F, E⟩ := gx_bind hm
   refine G_meet (fun a w' => Mem [] w w' [] ∧ Sat Tryz.f192.ntmps [(0, .slice c d.length f), (1, iv g), (5, iv b), (26, .bool H)] a) ?_ ?_
   ·have hm := F
    refine GR (wR 2 [(0, .slice c d.length f), (1, iv g), (5, iv b), (12, .slice c d.length f), (13, iv b)] h ?_)
    obtain ⟨y, n, hm⟩ := gx_bind hm
    refine wV (elemP c (b.toNat * 3)) h (eI (j.mem0 i) rfl n) (wV (elemP c (b.toNat * 3 + 0)) h (eF 0 (b.toNat * 3) 0 (j.mem0 i) n) (wV (iv y.State) h (eE false 1 0 (b.toNat * 3 + 0) (j.mem0 i) n) (wR 2 [(0, .slice c d.length f), (1, iv g), (5, iv b), (18, .bool (y.State != 0))] h ?_)))
    rcases gx_bif hm with ⟨l, hm⟩ | ⟨l, hm⟩
    ·refine wK 18 true l (wR 2 [(0, .slice c d.length f), (1, iv g), (5, iv b), (18, .bool true), (19, .slice c d.length f), (20, iv b)] h ?_)
     obtain ⟨z, o, hm⟩ := gx_bind hm
     refine wV (elemP c (b.toNat * 3)) h (eI (j.mem0 i) rfl o) (wV (elemP c (b.toNat * 3 + 1)) h (eF 1 (b.toNat * 3) 1 (j.mem0 i) o) (wV (iv z.Irq) h (eE false 1 1 (b.toNat * 3 + 1) (j.mem0 i) o) (wR 3 [(0, .slice c d.length f), (1, iv g), (5, iv b), (26, .bool (z.Irq == g))] h (WN ?_))))
     obtain rfl := HS hm
     exact N_meet fun a ha => ⟨i.pk [], ha.s⟩
    refine wK 18 false l (wR 8 [(0, .slice c d.length f), (1, iv g), (5, iv b), (26, .bool false)] h (WN ?_))
    obtain rfl := HS hm
    exact N_meet fun a ha => ⟨i.pk [], ha.s⟩
   intro L x ⟨q, C⟩
   refine N_use C ?_
   have hm := E
   refine TN ?_
   rcases gx_bif hm with ⟨m, hm⟩ | ⟨m, hm⟩
   ·refine gT m (QA (wR 2 [(4, iv b)] x (NX ?_)))
    obtain rfl := HS hm
    obtain rfl := u _ rfl
    have hm := t; simp only [Sum.elim_inr] at hm
    refine BR (N_meet_ret (TR ?_))
    obtain rfl := HS hm
    exact RA [iv b] (⟨rfl, q.pk []⟩)
   refine gF m (KC (wR 3 [(0, .slice c d.length f), (1, iv g), (5, iv (w64 (b + 1)))] x (WN ?_)))
   cases hm
   exact N_loop fun a ha => ⟨_, rfl, q.pk [], ha.s⟩
  refine gF k (XA ?_)
  obtain rfl := HS hm
  obtain rfl := u _ rfl
  exact N_meet fun a ha => ⟨_, rfl, i.pk [], ha.s⟩
 intro N J ⟨v, hout_, A, D⟩
 refine N_use D ?_
 subst hout_
 have hm := t; simp only [Sum.elim_inl] at hm
 refine NF (wR 1 [(4, iv (-1))] J (NC ?_))
 cases hm
 exact RA [iv (-1)] (⟨rfl, A.pk []⟩)
theorem c_s_l8Less (w : World) (b : Int) (c : Int) (d : Int) (f : Int) {r : Bool} (hm : M.s_l8Less b c d f = some r) :
  Calls Tryz.prog 171 #[iv b, iv c, iv d, iv f] w fun e w' => e = .returned (.bool r) ∧ Mem [] w w' [] := by
 unfold M.s_l8Less at hm
 refine cE Tryz.func171 ?_
 have M0 := Mem.refl [] w
 refine QA (wR 1 [(0, iv b), (1, iv c), (2, iv d), (3, iv f)] w (NE ?_))
 obtain ⟨i, m, l⟩ := gx_bind hm
 refine G_meet (fun a w' => Mem [] w w' [] ∧ Sat Tryz.f171.ntmps [(8, .bool i)] a) ?_ ?_
 ·have hm := m
  refine GR (wR 4 [(0, iv b), (1, iv c), (2, iv d), (3, iv f), (12, .bool (decide (b < d)))] w ?_)
  rcases gx_bif hm with ⟨g, hm⟩ | ⟨g, hm⟩
  ·refine wK 12 true g (wR 10 [(8, .bool true)] w (WN ?_))
   obtain rfl := HS hm
   exact N_meet fun a ha => ⟨M0.pk [], ha.s⟩
  refine wK 12 false g (wR 4 [(1, iv c), (3, iv f), (12, .bool false), (16, .bool (b == d))] w ?_)
  rcases gx_bif hm with ⟨h, hm⟩ | ⟨h, hm⟩
  ·refine wK 16 true h (wR 6 [(8, .bool (decide (c < f)))] w (WN ?_))
   obtain rfl := HS hm
   exact N_meet fun a ha => ⟨M0.pk [], ha.s⟩
  refine wK 16 false h (wR 6 [(8, .bool false)] w (WN ?_))
  obtain rfl := HS hm
  exact N_meet fun a ha => ⟨M0.pk [], ha.s⟩
 intro n o ⟨j, k⟩
 refine N_use k ?_
 have hm := l
 refine TN (G_ret ?_)
 obtain rfl := HS hm
 exact RA [.bool i] (⟨rfl, j.pk []⟩)
theorem c_s_l8Good (w : World) (b : List Slot) (c : Option Addr) (d : Nat) (n : rdS encSlot w b c d) {r : Bool} (hm : M.s_l8Good b = some r) :
  Calls Tryz.prog 234 #[.slice c b.length d] w fun e w' => e = .returned (.bool r) ∧ Mem [] w w' [] := by
 unfold M.s_l8Good at hm
 refine cE Tryz.func234 ?_
 have M0 := Mem.refl [] w
 refine QA (MW 1 (NB (wR 1 [(0, .slice c b.length d), (3, iv 0)] w (NO ?_))))
 obtain ⟨ao, al, F⟩ := gx_bind hm
 refine G_meet (fun a w' => ∃ (L : Unit), ao = .inl L ∧ Mem [] w w' [] ∧ Sat Tryz.f234.ntmps [(0, .slice c b.length d)] a) ?_ ?_
 ·refine GB (G_while (σ := Int) (ρ := (Unit) ⊕ (Bool)) (fun f a w' => Mem [] w w' [] ∧ Sat Tryz.f234.ntmps [(0, .slice c b.length d), (3, iv f)] a) al (fun a ha => ⟨M0.pk [], ha.s⟩) ?_)
  clear hm
  intro f a7 hm G a0 o ⟨m, Y⟩
  refine G_use Y (QB (wR 4 [(0, .slice c b.length d), (3, iv f), (8, .bool (decide (f < (b.length : Int))))] o (NO ?_)))
  rcases gx_bif hm with ⟨u, hm⟩ | ⟨u, hm⟩
  ·refine gT u (KD (wR 2 [(0, .slice c b.length d), (3, iv f), (11, .slice c b.length d), (12, iv f)] o ?_))
   obtain ⟨g, K, hm⟩ := gx_bind hm
   refine wV (elemP c (f.toNat * 3)) o (eI (n.mem0 m) rfl K) (wV (.agg #[iv g.State, iv g.Irq, iv g.Priority]) o (eE true 3 0 (f.toNat * 3) (n.mem0 m) K) (wN (.cells ⟨[iv 0, iv 0, iv 0]⟩ 117 (0, 0)) m fun h a6 T => wS true 3 0 (.agg #[iv g.State, iv g.Irq, iv g.Priority]) 0 [iv g.State, iv g.Irq, iv g.Priority] T rfl fun H I => NE (GS ?_)))
   obtain ⟨am, ae, ac⟩ := gx_bind hm
   refine G_meet (fun a w' => Mem [] w w' [[(h, .cells ⟨[iv g.State, iv g.Irq, iv g.Priority]⟩ 117 (0, 0))]] ∧ Sat Tryz.f234.ntmps [(0, .slice c b.length d), (3, iv f), (4, pB h 0), (30, .bool am)] a) ?_ ?_
   ·have hm := ae
    refine GR (wR 1 [(0, .slice c b.length d), (3, iv f), (4, pB h 0), (15, pB h 0)] H (wV (iv g.State) H (eL false 1 0 (I.blk 0 rfl)) ?_))
    obtain ⟨ap, ag, hm⟩ := gx_bind hm
    refine WD (c_s_l1In H g.State 0 3 ag) I fun k q => wR 2 [(0, .slice c b.length d), (3, iv f), (4, pB h 0), (19, .bool (!ap))] k ?_
    rcases gx_bif hm with ⟨v, hm⟩ | ⟨v, hm⟩
    ·refine wK 19 true v (wR 11 [(0, .slice c b.length d), (3, iv f), (4, pB h 0), (30, .bool true)] k (WN ?_))
     obtain rfl := HS hm
     exact N_meet fun a ha => ⟨q.pk [0], ha.s⟩
    refine wK 19 false v (wR 1 [(0, .slice c b.length d), (3, iv f), (4, pB h 0), (19, .bool false), (20, pB h 1)] k (wV (iv g.Irq) k (eL false 1 1 (q.blk 0 rfl)) ?_))
    obtain ⟨aq, ah, hm⟩ := gx_bind hm
    refine WD (c_s_l6Irq k g.Irq ah) q fun l t => wR 3 [(0, .slice c b.length d), (3, iv f), (4, pB h 0), (25, .bool (!aq))] l ?_
    rcases gx_bif hm with ⟨x, hm⟩ | ⟨x, hm⟩
    ·refine wK 25 true x (wR 5 [(0, .slice c b.length d), (3, iv f), (4, pB h 0), (30, .bool true)] l (WN ?_))
     obtain rfl := HS hm
     exact N_meet fun a ha => ⟨t.pk [0], ha.s⟩
    refine wK 25 false x (wR 1 [(0, .slice c b.length d), (3, iv f), (4, pB h 0), (25, .bool false), (26, pB h 2)] l (wV (iv g.Priority) l (eL false 1 2 (t.blk 0 rfl)) ?_))
    obtain ⟨ar, ai, hm⟩ := gx_bind hm
    refine WD (c_s_l6Prio l g.Priority ai) t fun aw U => wR 2 [(0, .slice c b.length d), (3, iv f), (4, pB h 0), (30, .bool (!ar))] aw (WN ?_)
    obtain rfl := HS hm
    exact N_meet fun a ha => ⟨U.pk [0], ha.s⟩
   intro a3 i ⟨j, Z⟩
   refine N_use Z ?_
   have hm := ac
   refine TN ?_
   rcases gx_bif hm with ⟨y, hm⟩ | ⟨y, hm⟩
   ·refine gT y (QA (wR 1 [(2, .bool false)] i (ND (BR (TR (TR ?_))))))
    obtain rfl := HS hm
    obtain rfl := G _ rfl
    have hm := F; simp only [Sum.elim_inr] at hm
    refine BR (N_meet_ret (TR ?_))
    obtain rfl := HS hm
    exact RA [.bool false] (⟨rfl, j.pk []⟩)
   refine gF y (GK (TN (GS ?_)))
   obtain ⟨an, af, ad⟩ := gx_bind hm
   refine G_meet (fun a w' => Mem [] w w' [] ∧ Sat Tryz.f234.ntmps [(0, .slice c b.length d), (3, iv f), (56, .bool an)] a) ?_ ?_
   ·have hm := af
    refine GR (MW 1 (wV (iv g.State) i (eL false 1 0 (j.blk 0 rfl)) (wR 2 [(0, .slice c b.length d), (3, iv f), (4, pB h 0), (34, .bool (g.State == 0))] i ?_)))
    rcases gx_bif hm with ⟨z, hm⟩ | ⟨z, hm⟩
    ·refine wK 34 true z (MW 1 (wV (iv g.Irq) i (eL false 1 1 (j.blk 0 rfl)) (wR 2 [(0, .slice c b.length d), (3, iv f), (4, pB h 0), (34, .bool true), (38, .bool (g.Irq != 0))] i ?_)))
     rcases gx_bif hm with ⟨A, hm⟩ | ⟨A, hm⟩
     ·refine wK 38 true A (wR 18 [(0, .slice c b.length d), (3, iv f), (56, .bool true)] i (WN ?_))
      obtain rfl := HS hm
      exact N_meet fun a ha => ⟨j.pk [], ha.s⟩
     refine wK 38 false A (MW 1 (wV (iv g.Priority) i (eL false 1 2 (j.blk 0 rfl)) (wR 4 [(0, .slice c b.length d), (3, iv f), (4, pB h 0), (44, .bool (g.Priority != 0))] i ?_)))
     rcases gx_bif hm with ⟨B, hm⟩ | ⟨B, hm⟩
     ·refine wK 44 true B (wR 12 [(0, .slice c b.length d), (3, iv f), (56, .bool true)] i (WN ?_))
      obtain rfl := HS hm
      exact N_meet fun a ha => ⟨j.pk [], ha.s⟩
     refine wK 44 false B (MW 1 (wV (iv g.State) i (eL false 1 0 (j.blk 0 rfl)) (wR 2 [(0, .slice c b.length d), (3, iv f), (4, pB h 0), (44, .bool false), (48, .bool (g.State != 0))] i ?_)))
     rcases gx_bif hm with ⟨C, hm⟩ | ⟨C, hm⟩
     ·refine wK 48 true C (wR 2 [(0, .slice c b.length d), (3, iv f), (44, .bool false), (48, .bool true), (49, .slice c b.length d), (50, pB h 1)] i (wV (iv g.Irq) i (eL false 1 1 (j.blk 0 rfl)) ?_))
      obtain ⟨au, aj, hm⟩ := gx_bind hm
      refine WD (c_s_l8Find i b c d (n.mem0 j) g.Irq aj) j fun ax V => wR 4 [(0, .slice c b.length d), (3, iv f), (56, .bool (au != f))] ax (WN ?_)
      obtain rfl := HS hm
      exact N_meet fun a ha => ⟨V.pk [], ha.s⟩
     refine wK 48 false C (wR 8 [(0, .slice c b.length d), (3, iv f), (56, .bool false)] i (WN ?_))
     obtain rfl := HS hm
     exact N_meet fun a ha => ⟨j.pk [], ha.s⟩
    refine wK 34 false z (MW 11 (wV (iv g.State) i (eL false 1 0 (j.blk 0 rfl)) (wR 2 [(0, .slice c b.length d), (3, iv f), (4, pB h 0), (44, .bool false), (48, .bool (g.State != 0))] i ?_)))
    rcases gx_bif hm with ⟨D, hm⟩ | ⟨D, hm⟩
    ·refine wK 48 true D (wR 2 [(0, .slice c b.length d), (3, iv f), (44, .bool false), (48, .bool true), (49, .slice c b.length d), (50, pB h 1)] i (wV (iv g.Irq) i (eL false 1 1 (j.blk 0 rfl)) ?_))
     obtain ⟨av, ak, hm⟩ := gx_bind hm
     refine WD (c_s_l8Find i b c d (n.mem0 j) g.Irq ak) j fun ay W => wR 4 [(0, .slice c b.length d), (3, iv f), (56, .bool (av != f))] ay (WN ?_)
     obtain rfl := HS hm
     exact N_meet fun a ha => ⟨W.pk [], ha.s⟩
    refine wK 48 false D (wR 8 [(0, .slice c b.length d), (3, iv f), (56, .bool false)] i (WN ?_))
    obtain rfl := HS hm
    exact N_meet fun a ha => ⟨j.pk [], ha.s⟩
   intro a4 N ⟨J, aa⟩
   refine N_use aa ?_
   have hm := ad
   refine TN ?_
   rcases gx_bif hm with ⟨E, hm⟩ | ⟨E, hm⟩
   ·refine gT E (QA (wR 1 [(2, .bool false)] N (NX ?_)))
    obtain rfl := HS hm
    obtain rfl := G _ rfl
    have hm := F; simp only [Sum.elim_inr] at hm
    refine BR (N_meet_ret (TR ?_))
    obtain rfl := HS hm
    exact RA [.bool false] (⟨rfl, J.pk []⟩)
   refine gF E (KC (wR 3 [(0, .slice c b.length d), (3, iv (w64 (f + 1)))] N (WN ?_)))
   cases hm
   exact N_loop fun a ha => ⟨_, rfl, J.pk [], ha.s⟩
  refine gF u (XA ?_)
  obtain rfl := HS hm
  obtain rfl := G _ rfl
  exact N_meet fun a ha => ⟨_, rfl, m.pk [], ha.s⟩
 intro a5 az ⟨L, hout_, X, ab⟩
 refine N_use ab ?_
 subst hout_
 have hm := F; simp only [Sum.elim_inl] at hm
 refine NF (wR 4 [(2, .bool ((b.length : Int) == 4))] az (NC ?_))
 cases hm
 exact RA [.bool ((b.length : Int) == 4)] (⟨rfl, X.pk []⟩)
theorem c_s_l9Waiting (w : World) (g : List Slot) (i : Option Addr) (h : Nat) (ac : rdS encSlot w g i h) (d : List Waiter) (c : Option Addr) (f : Nat) (m : rdS encWaiter w d c f) {r : Bool} (hm : M.s_l9Waiting g d = some r) :
  Calls Tryz.prog 189 #[.slice i g.length h, .slice c d.length f] w fun e w' => e = .returned (.bool r) ∧ Mem [] w w' [] := by
 unfold M.s_l9Waiting at hm
 refine cE Tryz.func189 ?_
 have M0 := Mem.refl [] w
 refine QA (MW 1 (NB (wR 1 [(0, .slice i g.length h), (1, .slice c d.length f), (5, iv 0)] w (NO ?_))))
 obtain ⟨bq, bl, x⟩ := gx_bind hm
 refine G_meet (fun a w' => ∃ (ag : Unit), bq = .inl ag ∧ Mem [] w w' [] ∧ Sat Tryz.f189.ntmps [(0, .slice i g.length h), (1, .slice c d.length f)] a) ?_ ?_
 ·refine GB (G_while (σ := Int) (ρ := (Unit) ⊕ (Bool)) (fun b a w' => Mem [] w w' [] ∧ Sat Tryz.f189.ntmps [(0, .slice i g.length h), (1, .slice c d.length f), (5, iv b)] a) bl (fun a ha => ⟨M0.pk [], ha.s⟩) ?_)
  clear hm
  intro b cd hm y b1 Q ⟨U, ay⟩
  refine G_use ay (GS (GS ?_))
  obtain ⟨bn, bc, a8⟩ := gx_bind hm
  refine G_meet (fun a w' => Mem [] w w' [] ∧ Sat Tryz.f189.ntmps [(0, .slice i g.length h), (1, .slice c d.length f), (5, iv b), (15, .bool bn)] a) ?_ ?_
  ·have hm := bc
   refine GR (wR 5 [(0, .slice i g.length h), (1, .slice c d.length f), (5, iv b), (12, .bool (decide (b < (d.length : Int))))] Q ?_)
   rcases gx_bif hm with ⟨C, hm⟩ | ⟨C, hm⟩
   ·refine wK 12 true C (wR 3 [(0, .slice i g.length h), (1, .slice c d.length f), (5, iv b), (15, .bool (decide (b ≤ 8)))] Q (WN ?_))
    obtain rfl := HS hm
    exact N_meet fun a ha => ⟨U.pk [], ha.s⟩
   refine wK 12 false C (wR 3 [(0, .slice i g.length h), (1, .slice c d.length f), (5, iv b), (15, .bool false)] Q (WN ?_))
   obtain rfl := HS hm
   exact N_meet fun a ha => ⟨U.pk [], ha.s⟩
  intro b2 R ⟨u, az⟩
  refine N_use az ?_
  have hm := a8
  refine TN ?_
  rcases gx_bif hm with ⟨D, hm⟩ | ⟨D, hm⟩
  ·refine gT D (KD (wR 2 [(0, .slice i g.length h), (1, .slice c d.length f), (5, iv b), (18, .slice c d.length f), (19, iv b)] R ?_))
   obtain ⟨k, af, hm⟩ := gx_bind hm
   refine wV (elemP c (b.toNat * 2)) R (eI (m.mem0 u) rfl af) (wV (.agg #[iv k.Irq, iv k.Priority]) R (eE true 2 0 (b.toNat * 2) (m.mem0 u) af) (wN (.cells ⟨[iv 0, iv 0]⟩ 142 (0, 0)) u fun j b9 aq => wS true 2 0 (.agg #[iv k.Irq, iv k.Priority]) 0 [iv k.Irq, iv k.Priority] aq rfl fun S V => NE (GS ?_)))
   obtain ⟨bo, bd, a9⟩ := gx_bind hm
   refine G_meet (fun a w' => Mem [] w w' [[(j, .cells ⟨[iv k.Irq, iv k.Priority]⟩ 142 (0, 0))]] ∧ Sat Tryz.f189.ntmps [(0, .slice i g.length h), (1, .slice c d.length f), (5, iv b), (6, pB j 0), (38, .bool bo)] a) ?_ ?_
   ·have hm := bd
    refine GR (wR 1 [(0, .slice i g.length h), (1, .slice c d.length f), (5, iv b), (6, pB j 0), (22, pB j 0)] S (wV (iv k.Irq) S (eL false 1 0 (V.blk 0 rfl)) ?_))
    obtain ⟨bs, bg, hm⟩ := gx_bind hm
    refine WD (c_s_l6Irq S k.Irq bg) V fun o B => wR 2 [(0, .slice i g.length h), (1, .slice c d.length f), (5, iv b), (6, pB j 0), (26, .bool (!bs))] o ?_
    rcases gx_bif hm with ⟨E, hm⟩ | ⟨E, hm⟩
    ·refine wK 26 true E (wR 12 [(0, .slice i g.length h), (1, .slice c d.length f), (5, iv b), (6, pB j 0), (38, .bool true)] o (WN ?_))
     obtain rfl := HS hm
     exact N_meet fun a ha => ⟨B.pk [0], ha.s⟩
    refine wK 26 false E (wR 1 [(0, .slice i g.length h), (1, .slice c d.length f), (5, iv b), (6, pB j 0), (26, .bool false), (27, pB j 1)] o (wV (iv k.Priority) o (eL false 1 1 (B.blk 0 rfl)) ?_))
    obtain ⟨bt, bh, hm⟩ := gx_bind hm
    refine WD (c_s_l6Prio o k.Priority bh) B fun q v => wR 3 [(0, .slice i g.length h), (1, .slice c d.length f), (5, iv b), (6, pB j 0), (32, .bool (!bt))] q ?_
    rcases gx_bif hm with ⟨F, hm⟩ | ⟨F, hm⟩
    ·refine wK 32 true F (wR 6 [(0, .slice i g.length h), (1, .slice c d.length f), (5, iv b), (6, pB j 0), (38, .bool true)] q (WN ?_))
     obtain rfl := HS hm
     exact N_meet fun a ha => ⟨v.pk [0], ha.s⟩
    refine wK 32 false F (wR 2 [(0, .slice i g.length h), (1, .slice c d.length f), (5, iv b), (6, pB j 0), (32, .bool false), (33, .slice i g.length h), (34, pB j 0)] q (wV (iv k.Irq) q (eL false 1 0 (v.blk 0 rfl)) ?_))
    obtain ⟨bu, bi, hm⟩ := gx_bind hm
    refine WD (c_s_l8Find q g i h (ac.mem0 v) k.Irq bi) v fun bw ar => wR 2 [(0, .slice i g.length h), (1, .slice c d.length f), (5, iv b), (6, pB j 0), (38, .bool (decide (bu ≥ 0)))] bw (WN ?_)
    obtain rfl := HS hm
    exact N_meet fun a ha => ⟨ar.pk [0], ha.s⟩
   intro b3 bx ⟨W, a0⟩
   refine N_use a0 ?_
   have hm := a9
   refine TN ?_
   rcases gx_bif hm with ⟨G, hm⟩ | ⟨G, hm⟩
   ·refine gT G (QA (wR 1 [(4, .bool false)] bx (ND (BR (TR (TR ?_))))))
    obtain rfl := HS hm
    obtain rfl := y _ rfl
    have hm := x; simp only [Sum.elim_inr] at hm
    refine BR (N_meet_ret (TR ?_))
    obtain rfl := HS hm
    exact RA [.bool false] (⟨rfl, W.pk []⟩)
   refine gF G (GK (TN (GS (GS ?_))))
   obtain ⟨bp, be, ba⟩ := gx_bind hm
   refine G_meet (fun a w' => Mem [] w w' [[(j, .cells ⟨[iv k.Irq, iv k.Priority]⟩ 142 (0, 0))]] ∧ Sat Tryz.f189.ntmps [(0, .slice i g.length h), (1, .slice c d.length f), (5, iv b), (6, pB j 0), (60, .bool bp)] a) ?_ ?_
   ·have hm := be
    refine G_quiet (by kernel_rfl) (by kernel_rfl) W (MS 3 [(0, .slice i g.length h), (1, .slice c d.length f), (5, iv b), (6, pB j 0), (41, .bool (decide (b > 0)))] ?_)
    rcases gx_bif hm with ⟨H, hm⟩ | ⟨H, hm⟩
    ·refine zK 41 true H (MS 3 [(0, .slice i g.length h), (1, .slice c d.length f), (5, iv b), (6, pB j 0), (41, .bool true), (42, .slice c d.length f), (44, iv (w64 (b - 1)))] ?_)
     obtain ⟨n, N, hm⟩ := gx_bind hm
     refine zV (elemP c ((w64 (b - 1)).toNat * 2)) (fun w_ M_ => (eI (m.mem0 M_) rfl N)) (zV (elemP c ((w64 (b - 1)).toNat * 2 + 1)) (fun w_ M_ => (eF 1 ((w64 (b - 1)).toNat * 2) 1 (m.mem0 M_) N)) (zV (iv n.Priority) (fun w_ M_ => (eE false 1 1 ((w64 (b - 1)).toNat * 2 + 1) (m.mem0 M_) N)) (MS 3 [(0, .slice i g.length h), (1, .slice c d.length f), (5, iv b), (6, pB j 0), (41, .bool true), (47, iv n.Priority), (48, .slice c d.length f), (50, iv (w64 (b - 1)))] ?_)))
     obtain ⟨t, O, hm⟩ := gx_bind hm
     refine zV (elemP c ((w64 (b - 1)).toNat * 2)) (fun w_ M_ => (eI (m.mem0 M_) rfl O)) (zV (elemP c ((w64 (b - 1)).toNat * 2 + 0)) (fun w_ M_ => (eF 0 ((w64 (b - 1)).toNat * 2) 0 (m.mem0 M_) O)) (zV (iv t.Irq) (fun w_ M_ => (eE false 1 0 ((w64 (b - 1)).toNat * 2 + 0) (m.mem0 M_) O)) (MZ 1 (zV (iv k.Priority) (fun w_ M_ => (eL false 1 1 (M_.blk 0 rfl))) (MS 1 [(0, .slice i g.length h), (1, .slice c d.length f), (5, iv b), (6, pB j 0), (41, .bool true), (47, iv n.Priority), (53, iv t.Irq), (55, iv k.Priority), (56, pB j 0)] (zV (iv k.Irq) (fun w_ M_ => (eL false 1 0 (M_.blk 0 rfl))) ?_))))))
     obtain ⟨z, bj, hm⟩ := gx_bind hm
     refine ZC (.bool z) (fun w_ M_ => c_s_l8Less w_ n.Priority t.Irq k.Priority k.Irq bj) (MS 2 [(0, .slice i g.length h), (1, .slice c d.length f), (5, iv b), (6, pB j 0), (60, .bool (!z))] (Z_end fun ca au => ?_))
     obtain rfl := HS hm
     exact N_meet fun a ha => ⟨au.pk [0], ha.s⟩
    refine zK 41 false H (MS 19 [(0, .slice i g.length h), (1, .slice c d.length f), (5, iv b), (6, pB j 0), (60, .bool false)] (Z_end fun cb av => ?_))
    obtain rfl := HS hm
    exact N_meet fun a ha => ⟨av.pk [0], ha.s⟩
   intro b4 aj ⟨X, a3⟩
   refine N_use a3 ?_
   have hm := ba
   refine TN ?_
   rcases gx_bif hm with ⟨I, hm⟩ | ⟨I, hm⟩
   ·refine gT I (QA (wR 1 [(4, .bool false)] aj (ND (BR (TR (TR ?_))))))
    obtain rfl := HS hm
    obtain rfl := y _ rfl
    have hm := x; simp only [Sum.elim_inr] at hm
    refine BR (N_meet_ret (TR ?_))
    obtain rfl := HS hm
    exact RA [.bool false] (⟨rfl, X.pk []⟩)
   refine gF I (KA (wR 1 [(0, .slice i g.length h), (1, .slice c d.length f), (5, iv b), (6, pB j 0), (7, iv 0)] aj (NO ?_)))
   obtain ⟨br, bm, ad⟩ := gx_bind hm
   refine G_meet (fun a w' => ∃ (ah : Unit), br = .inl ah ∧ Mem [] w w' [] ∧ Sat Tryz.f189.ntmps [(0, .slice i g.length h), (1, .slice c d.length f), (5, iv b)] a) ?_ ?_
   ·refine GB (G_while (σ := Int) (ρ := (Unit) ⊕ (Bool)) (fun l a w' => Mem [] w w' [[(j, .cells ⟨[iv k.Irq, iv k.Priority]⟩ 142 (0, 0))]] ∧ Sat Tryz.f189.ntmps [(0, .slice i g.length h), (1, .slice c d.length f), (5, iv b), (6, pB j 0), (7, iv l)] a) bm (fun a ha => ⟨X.pk [0], ha.s⟩) ?_)
    clear hm
    intro l ce hm ae b5 bz ⟨Y, a4⟩
    refine G_use a4 (QB (wR 3 [(0, .slice i g.length h), (1, .slice c d.length f), (5, iv b), (6, pB j 0), (7, iv l), (63, .bool (decide (l < b)))] bz (NO ?_)))
    rcases gx_bif hm with ⟨J, hm⟩ | ⟨J, hm⟩
    ·refine gT J (GK (TN (GS (GB (GS (G_quiet (by kernel_rfl) (by kernel_rfl) Y (MS 2 [(0, .slice i g.length h), (1, .slice c d.length f), (5, iv b), (6, pB j 0), (7, iv l), (66, .slice c d.length f), (67, iv l)] ?_)))))))
     obtain ⟨A, P, hm⟩ := gx_bind hm
     refine zV (elemP c (l.toNat * 2)) (fun w_ M_ => (eI (m.mem0 M_) rfl P)) (zV (elemP c (l.toNat * 2 + 0)) (fun w_ M_ => (eF 0 (l.toNat * 2) 0 (m.mem0 M_) P)) (zV (iv A.Irq) (fun w_ M_ => (eE false 1 0 (l.toNat * 2 + 0) (m.mem0 M_) P)) (MZ 1 (zV (iv k.Irq) (fun w_ M_ => (eL false 1 0 (M_.blk 0 rfl))) (MS 1 [(0, .slice i g.length h), (1, .slice c d.length f), (5, iv b), (6, pB j 0), (7, iv l), (73, .bool (A.Irq == k.Irq))] (Z_end fun ak Z => (TN ?_)))))))
     rcases gx_bif hm with ⟨K, hm⟩ | ⟨K, hm⟩
     ·refine gT K (QA (wR 1 [(4, .bool false)] ak (NX ?_)))
      obtain rfl := HS hm
      obtain rfl := ae _ rfl
      have hm := ad; simp only [Sum.elim_inr] at hm
      refine BR (N_meet_ret (BR (TR (TR ?_))))
      obtain rfl := HS hm
      obtain rfl := y _ rfl
      have hm := x; simp only [Sum.elim_inr] at hm
      refine BR (N_meet_ret (TR ?_))
      obtain rfl := HS hm
      exact RA [.bool false] (⟨rfl, Z.pk []⟩)
     refine gF K (KC (wR 3 [(0, .slice i g.length h), (1, .slice c d.length f), (5, iv b), (6, pB j 0), (7, iv (w64 (l + 1)))] ak (WN ?_)))
     cases hm
     exact N_loop fun a ha => ⟨_, rfl, Z.pk [0], ha.s⟩
    refine gF J (XA ?_)
    obtain rfl := HS hm
    obtain rfl := ae _ rfl
    exact N_meet fun a ha => ⟨_, rfl, Y.pk [], ha.s⟩
   intro b6 b0 ⟨ah, hout_, aw, a5⟩
   refine N_use a5 ?_
   subst hout_
   have hm := ad; simp only [Sum.elim_inl] at hm
   refine BN (TN (GR (wR 3 [(0, .slice i g.length h), (1, .slice c d.length f), (5, iv (w64 (b + 1)))] b0 (WN ?_))))
   cases hm
   exact N_loop fun a ha => ⟨_, rfl, aw.pk [], ha.s⟩
  refine gF D (XA ?_)
  obtain rfl := HS hm
  obtain rfl := y _ rfl
  exact N_meet fun a ha => ⟨_, rfl, u.pk [], ha.s⟩
 intro b7 al ⟨ag, hout_, aa, a6⟩
 refine N_use a6 ?_
 subst hout_
 have hm := x; simp only [Sum.elim_inl] at hm
 refine TN (GS ?_)
 obtain ⟨ai, bf, bb⟩ := gx_bind hm
 refine G_meet (fun a w' => Mem [] w w' [] ∧ Sat Tryz.f189.ntmps [(4, .bool ai)] a) ?_ ?_
 ·have hm := bf
  refine GR (wR 1 [(1, .slice c d.length f), (74, .slice i g.length h)] al ?_)
  obtain ⟨bv, bk, hm⟩ := gx_bind hm
  refine WD (c_s_l8Good al g i h (ac.mem0 aa) bk) aa fun T ab => wR 1 [(1, .slice c d.length f), (76, .bool bv)] T ?_
  rcases gx_bif hm with ⟨L, hm⟩ | ⟨L, hm⟩
  ·refine wK 76 true L (wR 5 [(4, .bool (decide ((d.length : Int) ≤ 8)))] T (WN ?_))
   obtain rfl := HS hm
   exact N_meet fun a ha => ⟨ab.pk [], ha.s⟩
  refine wK 76 false L (wR 5 [(4, .bool false)] T (WN ?_))
  obtain rfl := HS hm
  exact N_meet fun a ha => ⟨ab.pk [], ha.s⟩
 intro b8 cc ⟨ax, a7⟩
 refine N_use a7 ?_
 have hm := bb
 refine TN (G_ret ?_)
 obtain rfl := HS hm
 exact RA [.bool ai] (⟨rfl, ax.pk []⟩)
theorem c_s_l8Free (w : World) (d : List Slot) (c : Option Addr) (f : Nat) (i : rdS encSlot w d c f) {r : Int} (hm : M.s_l8Free d = some r) :
  Calls Tryz.prog 235 #[.slice c d.length f] w fun e w' => e = .returned (iv r) ∧ Mem [] w w' [] := by
 unfold M.s_l8Free at hm
 refine cE Tryz.func235 ?_
 have M0 := Mem.refl [] w
 refine QA (MW 1 (NB (wR 1 [(0, .slice c d.length f), (3, iv 0)] w (NO ?_))))
 obtain ⟨y, x, m⟩ := gx_bind hm
 refine G_meet (fun a w' => ∃ (o : Unit), y = .inl o ∧ Mem [] w w' [] ∧ Sat Tryz.f235.ntmps [] a) ?_ ?_
 ·refine GB (G_while (σ := Int) (ρ := (Unit) ⊕ (Int)) (fun b a w' => Mem [] w w' [] ∧ Sat Tryz.f235.ntmps [(0, .slice c d.length f), (3, iv b)] a) x (fun a ha => ⟨M0.pk [], ha.s⟩) ?_)
  clear hm
  intro b C hm n A g ⟨h, u⟩
  refine G_use u (QB (wR 4 [(0, .slice c d.length f), (3, iv b), (7, .bool (decide (b < (d.length : Int))))] g (NO ?_)))
  rcases gx_bif hm with ⟨j, hm⟩ | ⟨j, hm⟩
  ·refine gT j (KD (wR 2 [(0, .slice c d.length f), (3, iv b), (10, .slice c d.length f), (11, iv b)] g ?_))
   obtain ⟨q, l, hm⟩ := gx_bind hm
   refine wV (elemP c (b.toNat * 3)) g (eI (i.mem0 h) rfl l) (wV (elemP c (b.toNat * 3 + 0)) g (eF 0 (b.toNat * 3) 0 (i.mem0 h) l) (wV (iv q.State) g (eE false 1 0 (b.toNat * 3 + 0) (i.mem0 h) l) (wR 1 [(0, .slice c d.length f), (3, iv b), (15, .bool (q.State == 0))] g (NO ?_))))
   rcases gx_bif hm with ⟨k, hm⟩ | ⟨k, hm⟩
   ·refine gT k (QA (wR 2 [(2, iv b)] g (NX ?_)))
    obtain rfl := HS hm
    obtain rfl := n _ rfl
    have hm := m; simp only [Sum.elim_inr] at hm
    refine BR (N_meet_ret (TR ?_))
    obtain rfl := HS hm
    exact RA [iv b] (⟨rfl, h.pk []⟩)
   refine gF k (KC (wR 3 [(0, .slice c d.length f), (3, iv (w64 (b + 1)))] g (WN ?_)))
   cases hm
   exact N_loop fun a ha => ⟨_, rfl, h.pk [], ha.s⟩
  refine gF j (XA ?_)
  obtain rfl := HS hm
  obtain rfl := n _ rfl
  exact N_meet fun a ha => ⟨_, rfl, h.pk [], ha.s⟩
 intro B z ⟨o, hout_, t, v⟩
 refine N_use v ?_
 subst hout_
 have hm := m; simp only [Sum.elim_inl] at hm
 refine NF (wR 1 [(2, iv (-1))] z (NC ?_))
 cases hm
 exact RA [iv (-1)] (⟨rfl, t.pk []⟩)
end Go.Proofs.YtllhajkgkghhdaaGreat
set_option linter.unusedVariables false
set_option maxRecDepth 100000
set_option maxHeartbeats 4000000
namespace Go.Proofs.YtllhajkgkghhdaaGreat
open Go.Gx
theorem c_s_l8Best (w : World) (d : List Slot) (c : Option Addr) (f : Nat) (j : rdS encSlot w d c f) (g : Bool) {r : Int} (hm : M.s_l8Best d g = some r) :
  Calls Tryz.prog 236 #[.slice c d.length f, .bool g] w fun e w' => e = .returned (iv r) ∧ Mem [] w w' [] := by
 unfold M.s_l8Best at hm
 refine cE Tryz.func236 ?_
 have M0 := Mem.refl [] w
 refine QA (MW 1 (NA (MW 1 (NB (wR 1 [(0, .slice c d.length f), (1, .bool g), (5, iv (-1)), (6, iv 0)] w (NO ?_))))))
 obtain ⟨O, aw, am⟩ := gx_bind hm
 refine G_meet (fun a w' => Mem [] w w' [] ∧ Sat Tryz.f236.ntmps [(5, iv O)] a) ?_ ?_
 ·refine GB (G_while (σ := Int × Int) (ρ := Int) (fun b a w' => Mem [] w w' [] ∧ Sat Tryz.f236.ntmps [(0, .slice c d.length f), (1, .bool g), (5, iv b.1), (6, iv b.2)] a) aw (fun a ha => ⟨M0.pk [], ha.s⟩) ?_)
  clear hm
  intro b bh hm aq a4 v ⟨q, ae⟩
  refine G_use ae (QB (wR 4 [(0, .slice c d.length f), (1, .bool g), (5, iv b.1), (6, iv b.2), (11, .bool (decide (b.2 < (d.length : Int))))] v (NO ?_)))
  rcases gx_bif hm with ⟨z, hm⟩ | ⟨z, hm⟩
  ·refine gT z (GK (TN (GS ?_)))
   obtain ⟨T, an, aj⟩ := gx_bind hm
   refine G_meet (fun a w' => Mem [] w w' [] ∧ Sat Tryz.f236.ntmps [(0, .slice c d.length f), (1, .bool g), (5, iv T), (6, iv b.2)] a) ?_ ?_
   ·have hm := an
    refine GB (QA (wR 2 [(0, .slice c d.length f), (1, .bool g), (5, iv b.1), (6, iv b.2), (14, .slice c d.length f), (15, iv b.2)] v ?_))
    obtain ⟨h, S, hm⟩ := gx_bind hm
    refine wV (elemP c (b.2.toNat * 3)) v (eI (j.mem0 q) rfl S) (wV (.agg #[iv h.State, iv h.Irq, iv h.Priority]) v (eE true 3 0 (b.2.toNat * 3) (j.mem0 q) S) (wN (.cells ⟨[iv 0, iv 0, iv 0]⟩ 117 (0, 0)) q fun i a9 U => wS true 3 0 (.agg #[iv h.State, iv h.Irq, iv h.Priority]) 0 [iv h.State, iv h.Irq, iv h.Priority] U rfl fun P y => NB (MW 1 (wV (iv h.State) P (eL false 1 0 (y.blk 0 rfl)) (wR 1 [(0, .slice c d.length f), (1, .bool g), (5, iv b.1), (6, iv b.2), (7, pB i 0), (20, .bool (h.State != 1))] P (NO ?_))))))
    rcases gx_bif hm with ⟨A, hm⟩ | ⟨A, hm⟩
    ·refine gT A (G_exit (TE (N_block_eq ?_)))
     obtain rfl := HS hm
     exact N_meet fun a ha => ⟨y.pk [], ha.s⟩
    refine gF A (GK (TN (GS ?_)))
    obtain ⟨ax, ao, ak⟩ := gx_bind hm
    refine G_meet (fun a w' => Mem [] w w' [] ∧ Sat Tryz.f236.ntmps [(0, .slice c d.length f), (1, .bool g), (5, iv b.1), (6, iv b.2), (63, .bool ax)] a) ?_ ?_
    ·have hm := ao
     refine G_quiet (by kernel_rfl) (by kernel_rfl) y (MS 3 [(0, .slice c d.length f), (1, .bool g), (5, iv b.1), (6, iv b.2), (7, pB i 0), (23, .bool (decide (b.1 < 0)))] ?_)
     rcases gx_bif hm with ⟨B, hm⟩ | ⟨B, hm⟩
     ·refine zK 23 true B (MS 40 [(0, .slice c d.length f), (1, .bool g), (5, iv b.1), (6, iv b.2), (63, .bool true)] (Z_end fun ba V => ?_))
      obtain rfl := HS hm
      exact N_meet fun a ha => ⟨V.pk [], ha.s⟩
     refine zK 23 false B (MS 2 [(0, .slice c d.length f), (1, .bool g), (5, iv b.1), (6, iv b.2), (7, pB i 0), (23, .bool false), (25, .bool g)] ?_)
     rcases gx_bif hm with ⟨C, hm⟩ | ⟨C, hm⟩
     ·refine zK 25 true C (MZ 1 (zV (iv h.Priority) (fun w_ M_ => (eL false 1 2 (M_.blk 0 rfl))) (MZ 1 (zV (iv h.Irq) (fun w_ M_ => (eL false 1 1 (M_.blk 0 rfl))) (MS 2 [(0, .slice c d.length f), (1, .bool g), (5, iv b.1), (6, iv b.2), (7, pB i 0), (23, .bool false), (25, .bool true), (27, iv h.Priority), (29, iv h.Irq), (30, .slice c d.length f), (31, iv b.1)] ?_)))))
      obtain ⟨x, H, hm⟩ := gx_bind hm
      refine zV (elemP c (b.1.toNat * 3)) (fun w_ M_ => (eI (j.mem0 M_) rfl H)) (zV (elemP c (b.1.toNat * 3 + 2)) (fun w_ M_ => (eF 2 (b.1.toNat * 3) 2 (j.mem0 M_) H)) (zV (iv x.Priority) (fun w_ M_ => (eE false 1 2 (b.1.toNat * 3 + 2) (j.mem0 M_) H)) (MS 2 [(0, .slice c d.length f), (1, .bool g), (5, iv b.1), (6, iv b.2), (7, pB i 0), (23, .bool false), (25, .bool true), (27, iv h.Priority), (29, iv h.Irq), (34, iv x.Priority), (35, .slice c d.length f), (36, iv b.1)] ?_)))
      obtain ⟨Q, I, hm⟩ := gx_bind hm
      refine zV (elemP c (b.1.toNat * 3)) (fun w_ M_ => (eI (j.mem0 M_) rfl I)) (zV (elemP c (b.1.toNat * 3 + 1)) (fun w_ M_ => (eF 1 (b.1.toNat * 3) 1 (j.mem0 M_) I)) (zV (iv Q.Irq) (fun w_ M_ => (eE false 1 1 (b.1.toNat * 3 + 1) (j.mem0 M_) I)) ?_))
      obtain ⟨m, ar, hm⟩ := gx_bind hm
      refine ZC (.bool m) (fun w_ M_ => c_s_l8Less w_ h.Priority h.Irq x.Priority Q.Irq ar) (MS 3 [(0, .slice c d.length f), (1, .bool g), (5, iv b.1), (6, iv b.2), (7, pB i 0), (43, .bool m)] ?_)
      rcases gx_bif hm with ⟨D, hm⟩ | ⟨D, hm⟩
      ·refine zK 43 true D (MS 20 [(0, .slice c d.length f), (1, .bool g), (5, iv b.1), (6, iv b.2), (63, .bool true)] (Z_end fun bb W => ?_))
       obtain rfl := HS hm
       exact N_meet fun a ha => ⟨W.pk [], ha.s⟩
      refine zK 43 false D (MS 3 [(0, .slice c d.length f), (1, .bool g), (5, iv b.1), (6, iv b.2), (7, pB i 0), (43, .bool false), (46, .bool (!g))] ?_)
      rcases gx_bif hm with ⟨E, hm⟩ | ⟨E, hm⟩
      ·refine zK 46 true E (MS 2 [(0, .slice c d.length f), (1, .bool g), (5, iv b.1), (6, iv b.2), (7, pB i 0), (43, .bool false), (46, .bool true), (47, .slice c d.length f), (48, iv b.1)] ?_)
       obtain ⟨k, J, hm⟩ := gx_bind hm
       refine zV (elemP c (b.1.toNat * 3)) (fun w_ M_ => (eI (j.mem0 M_) rfl J)) (zV (elemP c (b.1.toNat * 3 + 2)) (fun w_ M_ => (eF 2 (b.1.toNat * 3) 2 (j.mem0 M_) J)) (zV (iv k.Priority) (fun w_ M_ => (eE false 1 2 (b.1.toNat * 3 + 2) (j.mem0 M_) J)) (MS 2 [(0, .slice c d.length f), (1, .bool g), (5, iv b.1), (6, iv b.2), (7, pB i 0), (43, .bool false), (46, .bool true), (51, iv k.Priority), (52, .slice c d.length f), (53, iv b.1)] ?_)))
       obtain ⟨n, K, hm⟩ := gx_bind hm
       refine zV (elemP c (b.1.toNat * 3)) (fun w_ M_ => (eI (j.mem0 M_) rfl K)) (zV (elemP c (b.1.toNat * 3 + 1)) (fun w_ M_ => (eF 1 (b.1.toNat * 3) 1 (j.mem0 M_) K)) (zV (iv n.Irq) (fun w_ M_ => (eE false 1 1 (b.1.toNat * 3 + 1) (j.mem0 M_) K)) (MZ 1 (zV (iv h.Priority) (fun w_ M_ => (eL false 1 2 (M_.blk 0 rfl))) (MS 1 [(0, .slice c d.length f), (1, .bool g), (5, iv b.1), (6, iv b.2), (43, .bool false), (46, .bool true), (51, iv k.Priority), (56, iv n.Irq), (58, iv h.Priority), (59, pB i 1)] (zV (iv h.Irq) (fun w_ M_ => (eL false 1 1 (M_.blk 0 rfl))) ?_))))))
       obtain ⟨t, au, hm⟩ := gx_bind hm
       refine ZC (.bool t) (fun w_ M_ => c_s_l8Less w_ k.Priority n.Irq h.Priority h.Irq au) (MS 2 [(0, .slice c d.length f), (1, .bool g), (5, iv b.1), (6, iv b.2), (63, .bool t)] (Z_end fun bc X => ?_))
       obtain rfl := HS hm
       exact N_meet fun a ha => ⟨X.pk [], ha.s⟩
      refine zK 46 false E (MS 17 [(0, .slice c d.length f), (1, .bool g), (5, iv b.1), (6, iv b.2), (63, .bool false)] (Z_end fun bd Y => ?_))
      obtain rfl := HS hm
      exact N_meet fun a ha => ⟨Y.pk [], ha.s⟩
     refine zK 25 false C (MS 21 [(0, .slice c d.length f), (1, .bool g), (5, iv b.1), (6, iv b.2), (7, pB i 0), (43, .bool false), (46, .bool (!g))] ?_)
     rcases gx_bif hm with ⟨F, hm⟩ | ⟨F, hm⟩
     ·refine zK 46 true F (MS 2 [(0, .slice c d.length f), (1, .bool g), (5, iv b.1), (6, iv b.2), (7, pB i 0), (43, .bool false), (46, .bool true), (47, .slice c d.length f), (48, iv b.1)] ?_)
      obtain ⟨l, L, hm⟩ := gx_bind hm
      refine zV (elemP c (b.1.toNat * 3)) (fun w_ M_ => (eI (j.mem0 M_) rfl L)) (zV (elemP c (b.1.toNat * 3 + 2)) (fun w_ M_ => (eF 2 (b.1.toNat * 3) 2 (j.mem0 M_) L)) (zV (iv l.Priority) (fun w_ M_ => (eE false 1 2 (b.1.toNat * 3 + 2) (j.mem0 M_) L)) (MS 2 [(0, .slice c d.length f), (1, .bool g), (5, iv b.1), (6, iv b.2), (7, pB i 0), (43, .bool false), (46, .bool true), (51, iv l.Priority), (52, .slice c d.length f), (53, iv b.1)] ?_)))
      obtain ⟨o, N, hm⟩ := gx_bind hm
      refine zV (elemP c (b.1.toNat * 3)) (fun w_ M_ => (eI (j.mem0 M_) rfl N)) (zV (elemP c (b.1.toNat * 3 + 1)) (fun w_ M_ => (eF 1 (b.1.toNat * 3) 1 (j.mem0 M_) N)) (zV (iv o.Irq) (fun w_ M_ => (eE false 1 1 (b.1.toNat * 3 + 1) (j.mem0 M_) N)) (MZ 1 (zV (iv h.Priority) (fun w_ M_ => (eL false 1 2 (M_.blk 0 rfl))) (MS 1 [(0, .slice c d.length f), (1, .bool g), (5, iv b.1), (6, iv b.2), (43, .bool false), (46, .bool true), (51, iv l.Priority), (56, iv o.Irq), (58, iv h.Priority), (59, pB i 1)] (zV (iv h.Irq) (fun w_ M_ => (eL false 1 1 (M_.blk 0 rfl))) ?_))))))
      obtain ⟨u, av, hm⟩ := gx_bind hm
      refine ZC (.bool u) (fun w_ M_ => c_s_l8Less w_ l.Priority o.Irq h.Priority h.Irq av) (MS 2 [(0, .slice c d.length f), (1, .bool g), (5, iv b.1), (6, iv b.2), (63, .bool u)] (Z_end fun be Z => ?_))
      obtain rfl := HS hm
      exact N_meet fun a ha => ⟨Z.pk [], ha.s⟩
     refine zK 46 false F (MS 17 [(0, .slice c d.length f), (1, .bool g), (5, iv b.1), (6, iv b.2), (63, .bool false)] (Z_end fun bf aa => ?_))
     obtain rfl := HS hm
     exact N_meet fun a ha => ⟨aa.pk [], ha.s⟩
    intro a5 az ⟨R, af⟩
    refine N_use af ?_
    have hm := ak
    refine TN ?_
    obtain ⟨ay, ap, al⟩ := gx_bind hm
    refine G_meet (fun a w' => Mem [] w w' [] ∧ Sat Tryz.f236.ntmps [(0, .slice c d.length f), (1, .bool g), (5, iv ay), (6, iv b.2)] a) ?_ ?_
    ·have hm := ap
     rcases gx_bif hm with ⟨G, hm⟩ | ⟨G, hm⟩
     ·refine gT G (GR (wR 2 [(0, .slice c d.length f), (1, .bool g), (5, iv b.2), (6, iv b.2)] az (WN ?_)))
      obtain rfl := HS hm
      exact N_meet fun a ha => ⟨R.pk [], ha.s⟩
     refine gF G (GK ?_)
     obtain rfl := HS hm
     exact N_meet fun a ha => ⟨R.pk [], ha.s⟩
    intro a6 bg ⟨ab, ag⟩
    refine N_use ag ?_
    have hm := al
    refine BN ?_
    obtain rfl := HS hm
    exact N_meet fun a ha => ⟨ab.pk [], ha.s⟩
   intro a7 a0 ⟨ac, ah⟩
   refine N_use ah ?_
   have hm := aj
   refine TN (GR (wR 3 [(0, .slice c d.length f), (1, .bool g), (5, iv T), (6, iv (w64 (b.2 + 1)))] a0 (WN ?_)))
   cases hm
   exact N_loop fun a ha => ⟨_, rfl, ac.pk [], ha.s⟩
  refine gF z (XA ?_)
  obtain rfl := HS hm
  obtain rfl := aq _ rfl
  exact N_meet fun a ha => ⟨q.pk [], ha.s⟩
 intro a8 a3 ⟨ad, ai⟩
 refine N_use ai ?_
 have hm := am
 refine NF (wR 2 [(4, iv O)] a3 (NC ?_))
 obtain rfl := HS hm
 exact RA [iv O] (⟨rfl, ad.pk []⟩)
theorem c_s_l9Settled (w : World) (d : Queue) (f : Option Addr) (g : Nat) (i : rdS encSlot w d.Slots f g) (h : Option Addr) (l : Nat) (m : rdS encWaiter w d.Waiting h l) {r : Bool} (hm : M.s_l9Settled d = some r) :
  Calls Tryz.prog 190 #[.agg #[.slice f d.Slots.length g, .slice h d.Waiting.length l]] w fun e w' => e = .returned (.bool r) ∧ Mem [] w w' [] := by
 unfold M.s_l9Settled at hm
 refine cE Tryz.func190 ?_
 have M0 := Mem.refl [] w
 refine QA (wN (.cells ⟨[.slice f d.Slots.length g, .slice h d.Waiting.length l]⟩ 85 (0, 0)) M0 fun b j n => MW 1 (NB (MW 1 (wV (.slice h d.Waiting.length l) j (eL false 1 1 (n.blk 0 rfl)) (wR 2 [(1, pB b 0), (7, .bool ((d.Waiting.length : Int) == 0))] j (NO ?_))))))
 rcases gx_bif hm with ⟨x, hm⟩ | ⟨x, hm⟩
 ·refine gT x (QA (wR 1 [(2, .bool true)] j (ND ?_)))
  obtain rfl := HS hm
  exact RA [.bool true] (⟨rfl, n.pk []⟩)
 refine gF x (KB (wR 1 [(1, pB b 0), (8, pB b 0)] j (wV (.slice f d.Slots.length g) j (eL false 1 0 (n.blk 0 rfl)) ?_)))
 obtain ⟨T, Q, hm⟩ := gx_bind hm
 refine WD (c_s_l8Free j d.Slots f g (i.mem0 n) Q) n fun o t => wR 1 [(1, pB b 0), (11, .bool (decide (T ≥ 0)))] o (NO ?_)
 rcases gx_bif hm with ⟨y, hm⟩ | ⟨y, hm⟩
 ·refine gT y (QA (wR 1 [(2, .bool false)] o (ND ?_)))
  obtain rfl := HS hm
  exact RA [.bool false] (⟨rfl, t.pk []⟩)
 refine gF y (KA (wR 1 [(1, pB b 0), (12, pB b 0)] o (wV (.slice f d.Slots.length g) o (eL false 1 0 (t.blk 0 rfl)) ?_)))
 obtain ⟨c, R, hm⟩ := gx_bind hm
 refine WD (c_s_l8Best o d.Slots f g (i.mem0 t) false R) t fun U I => wR 1 [(1, pB b 0), (3, iv c)] U (NE ?_)
 obtain ⟨F, P, O⟩ := gx_bind hm
 refine G_meet (fun a w' => Mem [] w w' [] ∧ Sat Tryz.f190.ntmps [(2, .bool F)] a) ?_ ?_
 ·have hm := P
  refine G_quiet (by kernel_rfl) (by kernel_rfl) I (MS 3 [(1, pB b 0), (3, iv c), (17, .bool (decide (c < 0)))] ?_)
  rcases gx_bif hm with ⟨z, hm⟩ | ⟨z, hm⟩
  ·refine zK 17 true z (MS 25 [(2, .bool true)] (Z_end fun W J => ?_))
   obtain rfl := HS hm
   exact N_meet fun a ha => ⟨J.pk [], ha.s⟩
  refine zK 17 false z (MZ 1 (zV (.slice f d.Slots.length g) (fun w_ M_ => (eL false 1 0 (M_.blk 0 rfl))) (MS 1 [(1, pB b 0), (3, iv c), (17, .bool false), (19, .slice f d.Slots.length g), (20, iv c)] ?_)))
  obtain ⟨k, A, hm⟩ := gx_bind hm
  refine zV (elemP f (c.toNat * 3)) (fun w_ M_ => (eI (i.mem0 M_) rfl A)) (zV (elemP f (c.toNat * 3 + 2)) (fun w_ M_ => (eF 2 (c.toNat * 3) 2 (i.mem0 M_) A)) (zV (iv k.Priority) (fun w_ M_ => (eE false 1 2 (c.toNat * 3 + 2) (i.mem0 M_) A)) (MZ 1 (zV (.slice f d.Slots.length g) (fun w_ M_ => (eL false 1 0 (M_.blk 0 rfl))) (MS 1 [(1, pB b 0), (17, .bool false), (23, iv k.Priority), (25, .slice f d.Slots.length g), (26, iv c)] ?_)))))
  obtain ⟨q, B, hm⟩ := gx_bind hm
  refine zV (elemP f (c.toNat * 3)) (fun w_ M_ => (eI (i.mem0 M_) rfl B)) (zV (elemP f (c.toNat * 3 + 1)) (fun w_ M_ => (eF 1 (c.toNat * 3) 1 (i.mem0 M_) B)) (zV (iv q.Irq) (fun w_ M_ => (eE false 1 1 (c.toNat * 3 + 1) (i.mem0 M_) B)) (MS 1 [(1, pB b 0), (17, .bool false), (23, iv k.Priority), (29, iv q.Irq), (30, pB b 1)] (zV (.slice h d.Waiting.length l) (fun w_ M_ => (eL false 1 1 (M_.blk 0 rfl))) ?_))))
  obtain ⟨v, C, hm⟩ := gx_bind hm
  refine zV (elemP h ((0 : Int).toNat * 2)) (fun w_ M_ => (eI (m.mem0 M_) rfl C)) (zV (elemP h ((0 : Int).toNat * 2 + 1)) (fun w_ M_ => (eF 1 ((0 : Int).toNat * 2) 1 (m.mem0 M_) C)) (zV (iv v.Priority) (fun w_ M_ => (eE false 1 1 ((0 : Int).toNat * 2 + 1) (m.mem0 M_) C)) (MS 1 [(17, .bool false), (23, iv k.Priority), (29, iv q.Irq), (34, iv v.Priority), (35, pB b 1)] (zV (.slice h d.Waiting.length l) (fun w_ M_ => (eL false 1 1 (M_.blk 0 rfl))) ?_))))
  obtain ⟨E, D, hm⟩ := gx_bind hm
  refine zV (elemP h ((0 : Int).toNat * 2)) (fun w_ M_ => (eI (m.mem0 M_) rfl D)) (zV (elemP h ((0 : Int).toNat * 2 + 0)) (fun w_ M_ => (eF 0 ((0 : Int).toNat * 2) 0 (m.mem0 M_) D)) (zV (iv E.Irq) (fun w_ M_ => (eE false 1 0 ((0 : Int).toNat * 2 + 0) (m.mem0 M_) D)) ?_))
  obtain ⟨u, S, hm⟩ := gx_bind hm
  refine ZC (.bool u) (fun w_ M_ => c_s_l8Less w_ k.Priority q.Irq v.Priority E.Irq S) (MS 2 [(2, .bool u)] (Z_end fun X K => ?_))
  obtain rfl := HS hm
  exact N_meet fun a ha => ⟨K.pk [], ha.s⟩
 intro V Y ⟨L, N⟩
 refine N_use N ?_
 have hm := O
 refine TN (G_ret ?_)
 obtain rfl := HS hm
 exact RA [.bool F] (⟨rfl, L.pk []⟩)
theorem c_s_l9Good (w : World) (b : Queue) (d : Option Addr) (c : Nat) (n : rdS encSlot w b.Slots d c) (g : Option Addr) (f : Nat) (o : rdS encWaiter w b.Waiting g f) {r : Bool} (hm : M.s_l9Good b = some r) :
  Calls Tryz.prog 154 #[.agg #[.slice d b.Slots.length c, .slice g b.Waiting.length f]] w fun e w' => e = .returned (.bool r) ∧ Mem [] w w' [] := by
 unfold M.s_l9Good at hm
 refine cE Tryz.func154 ?_
 have M0 := Mem.refl [] w
 refine QA (wN (.cells ⟨[.slice d b.Slots.length c, .slice g b.Waiting.length f]⟩ 85 (0, 0)) M0 fun h i j => wR 1 [(1, pB h 0)] i (NE ?_))
 obtain ⟨q, A, z⟩ := gx_bind hm
 refine G_meet (fun a w' => Mem [] w w' [] ∧ Sat Tryz.f154.ntmps [(2, .bool q)] a) ?_ ?_
 ·have hm := A
  refine GR (MW 1 (wV (.slice d b.Slots.length c) i (eL false 1 0 (j.blk 0 rfl)) (wR 1 [(1, pB h 0), (4, .slice d b.Slots.length c), (5, pB h 1)] i (wV (.slice g b.Waiting.length f) i (eL false 1 1 (j.blk 0 rfl)) ?_))))
  obtain ⟨D, B, hm⟩ := gx_bind hm
  refine WD (c_s_l9Waiting i b.Slots d c (n.mem0 j) b.Waiting g f (o.mem0 j) B) j fun l k => wR 1 [(1, pB h 0), (8, .bool D)] l ?_
  rcases gx_bif hm with ⟨m, hm⟩ | ⟨m, hm⟩
  ·refine wK 8 true m (wV (.agg #[.slice d b.Slots.length c, .slice g b.Waiting.length f]) l (eL true 2 0 (k.blk 0 rfl)) ?_)
   obtain ⟨E, C, hm⟩ := gx_bind hm
   refine WD (c_s_l9Settled l b d c (n.mem0 k) g f (o.mem0 k) C) k fun F v => wR 2 [(2, .bool E)] F (WN ?_)
   obtain rfl := HS hm
   exact N_meet fun a ha => ⟨v.pk [], ha.s⟩
  refine wK 8 false m (wR 4 [(2, .bool false)] l (WN ?_))
  obtain rfl := HS hm
  exact N_meet fun a ha => ⟨k.pk [], ha.s⟩
 intro G H ⟨x, y⟩
 refine N_use y ?_
 have hm := z
 refine TN (G_ret ?_)
 obtain rfl := HS hm
 exact RA [.bool q] (⟨rfl, x.pk []⟩)
theorem c_s_l1Put (w : World) (d : List Int) (c : Option Addr) (b : Nat) (l : Seg) (A : ownS Gx.encI d c b l) (g : Int) (hA : ∀ q ∈ List.flatten [l], w.heap[q.1]? = some q.2) (hN : (idsOf [l]).Nodup) {r : (List Int)} (hm : M.s_l1Put d g = some r) :
  Calls Tryz.prog 191 #[.slice c d.length b, iv g] w fun e w' => ∃ (an : Option Addr) (ah : Nat) (ao : Seg), e = .returned (.slice an r.length ah) ∧ ownS Gx.encI r an ah ao ∧ Mem (idsOf [l]) w w' [ao] := by
 unfold M.s_l1Put at hm
 refine cE Tryz.func191 ?_
 have M0 := Mem.start' w [l] hA hN
 refine QA (MW 1 (NA (wR 1 [(0, .slice c d.length b), (1, iv g), (5, iv 0)] w (NE ?_))))
 obtain ⟨k, bm, bh⟩ := gx_bind hm
 refine G_meet (fun a w' => Mem (idsOf [l]) w w' [l] ∧ Sat Tryz.f191.ntmps [(0, .slice c d.length b), (1, iv g), (5, iv k)] a) ?_ ?_
 ·refine GB (G_while (σ := Int) (ρ := Int) (fun n a w' => Mem (idsOf [l]) w w' [l] ∧ Sat Tryz.f191.ntmps [(0, .slice c d.length b), (1, iv g), (5, iv n)] a) bm (fun a ha => ⟨M0.pk [0], ha.s⟩) ?_)
  clear hm
  intro n ch hm bl b5 F ⟨J, a8⟩
  refine G_use a8 (GS (GS ?_))
  obtain ⟨bn, bi, bf⟩ := gx_bind hm
  refine G_meet (fun a w' => Mem (idsOf [l]) w w' [l] ∧ Sat Tryz.f191.ntmps [(0, .slice c d.length b), (1, iv g), (5, iv n), (17, .bool bn)] a) ?_ ?_
  ·have hm := bi
   refine GR (wR 5 [(0, .slice c d.length b), (1, iv g), (5, iv n), (10, .bool (decide (n < (d.length : Int))))] F ?_)
   rcases gx_bif hm with ⟨Q, hm⟩ | ⟨Q, hm⟩
   ·refine wK 10 true Q (wR 2 [(0, .slice c d.length b), (1, iv g), (5, iv n), (10, .bool true), (11, .slice c d.length b), (12, iv n)] F ?_)
    obtain ⟨ap, ai, hm⟩ := gx_bind hm
    refine wV (elemP c (n.toNat * 1)) F (eI (A.r J 0) rfl ai) (wV (iv ap) F (eE false 1 0 (n.toNat * 1) (A.r J 0) ai) (wR 3 [(0, .slice c d.length b), (1, iv g), (5, iv n), (17, .bool (decide (ap < g)))] F (WN ?_)))
    obtain rfl := HS hm
    exact N_meet fun a ha => ⟨J.pk [0], ha.s⟩
   refine wK 10 false Q (wR 7 [(0, .slice c d.length b), (1, iv g), (5, iv n), (17, .bool false)] F (WN ?_))
   obtain rfl := HS hm
   exact N_meet fun a ha => ⟨J.pk [0], ha.s⟩
  intro b6 bt ⟨Z, a9⟩
  refine N_use a9 ?_
  have hm := bf
  refine TN ?_
  rcases gx_bif hm with ⟨S, hm⟩ | ⟨S, hm⟩
  ·refine gT S (GK (TN (GB (GR (wR 3 [(0, .slice c d.length b), (1, iv g), (5, iv (w64 (n + 1)))] bt (WN (BN ?_)))))))
   cases hm
   exact N_loop fun a ha => ⟨_, rfl, Z.pk [0], ha.s⟩
  refine gF S (XA ?_)
  obtain rfl := HS hm
  obtain rfl := bl _ rfl
  exact N_meet fun a ha => ⟨Z.pk [0], ha.s⟩
 intro b7 G ⟨K, ba⟩
 refine N_use ba ?_
 have hm := bh
 refine TN (GS (GS ?_))
 obtain ⟨am, bj, bg⟩ := gx_bind hm
 refine G_meet (fun a w' => Mem (idsOf [l]) w w' [l] ∧ Sat Tryz.f191.ntmps [(0, .slice c d.length b), (1, iv g), (5, iv k), (31, .bool am)] a) ?_ ?_
 ·have hm := bj
  refine GR (wR 5 [(0, .slice c d.length b), (1, iv g), (5, iv k), (24, .bool (decide (k < (d.length : Int))))] G ?_)
  rcases gx_bif hm with ⟨T, hm⟩ | ⟨T, hm⟩
  ·refine wK 24 true T (wR 2 [(0, .slice c d.length b), (1, iv g), (5, iv k), (24, .bool true), (25, .slice c d.length b), (26, iv k)] G ?_)
   obtain ⟨aq, aj, hm⟩ := gx_bind hm
   refine wV (elemP c (k.toNat * 1)) G (eI (A.r K 0) rfl aj) (wV (iv aq) G (eE false 1 0 (k.toNat * 1) (A.r K 0) aj) (wR 3 [(0, .slice c d.length b), (1, iv g), (5, iv k), (31, .bool (aq == g))] G (WN ?_)))
   obtain rfl := HS hm
   exact N_meet fun a ha => ⟨K.pk [0], ha.s⟩
  refine wK 24 false T (wR 7 [(0, .slice c d.length b), (1, iv g), (5, iv k), (31, .bool false)] G (WN ?_))
  obtain rfl := HS hm
  exact N_meet fun a ha => ⟨K.pk [0], ha.s⟩
 intro b8 bu ⟨aa, bb⟩
 refine N_use bb ?_
 have hm := bg
 refine TN ?_
 rcases gx_bif hm with ⟨U, hm⟩ | ⟨U, hm⟩
 ·refine gT U (QA (wR 2 [(4, .slice c d.length b)] bu (ND ?_)))
  obtain rfl := HS hm
  exact RA [.slice c d.length b] (⟨c, b, l, rfl, A, aa.pk [0]⟩)
 refine gF U (GK (TN (GS ?_)))
 obtain ⟨N, ak, hm⟩ := gx_bind hm
 obtain ⟨H, bc, hm⟩ := gx_bind hm
 obtain ⟨I, bd, hm⟩ := gx_bind hm
 obtain ⟨O, al, hm⟩ := gx_bind hm
 refine G_sub [(0, .slice c d.length b), (1, iv g), (5, iv k), (31, .bool am)] (by kernel_rfl) (G_dagL 11 [[], [], [], [1, 2], [0, 3], [], [5], [4, 6], [], [], [8, 9]] [[], [], [], [], [0], [], [], [4], [], [], []] [[], [], [], [], [], [], [], [6], [], [], []] [[], [], [], [], [], [], [], [], [], [], []] [[], [], [], [], [], [], [], [], [], [], []] [[], [], [], [], [], [], [], [], [], [], []] (fun _ => []) (fun i => ([fun f v s => ∃ (B : Option Addr) (x : Nat), v = (.slice B ([] : List Int).length x : Value) ∧ ownS Gx.encI ([] : List Int) B x s, fun f v s => v = (.slice c d.length b : Value) ∧ s = [], fun f v s => v = (iv k : Value) ∧ s = [], fun f v s => v = (.slice (subP c (0 : Int).toNat b 1) N.length (b - (0 : Int).toNat) : Value) ∧ s = [], fun f v s => ∃ (C : Option Addr) (y : Nat), v = (.slice C H.length y : Value) ∧ ownS Gx.encI H C y s, fun f v s => v = (iv g : Value) ∧ s = [], fun f v s => ∃ (u : Option Addr) (t : Nat), v = (.slice u [g].length t : Value) ∧ ownS Gx.encI [g] u t s, fun f v s => ∃ (D : Option Addr) (z : Nat), v = (.slice D I.length z : Value) ∧ ownS Gx.encI I D z s, fun f v s => v = (.slice c d.length b : Value) ∧ s = [], fun f v s => v = (iv k : Value) ∧ s = [], fun f v s => v = (.slice (subP c k.toNat b 1) O.length (b - k.toNat) : Value) ∧ s = []] : List ((Nat → Value) → Value → Seg → Prop)).getD i (fun _ _ _ => False)) (fun j f v => ∃ s, (fun i => ([fun f v s => ∃ (B : Option Addr) (x : Nat), v = (.slice B ([] : List Int).length x : Value) ∧ ownS Gx.encI ([] : List Int) B x s, fun f v s => v = (.slice c d.length b : Value) ∧ s = [], fun f v s => v = (iv k : Value) ∧ s = [], fun f v s => v = (.slice (subP c (0 : Int).toNat b 1) N.length (b - (0 : Int).toNat) : Value) ∧ s = [], fun f v s => ∃ (C : Option Addr) (y : Nat), v = (.slice C H.length y : Value) ∧ ownS Gx.encI H C y s, fun f v s => v = (iv g : Value) ∧ s = [], fun f v s => ∃ (u : Option Addr) (t : Nat), v = (.slice u [g].length t : Value) ∧ ownS Gx.encI [g] u t s, fun f v s => ∃ (D : Option Addr) (z : Nat), v = (.slice D I.length z : Value) ∧ ownS Gx.encI I D z s, fun f v s => v = (.slice c d.length b : Value) ∧ s = [], fun f v s => v = (iv k : Value) ∧ s = [], fun f v s => v = (.slice (subP c k.toNat b 1) O.length (b - k.toNat) : Value) ∧ s = []] : List ((Nat → Value) → Value → Seg → Prop)).getD i (fun _ _ _ => False)) j f v s) [] [6, 7, 10] [6, 7] (fun _ _ _ s h => ⟨s, h⟩) (by kernel_rfl) (by kernel_rfl) (aa.preNil 11) (by kernel_rfl) (by kernel_rfl) (by kernel_rfl) (by kernel_rfl) (allOb_cons ?_ (allOb_cons ?_ (allOb_cons ?_ (allOb_cons ?_ (allOb_cons ?_ (allOb_cons ?_ (allOb_cons ?_ (allOb_cons ?_ (allOb_cons ?_ (allOb_cons ?_ (allOb_cons ?_ allOb_nil))))))))))) ?_)
 ·intro m o
  intro R b9 ar
  exact wL (E := Gx.encI) ([] : List Int) 0 [] 3 ar fun B x bo ca V au => WN (oE (.slice B ([] : List Int).length x) bo ⟨B, x, rfl, V⟩ (Mem.mid au))
 ·intro m o
  intro R bv av
  exact MW 1 (WN (oE (.slice c d.length b) [] ⟨by kernel_rfl, rfl⟩ av))
 ·intro m o
  intro R bw aw
  exact MW 1 (WN (oE (iv k) [] ⟨by kernel_rfl, rfl⟩ aw))
 ·intro m o
  intro v1_ hb1_
  obtain ⟨rfl, _⟩ := hb1_
  intro v2_ hb2_
  obtain ⟨rfl, _⟩ := hb2_
  intro R bx ab
  exact wV (.slice (subP c (0 : Int).toNat b 1) N.length (b - (0 : Int).toNat)) bx (E_slice (E := Gx.encI) _ _ _ _ d.length 0 k rfl (by kernel_rfl) (Or.inl ⟨rfl, rfl⟩) (Or.inr ⟨_, rfl, by kernel_rfl⟩) (by kernel_rfl) (A.r ab 0) rfl ak) (WN (oE (.slice (subP c (0 : Int).toNat b 1) N.length (b - (0 : Int).toNat)) [] ⟨by kernel_rfl, rfl⟩ ab))
 ·intro m o
  intro v0_ hb0_
  obtain ⟨B, x, rfl, V⟩ := hb0_
  intro v3_ hb3_
  obtain ⟨rfl, _⟩ := hb3_
  intro R cb ac
  exact wA 8 [iv 0] 2 ac V ((A.r ac 0).sliceM ak) bc fun C y bp cc W ax => WN (oE (.slice C H.length y) bp ⟨C, y, rfl, W⟩ (Mem.takeOver ax))
 ·intro m o
  intro R bz ay
  exact MW 1 (WN (oE (iv g) [] ⟨by kernel_rfl, rfl⟩ ay))
 ·intro m o
  intro v5_ hb5_
  obtain ⟨rfl, _⟩ := hb5_
  intro R cd az
  exact wL (E := Gx.encI) [g] 1 [iv g] 3 az fun u t bq ce L a0 => WN (oE (.slice u [g].length t) bq ⟨u, t, rfl, L⟩ (Mem.mid a0))
 ·intro m o
  intro v4_ hb4_
  obtain ⟨C, y, rfl, W⟩ := hb4_
  intro v6_ hb6_
  obtain ⟨u, t, rfl, L⟩ := hb6_
  intro R cf ad
  exact wA 8 [iv 0] 2 ad W (L.r ad 3) bd fun D z br cg X a3 => WN (oE (.slice D I.length z) br ⟨D, z, rfl, X⟩ (Mem.takeOver a3))
 ·intro m o
  intro R b0 a4
  exact MW 1 (WN (oE (.slice c d.length b) [] ⟨by kernel_rfl, rfl⟩ a4))
 ·intro m o
  intro R b1 a5
  exact MW 1 (WN (oE (iv k) [] ⟨by kernel_rfl, rfl⟩ a5))
 ·intro m o
  intro v8_ hb8_
  obtain ⟨rfl, _⟩ := hb8_
  intro v9_ hb9_
  obtain ⟨rfl, _⟩ := hb9_
  intro R b2 ae
  exact wV (.slice (subP c k.toNat b 1) O.length (b - k.toNat)) b2 (E_slice (E := Gx.encI) _ _ _ _ d.length k (d.length : Int) rfl (by kernel_rfl) (Or.inr ⟨_, rfl, by kernel_rfl⟩) (Or.inl ⟨rfl, rfl⟩) (by kernel_rfl) (A.r ae 0) rfl al) (WN (oE (.slice (subP c k.toNat b 1) O.length (b - k.toNat)) [] ⟨by kernel_rfl, rfl⟩ ae))
 intro m o
 intro v6_ hb6_
 obtain ⟨u, t, rfl, L⟩ := hb6_
 intro v7_ hb7_
 obtain ⟨D, z, rfl, X⟩ := hb7_
 intro v10_ hb10_
 obtain ⟨rfl, _⟩ := hb10_
 intro b3 a6
 have af : Mem (idsOf [l]) w b3 [l, (m 6), (m 7)] := a6
 obtain ⟨ag, be, hm⟩ := gx_bind hm
 refine wA 8 [iv 0] 2 af X ((A.r af 0).sliceM al) be fun Y P bs b4 bk a7 => wR 1 [(4, .slice Y ag.length P)] b4 (NC ?_)
 obtain rfl := HS hm
 exact RA [.slice Y ag.length P] (⟨Y, P, bs, rfl, bk, a7.pk [2]⟩)
theorem c_s_l8Active (w : World) (d : List Slot) (c : Option Addr) (f : Nat) (k : rdS encSlot w d c f) {r : (List Int)} (hm : M.s_l8Active d = some r) :
  Calls Tryz.prog 155 #[.slice c d.length f] w fun e w' => ∃ (O : Option Addr) (L : Nat) (Q : Seg), e = .returned (.slice O r.length L) ∧ ownS Gx.encI r O L Q ∧ Mem [] w w' [Q] := by
 unfold M.s_l8Active at hm
 refine cE Tryz.func155 ?_
 have M0 := Mem.refl [] w
 refine QA (wR 1 [(0, .slice c d.length f)] w (NA (wL (E := Gx.encI) ([] : List Int) 0 [] 3 M0 fun J z ar R ag V => MW 1 (NB (wR 1 [(0, .slice c d.length f), (3, .slice J ([] : List Int).length z), (4, iv 0)] R (NO ?_))))))
 obtain ⟨v, ao, af⟩ := gx_bind hm
 refine G_meet (fun a w' => ∃ (o : Option Addr), ∃ (n : Nat), ∃ (x : Seg), ownS Gx.encI v o n x ∧ Mem [] w w' [x] ∧ Sat Tryz.f155.ntmps [(3, .slice o v.length n)] a) ?_ ?_
 ·refine GB (G_while (σ := List Int × Int) (ρ := List Int) (fun b a w' => ∃ (h : Option Addr), ∃ (g : Nat), ∃ (m : Seg), ownS Gx.encI b.1 h g m ∧ Mem [] w w' [m] ∧ Sat Tryz.f155.ntmps [(0, .slice c d.length f), (3, .slice h b.1.length g), (4, iv b.2)] a) ao (fun a ha => ⟨J, z, ar, ag, V.pk [0], ha.s⟩) ?_)
  clear hm
  intro b a4 hm am ay i ⟨h, g, m, D, j, Z⟩
  refine G_use Z (QB (wR 4 [(0, .slice c d.length f), (3, .slice h b.1.length g), (4, iv b.2), (9, .bool (decide (b.2 < (d.length : Int))))] i (NO ?_)))
  rcases gx_bif hm with ⟨A, hm⟩ | ⟨A, hm⟩
  ·refine gT A (GK (TN (GS (GB (GS ?_)))))
   obtain ⟨ap, ai, ad⟩ := gx_bind hm
   refine G_meet (fun a w' => Mem [] w w' [m] ∧ Sat Tryz.f155.ntmps [(0, .slice c d.length f), (3, .slice h b.1.length g), (4, iv b.2), (25, .bool ap)] a) ?_ ?_
   ·have hm := ai
    refine GR (wR 2 [(0, .slice c d.length f), (3, .slice h b.1.length g), (4, iv b.2), (12, .slice c d.length f), (13, iv b.2)] i ?_)
    obtain ⟨S, F, hm⟩ := gx_bind hm
    refine wV (elemP c (b.2.toNat * 3)) i (eI (k.mem0 j) rfl F) (wV (elemP c (b.2.toNat * 3 + 0)) i (eF 0 (b.2.toNat * 3) 0 (k.mem0 j) F) (wV (iv S.State) i (eE false 1 0 (b.2.toNat * 3 + 0) (k.mem0 j) F) (wR 2 [(0, .slice c d.length f), (3, .slice h b.1.length g), (4, iv b.2), (18, .bool (S.State == 2))] i ?_)))
    rcases gx_bif hm with ⟨B, hm⟩ | ⟨B, hm⟩
    ·refine wK 18 true B (wR 7 [(0, .slice c d.length f), (3, .slice h b.1.length g), (4, iv b.2), (25, .bool true)] i (WN ?_))
     obtain rfl := HS hm
     exact N_meet fun a ha => ⟨j.pk [0], ha.s⟩
    refine wK 18 false B (wR 2 [(0, .slice c d.length f), (3, .slice h b.1.length g), (4, iv b.2), (18, .bool false), (19, .slice c d.length f), (20, iv b.2)] i ?_)
    obtain ⟨T, G, hm⟩ := gx_bind hm
    refine wV (elemP c (b.2.toNat * 3)) i (eI (k.mem0 j) rfl G) (wV (elemP c (b.2.toNat * 3 + 0)) i (eF 0 (b.2.toNat * 3) 0 (k.mem0 j) G) (wV (iv T.State) i (eE false 1 0 (b.2.toNat * 3 + 0) (k.mem0 j) G) (wR 2 [(0, .slice c d.length f), (3, .slice h b.1.length g), (4, iv b.2), (25, .bool (T.State == 3))] i (WN ?_))))
    obtain rfl := HS hm
    exact N_meet fun a ha => ⟨j.pk [0], ha.s⟩
   intro az u ⟨l, aa⟩
   refine N_use aa ?_
   have hm := ad
   refine TN ?_
   obtain ⟨I, aj, ae⟩ := gx_bind hm
   refine G_meet (fun a w' => ∃ (t : Option Addr), ∃ (q : Nat), ∃ (y : Seg), ownS Gx.encI I t q y ∧ Mem [] w w' [y] ∧ Sat Tryz.f155.ntmps [(0, .slice c d.length f), (3, .slice t I.length q), (4, iv b.2)] a) ?_ ?_
   ·have hm := aj
    rcases gx_bif hm with ⟨C, hm⟩ | ⟨C, hm⟩
    ·refine gT C (GR (wR 3 [(0, .slice c d.length f), (3, .slice h b.1.length g), (4, iv b.2), (26, .slice h b.1.length g), (27, .slice c d.length f), (28, iv b.2)] u ?_))
     obtain ⟨K, H, hm⟩ := gx_bind hm
     refine wV (elemP c (b.2.toNat * 3)) u (eI (k.mem0 l) rfl H) (wV (elemP c (b.2.toNat * 3 + 1)) u (eF 1 (b.2.toNat * 3) 1 (k.mem0 l) H) (wV (iv K.Irq) u (eE false 1 1 (b.2.toNat * 3 + 1) (k.mem0 l) H) ?_))
     obtain ⟨aq, an, hm⟩ := gx_bind hm
     refine WC ((c_s_l1Put u b.1 h g m D K.Irq (l.hasPick [0]) (l.nodupPick [0] (by kernel_rfl)) an).mono ?_)
     rintro e_ av ⟨P, N, au, rfl, al, U⟩
     have W := l.callF' [0] [] (by kernel_rfl) U
     refine ⟨_, rfl, ?_⟩
     refine wR 1 [(0, .slice c d.length f), (3, .slice P aq.length N), (4, iv b.2)] av (WN ?_)
     obtain rfl := HS hm
     exact N_meet fun a ha => ⟨P, N, au, al, W.pk [0], ha.s⟩
    refine gF C (GK ?_)
    obtain rfl := HS hm
    exact N_meet fun a ha => ⟨h, g, m, D, l.pk [0], ha.s⟩
   intro a0 aw ⟨t, q, y, ak, X, ab⟩
   refine N_use ab ?_
   have hm := ae
   refine BN (TN (GR (wR 3 [(0, .slice c d.length f), (3, .slice t I.length q), (4, iv (w64 (b.2 + 1)))] aw (WN ?_))))
   cases hm
   exact N_loop fun a ha => ⟨_, rfl, t, q, y, ak, X.pk [0], ha.s⟩
  refine gF A (XA ?_)
  obtain rfl := HS hm
  obtain rfl := am _ rfl
  exact N_meet fun a ha => ⟨h, g, m, D, j.pk [0], ha.s⟩
 intro a3 ax ⟨o, n, x, ah, Y, ac⟩
 refine N_use ac ?_
 have hm := af
 refine NF (wR 2 [(2, .slice o v.length n)] ax (NC ?_))
 obtain rfl := HS hm
 exact RA [.slice o v.length n] (⟨o, n, x, rfl, ah, Y.pk [0]⟩)
theorem c_s_l1Has (w : World) (b : List Int) (c : Option Addr) (d : Nat) (l : rdS Gx.encI w b c d) (g : Int) {r : Bool} (hm : M.s_l1Has b g = some r) :
  Calls Tryz.prog 131 #[.slice c b.length d, iv g] w fun e w' => e = .returned (.bool r) ∧ Mem [] w w' [] := by
 unfold M.s_l1Has at hm
 refine cE Tryz.func131 ?_
 have M0 := Mem.refl [] w
 refine QA (MW 1 (NB (wR 1 [(0, .slice c b.length d), (1, iv g), (5, iv 0)] w (NO ?_))))
 obtain ⟨z, y, m⟩ := gx_bind hm
 refine G_meet (fun a w' => ∃ (q : Unit), z = .inl q ∧ Mem [] w w' [] ∧ Sat Tryz.f131.ntmps [] a) ?_ ?_
 ·refine GB (G_while (σ := Int) (ρ := (Unit) ⊕ (Bool)) (fun f a w' => Mem [] w w' [] ∧ Sat Tryz.f131.ntmps [(0, .slice c b.length d), (1, iv g), (5, iv f)] a) y (fun a ha => ⟨M0.pk [], ha.s⟩) ?_)
  clear hm
  intro f D hm n B h ⟨i, v⟩
  refine G_use v (QB (wR 4 [(0, .slice c b.length d), (1, iv g), (5, iv f), (9, .bool (decide (f < (b.length : Int))))] h (NO ?_)))
  rcases gx_bif hm with ⟨j, hm⟩ | ⟨j, hm⟩
  ·refine gT j (KD (wR 2 [(0, .slice c b.length d), (1, iv g), (5, iv f), (12, .slice c b.length d), (13, iv f)] h ?_))
   obtain ⟨t, o, hm⟩ := gx_bind hm
   refine wV (elemP c (f.toNat * 1)) h (eI (l.mem0 i) rfl o) (wV (iv t) h (eE false 1 0 (f.toNat * 1) (l.mem0 i) o) (wR 2 [(0, .slice c b.length d), (1, iv g), (5, iv f), (17, .bool (t == g))] h (NO ?_)))
   rcases gx_bif hm with ⟨k, hm⟩ | ⟨k, hm⟩
   ·refine gT k (QA (wR 1 [(4, .bool true)] h (NX ?_)))
    obtain rfl := HS hm
    obtain rfl := n _ rfl
    have hm := m; simp only [Sum.elim_inr] at hm
    refine BR (N_meet_ret (TR ?_))
    obtain rfl := HS hm
    exact RA [.bool true] (⟨rfl, i.pk []⟩)
   refine gF k (KC (wR 3 [(0, .slice c b.length d), (1, iv g), (5, iv (w64 (f + 1)))] h (WN ?_)))
   cases hm
   exact N_loop fun a ha => ⟨_, rfl, i.pk [], ha.s⟩
  refine gF j (XA ?_)
  obtain rfl := HS hm
  obtain rfl := n _ rfl
  exact N_meet fun a ha => ⟨_, rfl, i.pk [], ha.s⟩
 intro C A ⟨q, hout_, u, x⟩
 refine N_use x ?_
 subst hout_
 have hm := m; simp only [Sum.elim_inl] at hm
 refine NF (wR 1 [(4, .bool false)] A (NC ?_))
 obtain rfl := HS hm
 exact RA [.bool false] (⟨rfl, u.pk []⟩)
theorem c_s_l10Level (w : World) (a : Queue) (b : Option Addr) (c : Nat) (h : rdS encSlot w a.Slots b c) (l : Option Addr) (j : Nat) (t : rdS encWaiter w a.Waiting l j) (d : Int) {r : Int} (hm : M.s_l10Level a d = some r) :
  Calls Tryz.prog 156 #[.agg #[.slice b a.Slots.length c, .slice l a.Waiting.length j], iv d] w fun e w' => e = .returned (iv r) ∧ Mem [] w w' [] := by
 unfold M.s_l10Level at hm
 refine cE Tryz.func156 ?_
 have M0 := Mem.refl [] w
 refine QA (wN (.cells ⟨[.slice b a.Slots.length c, .slice l a.Waiting.length j]⟩ 85 (0, 0)) M0 fun f q m => MW 1 (NE (G_quiet (by kernel_rfl) (by kernel_rfl) m (MZ 1 (zV (.slice b a.Slots.length c) (fun w_ M_ => (eL false 1 0 (M_.blk 0 rfl))) (MZ 1 (zV (.slice b a.Slots.length c) (fun w_ M_ => (eL false 1 0 (M_.blk 0 rfl))) (MS 1 [(6, .slice b a.Slots.length c), (8, .slice b a.Slots.length c), (9, iv d)] ?_))))))))
 obtain ⟨g, o, hm⟩ := gx_bind hm
 refine ZC (iv g) (fun w_ M_ => c_s_l8Find w_ a.Slots b c (h.mem0 M_) d o) ?_
 obtain ⟨i, k, hm⟩ := gx_bind hm
 refine zV (elemP b (g.toNat * 3)) (fun w_ M_ => (eI (h.mem0 M_) rfl k)) (zV (elemP b (g.toNat * 3 + 2)) (fun w_ M_ => (eF 2 (g.toNat * 3) 2 (h.mem0 M_) k)) (zV (iv i.Priority) (fun w_ M_ => (eE false 1 2 (g.toNat * 3 + 2) (h.mem0 M_) k)) (MS 1 [(4, iv i.Priority)] (Z_end fun u n => (TN (G_ret ?_))))))
 obtain rfl := HS hm
 exact RA [iv i.Priority] (⟨rfl, n.pk []⟩)
theorem c_s_l10Good (w : World) (b : Interface) (j : Option Addr) (i : Nat) (o : rdS Gx.encI w b.Stack j i) (l : Option Addr) (k : Nat) (y : rdS encSlot w b.Queue.Slots l k) (n : Option Addr) (m : Nat) (G : rdS encWaiter w b.Queue.Waiting n m) {r : Bool} (hm : M.s_l10Good b = some r) :
  Calls Tryz.prog 104 #[.agg #[iv b.Mask, .slice j b.Stack.length i, .slice l b.Queue.Slots.length k, .slice n b.Queue.Waiting.length m]] w fun e w' => e = .returned (.bool r) ∧ Mem [] w w' [] := by
 unfold M.s_l10Good at hm
 refine cE Tryz.func104 ?_
 have M0 := Mem.refl [] w
 refine QA (wN (.cells ⟨[iv b.Mask, .slice j b.Stack.length i, .slice l b.Queue.Slots.length k, .slice n b.Queue.Waiting.length m]⟩ 87 (0, 0)) M0 fun c C Y => wR 1 [(1, pB c 0)] C (NE (GS ?_)))
 obtain ⟨bh, a5, a0⟩ := gx_bind hm
 refine G_meet (fun a w' => Mem [] w w' [[(c, .cells ⟨[iv b.Mask, .slice j b.Stack.length i, .slice l b.Queue.Slots.length k, .slice n b.Queue.Waiting.length m]⟩ 87 (0, 0))]] ∧ Sat Tryz.f104.ntmps [(1, pB c 0), (14, .bool bh)] a) ?_ ?_
 ·have hm := a5
  refine GR (wR 1 [(1, pB c 0), (5, pB c 0)] C (wV (iv b.Mask) C (eL false 1 0 (Y.blk 0 rfl)) ?_))
  obtain ⟨bl, a9, hm⟩ := gx_bind hm
  refine WD (c_s_l1In C b.Mask 0 16 a9) Y fun u t => wR 2 [(1, pB c 0), (9, .bool (!bl))] u ?_
  rcases gx_bif hm with ⟨H, hm⟩ | ⟨H, hm⟩
  ·refine wK 9 true H (wR 5 [(1, pB c 0), (14, .bool true)] u (WN ?_))
   obtain rfl := HS hm
   exact N_meet fun a ha => ⟨t.pk [0], ha.s⟩
  refine wK 9 false H (wR 1 [(1, pB c 0), (9, .bool false), (10, pB c 2)] u (wV (.agg #[.slice l b.Queue.Slots.length k, .slice n b.Queue.Waiting.length m]) u (eL true 2 2 (t.blk 0 rfl)) ?_))
  obtain ⟨bm, ba, hm⟩ := gx_bind hm
  refine WD (c_s_l9Good u b.Queue l k (y.mem0 t) n m (G.mem0 t) ba) t fun bn an => wR 2 [(1, pB c 0), (14, .bool (!bm))] bn (WN ?_)
  obtain rfl := HS hm
  exact N_meet fun a ha => ⟨an.pk [0], ha.s⟩
 intro bp D ⟨x, av⟩
 refine N_use av ?_
 have hm := a0
 refine TN ?_
 rcases gx_bif hm with ⟨I, hm⟩ | ⟨I, hm⟩
 ·refine gT I (QA (wR 1 [(2, .bool false)] D (ND ?_)))
  obtain rfl := HS hm
  exact RA [.bool false] (⟨rfl, x.pk []⟩)
 refine gF I (KA (wR 2 [(1, pB c 0), (16, pB c 2)] D (wV (.slice l b.Queue.Slots.length k) D (eL false 1 2 (x.blk 0 rfl)) ?_)))
 obtain ⟨f, bb, hm⟩ := gx_bind hm
 refine WC ((c_s_l8Active D b.Queue.Slots l k (y.mem0 x) bb).mono ?_)
 rintro e_ ai ⟨h, g, B, rfl, a6, am⟩
 have ao := x.call am
 refine ⟨_, rfl, ?_⟩
 refine MW 1 (NB (wR 1 [(1, pB c 0), (3, .slice h f.length g), (4, iv 0)] ai (NO ?_)))
 obtain ⟨bk, bg, P⟩ := gx_bind hm
 refine G_meet (fun a w' => ∃ (ah : Unit), bk = .inl ah ∧ Mem [] w w' [[(c, .cells ⟨[iv b.Mask, .slice j b.Stack.length i, .slice l b.Queue.Slots.length k, .slice n b.Queue.Waiting.length m]⟩ 87 (0, 0))], B] ∧ Sat Tryz.f104.ntmps [(1, pB c 0), (3, .slice h f.length g)] a) ?_ ?_
 ·refine GB (G_while (σ := Int) (ρ := (Unit) ⊕ (Bool)) (fun d a w' => Mem [] w w' [[(c, .cells ⟨[iv b.Mask, .slice j b.Stack.length i, .slice l b.Queue.Slots.length k, .slice n b.Queue.Waiting.length m]⟩ 87 (0, 0))], B] ∧ Sat Tryz.f104.ntmps [(1, pB c 0), (3, .slice h f.length g), (4, iv d)] a) bg (fun a ha => ⟨ao.pk [0, 1], ha.s⟩) ?_)
  clear hm
  intro d bz hm Q bq S ⟨F, aw⟩
  refine G_use aw (QB (MW 2 (wV (.slice j b.Stack.length i) S (eL false 1 1 (F.blk 0 rfl)) (wR 2 [(1, pB c 0), (3, .slice h f.length g), (4, iv d), (23, .bool (decide (d < (b.Stack.length : Int))))] S (NO ?_)))))
  rcases gx_bif hm with ⟨J, hm⟩ | ⟨J, hm⟩
  ·refine gT J (GK (TN (GS (GB (GS (GS ?_))))))
   obtain ⟨bi, a7, a3⟩ := gx_bind hm
   refine G_meet (fun a w' => Mem [] w w' [[(c, .cells ⟨[iv b.Mask, .slice j b.Stack.length i, .slice l b.Queue.Slots.length k, .slice n b.Queue.Waiting.length m]⟩ 87 (0, 0))], B] ∧ Sat Tryz.f104.ntmps [(1, pB c 0), (3, .slice h f.length g), (4, iv d), (45, .bool bi)] a) ?_ ?_
   ·have hm := a7
    refine G_quiet (by kernel_rfl) (by kernel_rfl) F (MZ 2 (zV (.slice j b.Stack.length i) (fun w_ M_ => (eL false 1 1 (M_.blk 0 rfl))) (MS 1 [(1, pB c 0), (3, .slice h f.length g), (4, iv d), (26, .slice h f.length g), (28, .slice j b.Stack.length i), (29, iv d)] ?_)))
    obtain ⟨U, ac, hm⟩ := gx_bind hm
    refine zV (elemP j (d.toNat * 1)) (fun w_ M_ => (eI (o.mem0 M_) rfl ac)) (zV (iv U) (fun w_ M_ => (eE false 1 0 (d.toNat * 1) (o.mem0 M_) ac)) ?_)
    obtain ⟨z, bc, hm⟩ := gx_bind hm
    refine ZC (.bool z) (fun w_ M_ => c_s_l1Has w_ f h g (a6.r M_ 1) U bc) (MS 2 [(1, pB c 0), (3, .slice h f.length g), (4, iv d), (34, .bool (!z))] ?_)
    rcases gx_bif hm with ⟨K, hm⟩ | ⟨K, hm⟩
    ·refine zK 34 true K (MS 11 [(1, pB c 0), (3, .slice h f.length g), (4, iv d), (45, .bool true)] (Z_end fun bu ap => ?_))
     obtain rfl := HS hm
     exact N_meet fun a ha => ⟨ap.pk [0, 1], ha.s⟩
    refine zK 34 false K (MZ 1 (zV (.slice j b.Stack.length i) (fun w_ M_ => (eL false 1 1 (M_.blk 0 rfl))) (MS 1 [(1, pB c 0), (3, .slice h f.length g), (4, iv d), (34, .bool false), (36, .slice j b.Stack.length i), (37, iv d)] ?_)))
    obtain ⟨v, ag, hm⟩ := gx_bind hm
    refine zV (.slice (subP j (0 : Int).toNat i 1) v.length (i - (0 : Int).toNat)) (fun w_ M_ => (E_slice (E := Gx.encI) _ _ _ _ b.Stack.length 0 d rfl (by kernel_rfl) (Or.inl ⟨rfl, rfl⟩) (Or.inr ⟨_, rfl, by kernel_rfl⟩) (by kernel_rfl) (o.mem0 M_) rfl ag)) (MZ 1 (zV (.slice j b.Stack.length i) (fun w_ M_ => (eL false 1 1 (M_.blk 0 rfl))) (MS 1 [(1, pB c 0), (3, .slice h f.length g), (4, iv d), (34, .bool false), (38, .slice (subP j (0 : Int).toNat i 1) v.length (i - (0 : Int).toNat)), (40, .slice j b.Stack.length i), (41, iv d)] ?_)))
    obtain ⟨V, ad, hm⟩ := gx_bind hm
    refine zV (elemP j (d.toNat * 1)) (fun w_ M_ => (eI (o.mem0 M_) rfl ad)) (zV (iv V) (fun w_ M_ => (eE false 1 0 (d.toNat * 1) (o.mem0 M_) ad)) ?_)
    obtain ⟨R, bd, hm⟩ := gx_bind hm
    refine ZC (.bool R) (fun w_ M_ => c_s_l1Has w_ v (subP j (0 : Int).toNat i 1) (i - (0 : Int).toNat) ((o.mem0 M_).sliceM ag) V bd) (MS 1 [(1, pB c 0), (3, .slice h f.length g), (4, iv d), (45, .bool R)] (Z_end fun bv aq => ?_))
    obtain rfl := HS hm
    exact N_meet fun a ha => ⟨aq.pk [0, 1], ha.s⟩
   intro br bo ⟨Z, ax⟩
   refine N_use ax ?_
   have hm := a3
   refine TN ?_
   rcases gx_bif hm with ⟨L, hm⟩ | ⟨L, hm⟩
   ·refine gT L (QA (wR 1 [(2, .bool false)] bo (ND (BR (TR (TR ?_))))))
    obtain rfl := HS hm
    obtain rfl := Q _ rfl
    have hm := P; simp only [Sum.elim_inr] at hm
    refine BR (N_meet_ret (TR ?_))
    obtain rfl := HS hm
    exact RA [.bool false] (⟨rfl, Z.pk []⟩)
   refine gF L (GK (TN (GS ?_)))
   obtain ⟨bj, a8, a4⟩ := gx_bind hm
   refine G_meet (fun a w' => Mem [] w w' [[(c, .cells ⟨[iv b.Mask, .slice j b.Stack.length i, .slice l b.Queue.Slots.length k, .slice n b.Queue.Waiting.length m]⟩ 87 (0, 0))], B] ∧ Sat Tryz.f104.ntmps [(1, pB c 0), (3, .slice h f.length g), (4, iv d), (67, .bool bj)] a) ?_ ?_
   ·have hm := a8
    refine G_quiet (by kernel_rfl) (by kernel_rfl) Z (MS 3 [(1, pB c 0), (3, .slice h f.length g), (4, iv d), (48, .bool (decide (d > 0)))] ?_)
    rcases gx_bif hm with ⟨N, hm⟩ | ⟨N, hm⟩
    ·refine zK 48 true N (MZ 1 (zV (.agg #[.slice l b.Queue.Slots.length k, .slice n b.Queue.Waiting.length m]) (fun w_ M_ => (eL true 2 2 (M_.blk 0 rfl))) (MZ 1 (zV (.slice j b.Stack.length i) (fun w_ M_ => (eL false 1 1 (M_.blk 0 rfl))) (MS 2 [(1, pB c 0), (3, .slice h f.length g), (4, iv d), (48, .bool true), (50, .agg #[.slice l b.Queue.Slots.length k, .slice n b.Queue.Waiting.length m]), (52, .slice j b.Stack.length i), (54, iv (w64 (d - 1)))] ?_)))))
     obtain ⟨W, ae, hm⟩ := gx_bind hm
     refine zV (elemP j ((w64 (d - 1)).toNat * 1)) (fun w_ M_ => (eI (o.mem0 M_) rfl ae)) (zV (iv W) (fun w_ M_ => (eE false 1 0 ((w64 (d - 1)).toNat * 1) (o.mem0 M_) ae)) ?_)
     obtain ⟨q, be, hm⟩ := gx_bind hm
     refine ZC (iv q) (fun w_ M_ => c_s_l10Level w_ b.Queue l k (y.mem0 M_) n m (G.mem0 M_) W be) (MZ 1 (zV (.agg #[.slice l b.Queue.Slots.length k, .slice n b.Queue.Waiting.length m]) (fun w_ M_ => (eL true 2 2 (M_.blk 0 rfl))) (MZ 1 (zV (.slice j b.Stack.length i) (fun w_ M_ => (eL false 1 1 (M_.blk 0 rfl))) (MS 1 [(1, pB c 0), (3, .slice h f.length g), (4, iv d), (48, .bool true), (57, iv q), (59, .agg #[.slice l b.Queue.Slots.length k, .slice n b.Queue.Waiting.length m]), (61, .slice j b.Stack.length i), (62, iv d)] ?_)))))
     obtain ⟨X, af, hm⟩ := gx_bind hm
     refine zV (elemP j (d.toNat * 1)) (fun w_ M_ => (eI (o.mem0 M_) rfl af)) (zV (iv X) (fun w_ M_ => (eE false 1 0 (d.toNat * 1) (o.mem0 M_) af)) ?_)
     obtain ⟨A, bf, hm⟩ := gx_bind hm
     refine ZC (iv A) (fun w_ M_ => c_s_l10Level w_ b.Queue l k (y.mem0 M_) n m (G.mem0 M_) X bf) (MS 2 [(1, pB c 0), (3, .slice h f.length g), (4, iv d), (67, .bool (decide (q ≤ A)))] (Z_end fun bw ar => ?_))
     obtain rfl := HS hm
     exact N_meet fun a ha => ⟨ar.pk [0, 1], ha.s⟩
    refine zK 48 false N (MS 19 [(1, pB c 0), (3, .slice h f.length g), (4, iv d), (67, .bool false)] (Z_end fun bx au => ?_))
    obtain rfl := HS hm
    exact N_meet fun a ha => ⟨au.pk [0, 1], ha.s⟩
   intro bs aj ⟨aa, ay⟩
   refine N_use ay ?_
   have hm := a4
   refine TN ?_
   rcases gx_bif hm with ⟨O, hm⟩ | ⟨O, hm⟩
   ·refine gT O (QA (wR 1 [(2, .bool false)] aj (NX ?_)))
    obtain rfl := HS hm
    obtain rfl := Q _ rfl
    have hm := P; simp only [Sum.elim_inr] at hm
    refine BR (N_meet_ret (TR ?_))
    obtain rfl := HS hm
    exact RA [.bool false] (⟨rfl, aa.pk []⟩)
   refine gF O (KC (wR 3 [(1, pB c 0), (3, .slice h f.length g), (4, iv (w64 (d + 1)))] aj (WN ?_)))
   cases hm
   exact N_loop fun a ha => ⟨_, rfl, aa.pk [0, 1], ha.s⟩
  refine gF J (XA ?_)
  obtain rfl := HS hm
  obtain rfl := Q _ rfl
  exact N_meet fun a ha => ⟨_, rfl, F.pk [0, 1], ha.s⟩
 intro bt T ⟨ah, hout_, ab, az⟩
 refine N_use az ?_
 subst hout_
 have hm := P; simp only [Sum.elim_inl] at hm
 refine NF (MW 1 (wV (.slice j b.Stack.length i) T (eL false 1 1 (ab.blk 0 rfl)) (wR 5 [(2, .bool ((b.Stack.length : Int) == (f.length : Int)))] T (NC ?_))))
 cases hm
 exact RA [.bool ((b.Stack.length : Int) == (f.length : Int))] (⟨rfl, ab.pk []⟩)
theorem c_s_l21Queue (w : World) (c : List Route) (b : Option Addr) (d : Nat) (n : rdS encRoute w c b d) (j : Queue) (o : Option Addr) (t : Nat) (U : rdS encSlot w j.Slots o t) (q : Option Addr) (u : Nat) (V : rdS encWaiter w j.Waiting q u) (f : Int) {r : Bool} (hm : M.s_l21Queue c j f = some r) :
  Calls Tryz.prog 105 #[.slice b c.length d, .agg #[.slice o j.Slots.length t, .slice q j.Waiting.length u], iv f] w fun e w' => e = .returned (.bool r) ∧ Mem [] w w' [] := by
 unfold M.s_l21Queue at hm
 refine cE Tryz.func105 ?_
 have M0 := Mem.refl [] w
 refine QA (wN (.cells ⟨[.slice o j.Slots.length t, .slice q j.Waiting.length u]⟩ 85 (0, 0)) M0 fun g ae ah => MW 1 (NB (wR 1 [(0, .slice b c.length d), (2, iv f), (4, pB g 0), (7, iv 0)] ae (NO ?_))))
 obtain ⟨bc, a8, W⟩ := gx_bind hm
 refine G_meet (fun a w' => ∃ (ac : Unit), bc = .inl ac ∧ Mem [] w w' [[(g, .cells ⟨[.slice o j.Slots.length t, .slice q j.Waiting.length u]⟩ 85 (0, 0))]] ∧ Sat Tryz.f105.ntmps [(0, .slice b c.length d), (2, iv f), (4, pB g 0)] a) ?_ ?_
 ·refine GB (G_while (σ := Int) (ρ := (Unit) ⊕ (Bool)) (fun i a w' => Mem [] w w' [[(g, .cells ⟨[.slice o j.Slots.length t, .slice q j.Waiting.length u]⟩ 85 (0, 0))]] ∧ Sat Tryz.f105.ntmps [(0, .slice b c.length d), (2, iv f), (4, pB g 0), (7, iv i)] a) a8 (fun a ha => ⟨ah.pk [0], ha.s⟩) ?_)
  clear hm
  intro i bw hm Y bg x ⟨A, aw⟩
  refine G_use aw (QB (MW 2 (wV (.slice o j.Slots.length t) x (eL false 1 0 (A.blk 0 rfl)) (wR 2 [(0, .slice b c.length d), (2, iv f), (4, pB g 0), (7, iv i), (15, .bool (decide (i < (j.Slots.length : Int))))] x (NO ?_)))))
  rcases gx_bif hm with ⟨F, hm⟩ | ⟨F, hm⟩
  ·refine gT F (KD (MW 1 (wV (.slice o j.Slots.length t) x (eL false 1 0 (A.blk 0 rfl)) (wR 1 [(0, .slice b c.length d), (2, iv f), (4, pB g 0), (7, iv i), (19, .slice o j.Slots.length t), (20, iv i)] x ?_))))
   obtain ⟨h, aa, hm⟩ := gx_bind hm
   refine wV (elemP o (i.toNat * 3)) x (eI (U.mem0 A) rfl aa) (wV (.agg #[iv h.State, iv h.Irq, iv h.Priority]) x (eE true 3 0 (i.toNat * 3) (U.mem0 A) aa) (wN (.cells ⟨[iv 0, iv 0, iv 0]⟩ 117 (0, 0)) A fun m bm ai => wS true 3 0 (.agg #[iv h.State, iv h.Irq, iv h.Priority]) 1 [iv h.State, iv h.Irq, iv h.Priority] ai rfl fun bn aj => NE ?_))
   obtain ⟨ba, a6, a4⟩ := gx_bind hm
   refine G_meet (fun a w' => Mem [] w w' [[(g, .cells ⟨[.slice o j.Slots.length t, .slice q j.Waiting.length u]⟩ 85 (0, 0))]] ∧ Sat Tryz.f105.ntmps [(0, .slice b c.length d), (2, iv f), (4, pB g 0), (7, iv i), (51, .bool ba)] a) ?_ ?_
   ·have hm := a6
    refine G_quiet (by kernel_rfl) (by kernel_rfl) aj (MZ 1 (zV (iv h.State) (fun w_ M_ => (eL false 1 0 (M_.blk 1 rfl))) (MS 2 [(0, .slice b c.length d), (2, iv f), (4, pB g 0), (7, iv i), (8, pB m 0), (26, .bool (h.State == 3))] ?_)))
    rcases gx_bif hm with ⟨G, hm⟩ | ⟨G, hm⟩
    ·refine zK 26 true G (MS 25 [(0, .slice b c.length d), (2, iv f), (4, pB g 0), (7, iv i), (51, .bool true)] (Z_end fun bo ak => ?_))
     obtain rfl := HS hm
     exact N_meet fun a ha => ⟨ak.pk [0], ha.s⟩
    refine zK 26 false G (MZ 1 (zV (iv h.State) (fun w_ M_ => (eL false 1 0 (M_.blk 1 rfl))) (MS 2 [(0, .slice b c.length d), (2, iv f), (4, pB g 0), (7, iv i), (8, pB m 0), (26, .bool false), (30, .bool (h.State != 0))] ?_)))
    rcases gx_bif hm with ⟨H, hm⟩ | ⟨H, hm⟩
    ·refine zK 30 true H (MS 2 [(0, .slice b c.length d), (2, iv f), (4, pB g 0), (7, iv i), (8, pB m 0), (26, .bool false), (30, .bool true), (31, .slice b c.length d), (32, pB m 1)] (zV (iv h.Irq) (fun w_ M_ => (eL false 1 1 (M_.blk 1 rfl))) ?_))
     obtain ⟨D, O, hm⟩ := gx_bind hm
     refine zV (elemP b (h.Irq.toNat * 2)) (fun w_ M_ => (eI (n.mem0 M_) rfl O)) (zV (elemP b (h.Irq.toNat * 2 + 1)) (fun w_ M_ => (eF 1 (h.Irq.toNat * 2) 1 (n.mem0 M_) O)) (zV (iv D.Target) (fun w_ M_ => (eE false 1 1 (h.Irq.toNat * 2 + 1) (n.mem0 M_) O)) (MS 3 [(0, .slice b c.length d), (2, iv f), (4, pB g 0), (7, iv i), (8, pB m 0), (26, .bool false), (30, .bool true), (39, .bool (D.Target != f))] ?_)))
     rcases gx_bif hm with ⟨I, hm⟩ | ⟨I, hm⟩
     ·refine zK 39 true I (MS 12 [(0, .slice b c.length d), (2, iv f), (4, pB g 0), (7, iv i), (51, .bool true)] (Z_end fun bp al => ?_))
      obtain rfl := HS hm
      exact N_meet fun a ha => ⟨al.pk [0], ha.s⟩
     refine zK 39 false I (MS 2 [(0, .slice b c.length d), (2, iv f), (4, pB g 0), (7, iv i), (8, pB m 0), (26, .bool false), (30, .bool true), (39, .bool false), (40, .slice b c.length d), (41, pB m 1)] (zV (iv h.Irq) (fun w_ M_ => (eL false 1 1 (M_.blk 1 rfl))) ?_))
     obtain ⟨z, P, hm⟩ := gx_bind hm
     refine zV (elemP b (h.Irq.toNat * 2)) (fun w_ M_ => (eI (n.mem0 M_) rfl P)) (zV (elemP b (h.Irq.toNat * 2 + 0)) (fun w_ M_ => (eF 0 (h.Irq.toNat * 2) 0 (n.mem0 M_) P)) (zV (iv z.Priority) (fun w_ M_ => (eE false 1 0 (h.Irq.toNat * 2 + 0) (n.mem0 M_) P)) (MZ 1 (zV (iv h.Priority) (fun w_ M_ => (eL false 1 2 (M_.blk 1 rfl))) (MS 4 [(0, .slice b c.length d), (2, iv f), (4, pB g 0), (7, iv i), (51, .bool (z.Priority != h.Priority))] (Z_end fun bq am => ?_))))))
     obtain rfl := HS hm
     exact N_meet fun a ha => ⟨am.pk [0], ha.s⟩
    refine zK 30 false H (MS 21 [(0, .slice b c.length d), (2, iv f), (4, pB g 0), (7, iv i), (51, .bool false)] (Z_end fun br an => ?_))
    obtain rfl := HS hm
    exact N_meet fun a ha => ⟨an.pk [0], ha.s⟩
   intro bh af ⟨S, ax⟩
   refine N_use ax ?_
   have hm := a4
   refine TN ?_
   rcases gx_bif hm with ⟨J, hm⟩ | ⟨J, hm⟩
   ·refine gT J (QA (wR 1 [(6, .bool false)] af (NX ?_)))
    obtain rfl := HS hm
    obtain rfl := Y _ rfl
    have hm := W; simp only [Sum.elim_inr] at hm
    refine BR (N_meet_ret (TR ?_))
    obtain rfl := HS hm
    exact RA [.bool false] (⟨rfl, S.pk []⟩)
   refine gF J (KC (wR 3 [(0, .slice b c.length d), (2, iv f), (4, pB g 0), (7, iv (w64 (i + 1)))] af (WN ?_)))
   cases hm
   exact N_loop fun a ha => ⟨_, rfl, S.pk [0], ha.s⟩
  refine gF F (XA ?_)
  obtain rfl := HS hm
  obtain rfl := Y _ rfl
  exact N_meet fun a ha => ⟨_, rfl, A.pk [0], ha.s⟩
 intro bi be ⟨ac, hout_, ao, ay⟩
 refine N_use ay ?_
 subst hout_
 have hm := W; simp only [Sum.elim_inl] at hm
 refine TN (QB (wR 1 [(0, .slice b c.length d), (2, iv f), (4, pB g 0), (9, iv 0)] be (NO ?_)))
 obtain ⟨bd, a9, X⟩ := gx_bind hm
 refine G_meet (fun a w' => ∃ (ad : Unit), bd = .inl ad ∧ Mem [] w w' [] ∧ Sat Tryz.f105.ntmps [] a) ?_ ?_
 ·refine GB (G_while (σ := Int) (ρ := (Unit) ⊕ (Bool)) (fun l a w' => Mem [] w w' [[(g, .cells ⟨[.slice o j.Slots.length t, .slice q j.Waiting.length u]⟩ 85 (0, 0))]] ∧ Sat Tryz.f105.ntmps [(0, .slice b c.length d), (2, iv f), (4, pB g 0), (9, iv l)] a) a9 (fun a ha => ⟨ao.pk [0], ha.s⟩) ?_)
  clear hm
  intro l bx hm Z bj y ⟨B, az⟩
  refine G_use az (QB (MW 2 (wV (.slice q j.Waiting.length u) y (eL false 1 1 (B.blk 0 rfl)) (wR 2 [(0, .slice b c.length d), (2, iv f), (4, pB g 0), (9, iv l), (56, .bool (decide (l < (j.Waiting.length : Int))))] y (NO ?_)))))
  rcases gx_bif hm with ⟨K, hm⟩ | ⟨K, hm⟩
  ·refine gT K (KD (MW 1 (wV (.slice q j.Waiting.length u) y (eL false 1 1 (B.blk 0 rfl)) (wR 1 [(0, .slice b c.length d), (2, iv f), (4, pB g 0), (9, iv l), (60, .slice q j.Waiting.length u), (61, iv l)] y ?_))))
   obtain ⟨k, ab, hm⟩ := gx_bind hm
   refine wV (elemP q (l.toNat * 2)) y (eI (V.mem0 B) rfl ab) (wV (.agg #[iv k.Irq, iv k.Priority]) y (eE true 2 0 (l.toNat * 2) (V.mem0 B) ab) (wN (.cells ⟨[iv 0, iv 0]⟩ 142 (0, 0)) B fun v bs ap => wS true 2 0 (.agg #[iv k.Irq, iv k.Priority]) 1 [iv k.Irq, iv k.Priority] ap rfl fun bt aq => NE ?_))
   obtain ⟨bb, a7, a5⟩ := gx_bind hm
   refine G_meet (fun a w' => Mem [] w w' [[(g, .cells ⟨[.slice o j.Slots.length t, .slice q j.Waiting.length u]⟩ 85 (0, 0))]] ∧ Sat Tryz.f105.ntmps [(0, .slice b c.length d), (2, iv f), (4, pB g 0), (9, iv l), (82, .bool bb)] a) ?_ ?_
   ·have hm := a7
    refine G_quiet (by kernel_rfl) (by kernel_rfl) aq (MS 2 [(0, .slice b c.length d), (2, iv f), (4, pB g 0), (9, iv l), (10, pB v 0), (64, .slice b c.length d), (65, pB v 0)] (zV (iv k.Irq) (fun w_ M_ => (eL false 1 0 (M_.blk 1 rfl))) ?_))
    obtain ⟨E, Q, hm⟩ := gx_bind hm
    refine zV (elemP b (k.Irq.toNat * 2)) (fun w_ M_ => (eI (n.mem0 M_) rfl Q)) (zV (elemP b (k.Irq.toNat * 2 + 1)) (fun w_ M_ => (eF 1 (k.Irq.toNat * 2) 1 (n.mem0 M_) Q)) (zV (iv E.Target) (fun w_ M_ => (eE false 1 1 (k.Irq.toNat * 2 + 1) (n.mem0 M_) Q)) (MS 3 [(0, .slice b c.length d), (2, iv f), (4, pB g 0), (9, iv l), (10, pB v 0), (72, .bool (E.Target != f))] ?_)))
    rcases gx_bif hm with ⟨L, hm⟩ | ⟨L, hm⟩
    ·refine zK 72 true L (MS 10 [(0, .slice b c.length d), (2, iv f), (4, pB g 0), (9, iv l), (82, .bool true)] (Z_end fun bu ar => ?_))
     obtain rfl := HS hm
     exact N_meet fun a ha => ⟨ar.pk [0], ha.s⟩
    refine zK 72 false L (MS 2 [(0, .slice b c.length d), (2, iv f), (4, pB g 0), (9, iv l), (10, pB v 0), (72, .bool false), (73, .slice b c.length d), (74, pB v 0)] (zV (iv k.Irq) (fun w_ M_ => (eL false 1 0 (M_.blk 1 rfl))) ?_))
    obtain ⟨C, R, hm⟩ := gx_bind hm
    refine zV (elemP b (k.Irq.toNat * 2)) (fun w_ M_ => (eI (n.mem0 M_) rfl R)) (zV (elemP b (k.Irq.toNat * 2 + 0)) (fun w_ M_ => (eF 0 (k.Irq.toNat * 2) 0 (n.mem0 M_) R)) (zV (iv C.Priority) (fun w_ M_ => (eE false 1 0 (k.Irq.toNat * 2 + 0) (n.mem0 M_) R)) (MZ 1 (zV (iv k.Priority) (fun w_ M_ => (eL false 1 1 (M_.blk 1 rfl))) (MS 2 [(0, .slice b c.length d), (2, iv f), (4, pB g 0), (9, iv l), (82, .bool (C.Priority != k.Priority))] (Z_end fun bv au => ?_))))))
    obtain rfl := HS hm
    exact N_meet fun a ha => ⟨au.pk [0], ha.s⟩
   intro bk ag ⟨T, a0⟩
   refine N_use a0 ?_
   have hm := a5
   refine TN ?_
   rcases gx_bif hm with ⟨N, hm⟩ | ⟨N, hm⟩
   ·refine gT N (QA (wR 1 [(6, .bool false)] ag (NX ?_)))
    obtain rfl := HS hm
    obtain rfl := Z _ rfl
    have hm := X; simp only [Sum.elim_inr] at hm
    refine BR (N_meet_ret (TR ?_))
    obtain rfl := HS hm
    exact RA [.bool false] (⟨rfl, T.pk []⟩)
   refine gF N (KC (wR 3 [(0, .slice b c.length d), (2, iv f), (4, pB g 0), (9, iv (w64 (l + 1)))] ag (WN ?_)))
   cases hm
   exact N_loop fun a ha => ⟨_, rfl, T.pk [0], ha.s⟩
  refine gF K (XA ?_)
  obtain rfl := HS hm
  obtain rfl := Z _ rfl
  exact N_meet fun a ha => ⟨_, rfl, B.pk [], ha.s⟩
 intro bl bf ⟨ad, hout_, av, a3⟩
 refine N_use a3 ?_
 subst hout_
 have hm := X; simp only [Sum.elim_inl] at hm
 refine NF (wR 1 [(6, .bool true)] bf (NC ?_))
 obtain rfl := HS hm
 exact RA [.bool true] (⟨rfl, av.pk []⟩)
theorem c_s_l21Good (w : World) (b : Machine) (i : Option Addr) (h : Nat) (R : rdS encRoute w b.Routes i h) (t : Option Addr) (o : Nat) (a3 : rdS Gx.encB w b.Enabled t o) (u : Option Addr) (q : Nat) (a4 : rdS Gx.encB w b.Raised u q) (j : Option Addr) (l : Nat) (ab : rdD deepInterface w b.Cpus j l) {r : Bool} (hm : M.s_l21Good b = some r) :
  Calls Tryz.prog 54 #[.agg #[.slice i b.Routes.length h, .slice t b.Enabled.length o, .slice u b.Raised.length q, .slice j b.Cpus.length l]] w fun e w' => e = .returned (.bool r) ∧ Mem [] w w' [] := by
 unfold M.s_l21Good at hm
 refine cE Tryz.func54 ?_
 have M0 := Mem.refl [] w
 refine QA (wN (.cells ⟨[.slice i b.Routes.length h, .slice t b.Enabled.length o, .slice u b.Raised.length q, .slice j b.Cpus.length l]⟩ 32 (0, 0)) M0 fun c v C => wR 1 [(1, pB c 0)] v (NE (GS ?_)))
 obtain ⟨aq, ai, ag⟩ := gx_bind hm
 refine G_meet (fun a w' => Mem [] w w' [[(c, .cells ⟨[.slice i b.Routes.length h, .slice t b.Enabled.length o, .slice u b.Raised.length q, .slice j b.Cpus.length l]⟩ 32 (0, 0))]] ∧ Sat Tryz.f54.ntmps [(1, pB c 0), (22, .bool aq)] a) ?_ ?_
 ·have hm := ai
  refine GR (MW 1 (wV (.slice i b.Routes.length h) v (eL false 1 0 (C.blk 0 rfl)) (MW 1 (wV (.slice j b.Cpus.length l) v (eL false 1 3 (C.blk 0 rfl)) (wR 1 [(1, pB c 0), (5, .slice i b.Routes.length h), (8, iv (b.Cpus.length : Int))] v ?_)))))
  obtain ⟨av, ak, hm⟩ := gx_bind hm
  refine WD (c_s_l21Routes v b.Routes i h (R.mem0 C) (b.Cpus.length : Int) ak) C fun n x => wR 2 [(1, pB c 0), (11, .bool (!av))] n ?_
  rcases gx_bif hm with ⟨H, hm⟩ | ⟨H, hm⟩
  ·refine wK 11 true H (wR 11 [(1, pB c 0), (22, .bool true)] n (WN ?_))
   obtain rfl := HS hm
   exact N_meet fun a ha => ⟨x.pk [0], ha.s⟩
  refine wK 11 false H (MW 1 (wV (.slice t b.Enabled.length o) n (eL false 1 1 (x.blk 0 rfl)) (wR 4 [(1, pB c 0), (17, .bool ((b.Enabled.length : Int) != 8))] n ?_)))
  rcases gx_bif hm with ⟨I, hm⟩ | ⟨I, hm⟩
  ·refine wK 17 true I (wR 5 [(1, pB c 0), (22, .bool true)] n (WN ?_))
   obtain rfl := HS hm
   exact N_meet fun a ha => ⟨x.pk [0], ha.s⟩
  refine wK 17 false I (MW 1 (wV (.slice u b.Raised.length q) n (eL false 1 2 (x.blk 0 rfl)) (wR 3 [(1, pB c 0), (22, .bool ((b.Raised.length : Int) != 8))] n (WN ?_))))
  obtain rfl := HS hm
  exact N_meet fun a ha => ⟨x.pk [0], ha.s⟩
 intro ax V ⟨P, ac⟩
 refine N_use ac ?_
 have hm := ag
 refine TN ?_
 rcases gx_bif hm with ⟨J, hm⟩ | ⟨J, hm⟩
 ·refine gT J (QA (wR 1 [(2, .bool false)] V (ND ?_)))
  obtain rfl := HS hm
  exact RA [.bool false] (⟨rfl, P.pk []⟩)
 refine gF J (KB (wR 1 [(1, pB c 0), (3, iv 0)] V (NO ?_)))
 obtain ⟨au, an, S⟩ := gx_bind hm
 refine G_meet (fun a w' => ∃ (U : Unit), au = .inl U ∧ Mem [] w w' [] ∧ Sat Tryz.f54.ntmps [] a) ?_ ?_
 ·refine GB (G_while (σ := Int) (ρ := (Unit) ⊕ (Bool)) (fun d a w' => Mem [] w w' [[(c, .cells ⟨[.slice i b.Routes.length h, .slice t b.Enabled.length o, .slice u b.Raised.length q, .slice j b.Cpus.length l]⟩ 32 (0, 0))]] ∧ Sat Tryz.f54.ntmps [(1, pB c 0), (3, iv d)] a) an (fun a ha => ⟨P.pk [0], ha.s⟩) ?_)
  clear hm
  intro d a7 hm T ay O ⟨G, ad⟩
  refine G_use ad (QB (MW 2 (wV (.slice j b.Cpus.length l) O (eL false 1 3 (G.blk 0 rfl)) (wR 2 [(1, pB c 0), (3, iv d), (27, .bool (decide (d < (b.Cpus.length : Int))))] O (NO ?_)))))
  rcases gx_bif hm with ⟨K, hm⟩ | ⟨K, hm⟩
  ·refine gT K (GK (TN (GS (GB (GS ?_)))))
   obtain ⟨ar, aj, ah⟩ := gx_bind hm
   refine G_meet (fun a w' => Mem [] w w' [[(c, .cells ⟨[.slice i b.Routes.length h, .slice t b.Enabled.length o, .slice u b.Raised.length q, .slice j b.Cpus.length l]⟩ 32 (0, 0))]] ∧ Sat Tryz.f54.ntmps [(1, pB c 0), (3, iv d), (49, .bool ar)] a) ?_ ?_
   ·have hm := aj
    refine G_quiet (by kernel_rfl) (by kernel_rfl) G (MZ 1 (zV (.slice j b.Cpus.length l) (fun w_ M_ => (eL false 1 3 (M_.blk 0 rfl))) (MS 1 [(1, pB c 0), (3, iv d), (31, .slice j b.Cpus.length l), (32, iv d)] ?_)))
    obtain ⟨k, ao, hm⟩ := gx_bind hm
    obtain ⟨a8, D, B, A⟩ := id ab
    obtain ⟨f, y⟩ := gxIdx_fst D ao
    refine zV (elemP j (d.toNat * 4)) (fun w_ M_ => (eI (B.mem0 M_) (len_fst D) y)) (zV (.agg #[iv k.Mask, .slice ((f 0).1) k.Stack.length ((f 0).2), .slice ((f 1).1) k.Queue.Slots.length ((f 1).2), .slice ((f 2).1) k.Queue.Waiting.length ((f 2).2)]) (fun w_ M_ => (eE true 4 0 (d.toNat * 4) (B.mem0 M_) y)) ?_)
    obtain ⟨E, al, hm⟩ := gx_bind hm
    refine ZC (.bool E) (fun w_ M_ => c_s_l10Good w_ k ((f 0).1) ((f 0).2) ((A.mem0 M_).at_ y 0 ⟨Int, Gx.encI, k.Stack, (f 0).1, (f 0).2⟩ (by kernel_rfl)) ((f 1).1) ((f 1).2) ((A.mem0 M_).at_ y 1 ⟨Slot, encSlot, k.Queue.Slots, (f 1).1, (f 1).2⟩ (by kernel_rfl)) ((f 2).1) ((f 2).2) ((A.mem0 M_).at_ y 2 ⟨Waiter, encWaiter, k.Queue.Waiting, (f 2).1, (f 2).2⟩ (by kernel_rfl)) al) (MS 2 [(1, pB c 0), (3, iv d), (37, .bool (!E))] ?_)
    rcases gx_bif hm with ⟨L, hm⟩ | ⟨L, hm⟩
    ·refine zK 37 true L (MS 12 [(1, pB c 0), (3, iv d), (49, .bool true)] (Z_end fun a5 Y => ?_))
     obtain rfl := HS hm
     exact N_meet fun a ha => ⟨Y.pk [0], ha.s⟩
    refine zK 37 false L (MZ 1 (zV (.slice i b.Routes.length h) (fun w_ M_ => (eL false 1 0 (M_.blk 0 rfl))) (MZ 1 (zV (.slice j b.Cpus.length l) (fun w_ M_ => (eL false 1 3 (M_.blk 0 rfl))) (MS 1 [(1, pB c 0), (3, iv d), (37, .bool false), (39, .slice i b.Routes.length h), (41, .slice j b.Cpus.length l), (42, iv d)] ?_)))))
    obtain ⟨m, ap, hm⟩ := gx_bind hm
    obtain ⟨g, z⟩ := gxIdx_fst D ap
    refine zV (elemP j (d.toNat * 4)) (fun w_ M_ => (eI (B.mem0 M_) (len_fst D) z)) (zV (elemP j (d.toNat * 4 + 2)) (fun w_ M_ => (eF 2 (d.toNat * 4) 2 (B.mem0 M_) z)) (zV (.agg #[.slice ((g 1).1) m.Queue.Slots.length ((g 1).2), .slice ((g 2).1) m.Queue.Waiting.length ((g 2).2)]) (fun w_ M_ => (eE true 2 2 (d.toNat * 4 + 2) (B.mem0 M_) z)) (MS 1 [(1, pB c 0), (3, iv d), (37, .bool false), (39, .slice i b.Routes.length h), (45, .agg #[.slice ((g 1).1) m.Queue.Slots.length ((g 1).2), .slice ((g 2).1) m.Queue.Waiting.length ((g 2).2)]), (46, iv d)] ?_)))
    obtain ⟨F, am, hm⟩ := gx_bind hm
    refine ZC (.bool F) (fun w_ M_ => c_s_l21Queue w_ b.Routes i h (R.mem0 M_) m.Queue ((g 1).1) ((g 1).2) ((A.mem0 M_).at_ z 1 ⟨Slot, encSlot, m.Queue.Slots, (g 1).1, (g 1).2⟩ (by kernel_rfl)) ((g 2).1) ((g 2).2) ((A.mem0 M_).at_ z 2 ⟨Waiter, encWaiter, m.Queue.Waiting, (g 2).1, (g 2).2⟩ (by kernel_rfl)) d am) (MS 2 [(1, pB c 0), (3, iv d), (49, .bool (!F))] (Z_end fun a6 Z => ?_))
    obtain rfl := HS hm
    exact N_meet fun a ha => ⟨Z.pk [0], ha.s⟩
   intro az W ⟨Q, ae⟩
   refine N_use ae ?_
   have hm := ah
   refine TN ?_
   rcases gx_bif hm with ⟨N, hm⟩ | ⟨N, hm⟩
   ·refine gT N (QA (wR 1 [(2, .bool false)] W (NX ?_)))
    obtain rfl := HS hm
    obtain rfl := T _ rfl
    have hm := S; simp only [Sum.elim_inr] at hm
    refine BR (N_meet_ret (TR ?_))
    obtain rfl := HS hm
    exact RA [.bool false] (⟨rfl, Q.pk []⟩)
   refine gF N (KC (wR 3 [(1, pB c 0), (3, iv (w64 (d + 1)))] W (WN ?_)))
   cases hm
   exact N_loop fun a ha => ⟨_, rfl, Q.pk [0], ha.s⟩
  refine gF K (XA ?_)
  obtain rfl := HS hm
  obtain rfl := T _ rfl
  exact N_meet fun a ha => ⟨_, rfl, G.pk [], ha.s⟩
 intro a0 aw ⟨U, hout_, aa, af⟩
 refine N_use af ?_
 subst hout_
 have hm := S; simp only [Sum.elim_inl] at hm
 refine NF (wR 1 [(2, .bool true)] aw (NC ?_))
 obtain rfl := HS hm
 exact RA [.bool true] (⟨rfl, aa.pk []⟩)
theorem c_i_inside (w : World) (b : Int) (d : Int) (c : Int) {r : Bool} (hm : M.i_inside b d c = some r) :
  Calls Tryz.prog 108 #[iv b, iv d, iv c] w fun e w' => e = .returned (.bool r) ∧ Mem [] w w' [] := by
 unfold M.i_inside at hm
 refine cE Tryz.func108 ?_
 have M0 := Mem.refl [] w
 refine QA (wR 1 [(0, iv b), (1, iv d), (2, iv c)] w (NE ?_))
 obtain ⟨g, k, j⟩ := gx_bind hm
 refine G_meet (fun a w' => Mem [] w w' [] ∧ Sat Tryz.f108.ntmps [(6, .bool g)] a) ?_ ?_
 ·have hm := k
  refine GR (wR 4 [(0, iv b), (2, iv c), (10, .bool (decide (b ≥ d)))] w ?_)
  rcases gx_bif hm with ⟨f, hm⟩ | ⟨f, hm⟩
  ·refine wK 10 true f (wR 5 [(6, .bool (decide (b ≤ c)))] w (WN ?_))
   obtain rfl := HS hm
   exact N_meet fun a ha => ⟨M0.pk [], ha.s⟩
  refine wK 10 false f (wR 5 [(6, .bool false)] w (WN ?_))
  obtain rfl := HS hm
  exact N_meet fun a ha => ⟨M0.pk [], ha.s⟩
 intro l m ⟨h, i⟩
 refine N_use i ?_
 have hm := j
 refine TN (G_ret ?_)
 obtain rfl := HS hm
 exact RA [.bool g] (⟨rfl, h.pk []⟩)
theorem c_i_isPriority (w : World) (a : Int) {r : Bool} (hm : M.i_isPriority a = some r) :
  Calls Tryz.prog 111 #[iv a] w fun e w' => e = .returned (.bool r) ∧ Mem [] w w' [] := by
 unfold M.i_isPriority at hm
 refine cE Tryz.func111 ?_
 have M0 := Mem.refl [] w
 refine QA (MW 1 (NA (wR 1 [(3, iv a)] w ?_)))
 obtain ⟨b, f, hm⟩ := gx_bind hm
 refine WD (c_i_inside w a 0 15 f) M0 fun g d => wR 1 [(2, .bool b)] g (NC ?_)
 obtain rfl := HS hm
 exact RA [.bool b] (⟨rfl, d.pk []⟩)
theorem c_i_areRoutes_1 (w : World) (b : Route) (f : Int) (d : Nat) (u : w.heap[d]? = some (.cells ⟨[iv f]⟩ 3 (0, 0))) {r : Bool} (hm : M.i_areRoutes_1 b f = some r) :
  Calls Tryz.prog 110 #[.agg #[iv b.Priority, iv b.Target], pB d 0] w fun e w' => e = .returned (.bool r) ∧ Mem [] w w' [] := by
 unfold M.i_areRoutes_1 at hm
 refine cE Tryz.func110 ?_
 have M0 := Mem.refl [] w
 refine QA (wN (.cells ⟨[iv b.Priority, iv b.Target]⟩ 129 (0, 0)) M0 fun g i k => wR 1 [(1, pB d 0), (2, pB g 0)] i (NE ?_))
 obtain ⟨l, x, v⟩ := gx_bind hm
 refine G_meet (fun a w' => Mem [] w w' [] ∧ Sat Tryz.f110.ntmps [(3, .bool l)] a) ?_ ?_
 ·have hm := x
  refine GR (wR 1 [(1, pB d 0), (2, pB g 0), (4, pB g 0)] i (wV (iv b.Priority) i (eL false 1 0 (k.blk 0 rfl)) ?_))
  obtain ⟨A, y, hm⟩ := gx_bind hm
  refine WD (c_i_isPriority i b.Priority y) k fun c h => wR 2 [(1, pB d 0), (2, pB g 0), (8, .bool (!A))] c ?_
  rcases gx_bif hm with ⟨j, hm⟩ | ⟨j, hm⟩
  ·refine wK 8 true j (wR 8 [(3, .bool true)] c (WN ?_))
   obtain rfl := HS hm
   exact N_meet fun a ha => ⟨h.pk [], ha.s⟩
  refine wK 8 false j (MW 1 (wV (iv b.Target) c (eL false 1 1 (h.blk 0 rfl)) (wV (iv f) c (eL false 1 0 (h.ro u)) (wR 1 [(8, .bool false), (10, iv b.Target), (12, iv (w64 (f - 1)))] c ?_))))
  obtain ⟨B, z, hm⟩ := gx_bind hm
  refine WD (c_i_inside c b.Target 0 (w64 (f - 1)) z) h fun C o => wR 3 [(3, .bool (!B))] C (WN ?_)
  obtain rfl := HS hm
  exact N_meet fun a ha => ⟨o.pk [], ha.s⟩
 intro D E ⟨q, t⟩
 refine N_use t ?_
 have hm := v
 refine TN (G_ret ?_)
 obtain rfl := HS hm
 exact RA [.bool l] (⟨rfl, q.pk []⟩)
theorem c_slices_IndexFunc_159__i_areRoutes_1 (w : World) (b : List Route) (f : Option Addr) (g : Nat) (o : rdS encRoute w b f g) (m : Int) (d : Nat) (C : w.heap[d]? = some (.cells ⟨[iv m]⟩ 3 (0, 0))) {r : Int} (hm : M.slices_IndexFunc_159__i_areRoutes_1 b m = some r) :
  Calls Tryz.prog 159 #[.slice f b.length g, .func (.func 110) #[] #[pB d 0]] w fun e w' => e = .returned (iv r) ∧ Mem [] w w' [] := by
 unfold M.slices_IndexFunc_159__i_areRoutes_1 at hm
 refine cE Tryz.func159 ?_
 have M0 := Mem.refl [] w
 refine QA (MW 1 (NB (wR 3 [(0, .slice f b.length g), (1, .func (.func 110) #[] #[pB d 0]), (7, iv (b.length : Int)), (8, iv 0)] w (NO ?_))))
 obtain ⟨F, E, q⟩ := gx_bind hm
 refine G_meet (fun a w' => ∃ (v : Unit), F = .inl v ∧ Mem [] w w' [] ∧ Sat Tryz.f159.ntmps [] a) ?_ ?_
 ·refine GB (G_while (σ := Int) (ρ := (Unit) ⊕ (Int)) (fun c a w' => Mem [] w w' [] ∧ Sat Tryz.f159.ntmps [(0, .slice f b.length g), (1, .func (.func 110) #[] #[pB d 0]), (7, iv (b.length : Int)), (8, iv c)] a) E (fun a ha => ⟨M0.pk [], ha.s⟩) ?_)
  clear hm
  intro c K hm t H h ⟨i, A⟩
  refine G_use A (QA (wR 1 [(0, .slice f b.length g), (1, .func (.func 110) #[] #[pB d 0]), (7, iv (b.length : Int)), (8, iv c), (9, .bool (decide (c < (b.length : Int))))] h (NE ?_)))
  rcases gx_bif hm with ⟨k, hm⟩ | ⟨k, hm⟩
  ·refine gT k (KD (MW 2 (NA (wR 3 [(0, .slice f b.length g), (1, .func (.func 110) #[] #[pB d 0]), (5, iv c), (7, iv (b.length : Int)), (8, iv c), (11, .func (.func 110) #[] #[pB d 0]), (12, .slice f b.length g), (13, iv c)] h ?_))))
   obtain ⟨j, u, hm⟩ := gx_bind hm
   refine wV (elemP f (c.toNat * 2)) h (eI (o.mem0 i) rfl u) (wV (.agg #[iv j.Priority, iv j.Target]) h (eE true 2 0 (c.toNat * 2) (o.mem0 i) u) ?_)
   obtain ⟨J, D, hm⟩ := gx_bind hm
   refine WD (c_i_areRoutes_1 h j m d (i.ro C) D) i fun x n => NO ?_
   rcases gx_bif hm with ⟨l, hm⟩ | ⟨l, hm⟩
   ·refine gT l (QA (wR 2 [(4, iv c)] x (NX ?_)))
    obtain rfl := HS hm
    obtain rfl := t _ rfl
    have hm := q; simp only [Sum.elim_inr] at hm
    refine BR (N_meet_ret (TR ?_))
    obtain rfl := HS hm
    exact RA [iv c] (⟨rfl, n.pk []⟩)
   refine gF l (KC (wR 2 [(0, .slice f b.length g), (1, .func (.func 110) #[] #[pB d 0]), (7, iv (b.length : Int)), (8, iv (w64 (c + 1)))] x (WN ?_)))
   cases hm
   exact N_loop fun a ha => ⟨_, rfl, n.pk [], ha.s⟩
  refine gF k (XA ?_)
  obtain rfl := HS hm
  obtain rfl := t _ rfl
  exact N_meet fun a ha => ⟨_, rfl, i.pk [], ha.s⟩
 intro I G ⟨v, hout_, z, B⟩
 refine N_use B ?_
 subst hout_
 have hm := q; simp only [Sum.elim_inl] at hm
 refine NF (wR 1 [(4, iv (-1))] G (NC ?_))
 cases hm
 exact RA [iv (-1)] (⟨rfl, z.pk []⟩)
theorem c_slices_ContainsFunc_109__i_areRoutes_1 (w : World) (a : List Route) (d : Option Addr) (c : Nat) (j : rdS encRoute w a d c) (f : Int) (b : Nat) (k : w.heap[b]? = some (.cells ⟨[iv f]⟩ 3 (0, 0))) {r : Bool} (hm : M.slices_ContainsFunc_109__i_areRoutes_1 a f = some r) :
  Calls Tryz.prog 109 #[.slice d a.length c, .func (.func 110) #[] #[pB b 0]] w fun e w' => e = .returned (.bool r) ∧ Mem [] w w' [] := by
 unfold M.slices_ContainsFunc_109__i_areRoutes_1 at hm
 refine cE Tryz.func109 ?_
 have M0 := Mem.refl [] w
 refine QA (MW 1 (NA (wR 2 [(5, .slice d a.length c), (6, .func (.func 110) #[] #[pB b 0])] w ?_)))
 obtain ⟨g, l, hm⟩ := gx_bind hm
 refine WD (c_slices_IndexFunc_159__i_areRoutes_1 w a d c (j.mem0 M0) f b (M0.ro k) l) M0 fun m i => wR 2 [(4, .bool (decide (g ≥ 0)))] m (NC ?_)
 cases hm
 exact RA [.bool (decide (g ≥ 0))] (⟨rfl, i.pk []⟩)
theorem c_i_areRoutes (w : World) (c : List Route) (f : Option Addr) (d : Nat) (y : rdS encRoute w c f d) (g : Int) {r : Bool} (hm : M.i_areRoutes c g = some r) :
  Calls Tryz.prog 58 #[.slice f c.length d, iv g] w fun e w' => e = .returned (.bool r) ∧ Mem [] w w' [] := by
 unfold M.i_areRoutes at hm
 refine cE Tryz.func58 ?_
 have M0 := Mem.refl [] w
 refine QA (wN (.cells ⟨[iv g]⟩ 3 (0, 0)) M0 fun h m n => wR 1 [(0, .slice f c.length d), (3, pB h 0)] m (NE ?_))
 obtain ⟨q, B, A⟩ := gx_bind hm
 refine G_meet (fun a w' => Mem [] w w' [] ∧ Sat Tryz.f58.ntmps [(4, .bool q)] a) ?_ ?_
 ·have hm := B
  refine GR (wV (iv g) m (eL false 1 0 (n.blk 0 rfl)) ?_)
  obtain ⟨E, C, hm⟩ := gx_bind hm
  refine WD (c_i_inside m g 1 2 C) n fun i j => wR 1 [(0, .slice f c.length d), (3, pB h 0), (7, .bool E)] i ?_
  rcases gx_bif hm with ⟨k, hm⟩ | ⟨k, hm⟩
  ·refine wK 7 true k (wR 5 [(0, .slice f c.length d), (3, pB h 0), (12, .bool ((c.length : Int) == 8))] i ?_)
   rcases gx_bif hm with ⟨l, hm⟩ | ⟨l, hm⟩
   ·refine wK 12 true l (wR 2 [(12, .bool true), (13, .slice f c.length d), (14, .func (.func 110) #[] #[pB h 0])] i ?_)
    obtain ⟨F, D, hm⟩ := gx_bind hm
    refine WD (c_slices_ContainsFunc_109__i_areRoutes_1 i c f d (y.mem0 j) g h (j.blk 0 (b := h) (o := .cells ⟨[iv g]⟩ 3 (0, 0)) (by kernel_rfl)) D) j fun G v => wR 3 [(4, .bool (!F))] G (WN ?_)
    obtain rfl := HS hm
    exact N_meet fun a ha => ⟨v.pk [], ha.s⟩
   refine wK 12 false l (wR 6 [(4, .bool false)] i (WN ?_))
   obtain rfl := HS hm
   exact N_meet fun a ha => ⟨j.pk [], ha.s⟩
  refine wK 7 false k (wR 11 [(4, .bool false)] i (WN ?_))
  obtain rfl := HS hm
  exact N_meet fun a ha => ⟨j.pk [], ha.s⟩
 intro H I ⟨x, z⟩
 refine N_use z ?_
 have hm := A
 refine TN (G_ret ?_)
 obtain rfl := HS hm
 exact RA [.bool q] (⟨rfl, x.pk []⟩)
theorem c_i_isMask (w : World) (a : Int) {r : Bool} (hm : M.i_isMask a = some r) :
  Calls Tryz.prog 112 #[iv a] w fun e w' => e = .returned (.bool r) ∧ Mem [] w w' [] := by
 unfold M.i_isMask at hm
 refine cE Tryz.func112 ?_
 have M0 := Mem.refl [] w
 refine QA (MW 1 (NA (wR 1 [(3, iv a)] w ?_)))
 obtain ⟨b, f, hm⟩ := gx_bind hm
 refine WD (c_i_inside w a 0 16 f) M0 fun g d => wR 1 [(2, .bool b)] g (NC ?_)
 obtain rfl := HS hm
 exact RA [.bool b] (⟨rfl, d.pk []⟩)
theorem c_i_isIrq (w : World) (a : Int) {r : Bool} (hm : M.i_isIrq a = some r) :
  Calls Tryz.prog 144 #[iv a] w fun e w' => e = .returned (.bool r) ∧ Mem [] w w' [] := by
 unfold M.i_isIrq at hm
 refine cE Tryz.func144 ?_
 have M0 := Mem.refl [] w
 refine QA (MW 1 (NA (wR 1 [(3, iv a)] w ?_)))
 obtain ⟨b, f, hm⟩ := gx_bind hm
 refine WD (c_i_inside w a 0 7 f) M0 fun g d => wR 1 [(2, .bool b)] g (NC ?_)
 obtain rfl := HS hm
 exact RA [.bool b] (⟨rfl, d.pk []⟩)
theorem c_i_findSlot_1 (w : World) (b : Slot) (h : Int) (d : Nat) (m : w.heap[d]? = some (.cells ⟨[iv h]⟩ 3 (0, 0))) {r : Bool} (hm : M.i_findSlot_1 b h = some r) :
  Calls Tryz.prog 211 #[.agg #[iv b.State, iv b.Irq, iv b.Priority], pB d 0] w fun e w' => e = .returned (.bool r) ∧ Mem [] w w' [] := by
 unfold M.i_findSlot_1 at hm
 refine cE Tryz.func211 ?_
 have M0 := Mem.refl [] w
 refine QA (wN (.cells ⟨[iv b.State, iv b.Irq, iv b.Priority]⟩ 117 (0, 0)) M0 fun g c f => wR 1 [(1, pB d 0), (2, pB g 0)] c (NE ?_))
 obtain ⟨j, o, n⟩ := gx_bind hm
 refine G_meet (fun a w' => Mem [] w w' [] ∧ Sat Tryz.f211.ntmps [(3, .bool j)] a) ?_ ?_
 ·have hm := o
  refine GR (MW 1 (wV (iv b.State) c (eL false 1 0 (f.blk 0 rfl)) (wR 2 [(1, pB d 0), (2, pB g 0), (7, .bool (b.State != 0))] c ?_)))
  rcases gx_bif hm with ⟨i, hm⟩ | ⟨i, hm⟩
  ·refine wK 7 true i (MW 1 (wV (iv b.Irq) c (eL false 1 1 (f.blk 0 rfl)) (wV (iv h) c (eL false 1 0 (f.ro m)) (wR 3 [(3, .bool (b.Irq == h))] c (WN ?_)))))
   obtain rfl := HS hm
   exact N_meet fun a ha => ⟨f.pk [], ha.s⟩
  refine wK 7 false i (wR 6 [(3, .bool false)] c (WN ?_))
  obtain rfl := HS hm
  exact N_meet fun a ha => ⟨f.pk [], ha.s⟩
 intro q t ⟨k, l⟩
 refine N_use l ?_
 have hm := n
 refine TN (G_ret ?_)
 obtain rfl := HS hm
 exact RA [.bool j] (⟨rfl, k.pk []⟩)
theorem c_slices_IndexFunc_210__i_findSlot_1 (w : World) (b : List Slot) (f : Option Addr) (g : Nat) (o : rdS encSlot w b f g) (m : Int) (d : Nat) (C : w.heap[d]? = some (.cells ⟨[iv m]⟩ 3 (0, 0))) {r : Int} (hm : M.slices_IndexFunc_210__i_findSlot_1 b m = some r) :
  Calls Tryz.prog 210 #[.slice f b.length g, .func (.func 211) #[] #[pB d 0]] w fun e w' => e = .returned (iv r) ∧ Mem [] w w' [] := by
 unfold M.slices_IndexFunc_210__i_findSlot_1 at hm
 refine cE Tryz.func210 ?_
 have M0 := Mem.refl [] w
 refine QA (MW 1 (NB (wR 3 [(0, .slice f b.length g), (1, .func (.func 211) #[] #[pB d 0]), (7, iv (b.length : Int)), (8, iv 0)] w (NO ?_))))
 obtain ⟨F, E, q⟩ := gx_bind hm
 refine G_meet (fun a w' => ∃ (v : Unit), F = .inl v ∧ Mem [] w w' [] ∧ Sat Tryz.f210.ntmps [] a) ?_ ?_
 ·refine GB (G_while (σ := Int) (ρ := (Unit) ⊕ (Int)) (fun c a w' => Mem [] w w' [] ∧ Sat Tryz.f210.ntmps [(0, .slice f b.length g), (1, .func (.func 211) #[] #[pB d 0]), (7, iv (b.length : Int)), (8, iv c)] a) E (fun a ha => ⟨M0.pk [], ha.s⟩) ?_)
  clear hm
  intro c K hm t H i ⟨j, A⟩
  refine G_use A (QA (wR 1 [(0, .slice f b.length g), (1, .func (.func 211) #[] #[pB d 0]), (7, iv (b.length : Int)), (8, iv c), (9, .bool (decide (c < (b.length : Int))))] i (NE ?_)))
  rcases gx_bif hm with ⟨k, hm⟩ | ⟨k, hm⟩
  ·refine gT k (KD (MW 2 (NA (wR 3 [(0, .slice f b.length g), (1, .func (.func 211) #[] #[pB d 0]), (5, iv c), (7, iv (b.length : Int)), (8, iv c), (11, .func (.func 211) #[] #[pB d 0]), (12, .slice f b.length g), (13, iv c)] i ?_))))
   obtain ⟨h, u, hm⟩ := gx_bind hm
   refine wV (elemP f (c.toNat * 3)) i (eI (o.mem0 j) rfl u) (wV (.agg #[iv h.State, iv h.Irq, iv h.Priority]) i (eE true 3 0 (c.toNat * 3) (o.mem0 j) u) ?_)
   obtain ⟨J, D, hm⟩ := gx_bind hm
   refine WD (c_i_findSlot_1 i h m d (j.ro C) D) j fun x n => NO ?_
   rcases gx_bif hm with ⟨l, hm⟩ | ⟨l, hm⟩
   ·refine gT l (QA (wR 2 [(4, iv c)] x (NX ?_)))
    obtain rfl := HS hm
    obtain rfl := t _ rfl
    have hm := q; simp only [Sum.elim_inr] at hm
    refine BR (N_meet_ret (TR ?_))
    obtain rfl := HS hm
    exact RA [iv c] (⟨rfl, n.pk []⟩)
   refine gF l (KC (wR 2 [(0, .slice f b.length g), (1, .func (.func 211) #[] #[pB d 0]), (7, iv (b.length : Int)), (8, iv (w64 (c + 1)))] x (WN ?_)))
   cases hm
   exact N_loop fun a ha => ⟨_, rfl, n.pk [], ha.s⟩
  refine gF k (XA ?_)
  obtain rfl := HS hm
  obtain rfl := t _ rfl
  exact N_meet fun a ha => ⟨_, rfl, j.pk [], ha.s⟩
 intro I G ⟨v, hout_, z, B⟩
 refine N_use B ?_
 subst hout_
 have hm := q; simp only [Sum.elim_inl] at hm
 refine NF (wR 1 [(4, iv (-1))] G (NC ?_))
 cases hm
 exact RA [iv (-1)] (⟨rfl, z.pk []⟩)
theorem c_i_findSlot (w : World) (a : List Slot) (d : Option Addr) (c : Nat) (m : rdS encSlot w a d c) (g : Int) {r : Int} (hm : M.i_findSlot a g = some r) :
  Calls Tryz.prog 165 #[.slice d a.length c, iv g] w fun e w' => e = .returned (iv r) ∧ Mem [] w w' [] := by
 unfold M.i_findSlot at hm
 refine cE Tryz.func165 ?_
 have M0 := Mem.refl [] w
 refine QA (wN (.cells ⟨[iv g]⟩ 3 (0, 0)) M0 fun f i h => MW 1 (NA (wR 2 [(5, .slice d a.length c), (6, .func (.func 211) #[] #[pB f 0])] i ?_)))
 obtain ⟨j, n, hm⟩ := gx_bind hm
 refine WD (c_slices_IndexFunc_210__i_findSlot_1 i a d c (m.mem0 h) g f (h.blk 0 (b := f) (o := .cells ⟨[iv g]⟩ 3 (0, 0)) (by kernel_rfl)) n) h fun q l => wR 1 [(4, iv j)] q (NC ?_)
 obtain rfl := HS hm
 exact RA [iv j] (⟨rfl, l.pk []⟩)
theorem c_i_AreSlots (w : World) (b : List Slot) (d : Option Addr) (c : Nat) (n : rdS encSlot w b d c) {r : Bool} (hm : M.i_AreSlots b = some r) :
  Calls Tryz.prog 195 #[.slice d b.length c] w fun e w' => e = .returned (.bool r) ∧ Mem [] w w' [] := by
 unfold M.i_AreSlots at hm
 refine cE Tryz.func195 ?_
 have M0 := Mem.refl [] w
 refine QA (MW 1 (NB (wR 3 [(0, .slice d b.length c), (7, .bool ((b.length : Int) != 4))] w (NO ?_))))
 rcases gx_bif hm with ⟨v, hm⟩ | ⟨v, hm⟩
 ·refine gT v (QA (wR 1 [(2, .bool false)] w (ND ?_)))
  obtain rfl := HS hm
  exact RA [.bool false] (⟨rfl, M0.pk []⟩)
 refine gF v (KB (wR 3 [(0, .slice d b.length c), (8, .slice d b.length c), (9, iv (b.length : Int)), (10, iv 0)] w (NO ?_)))
 obtain ⟨ae, ac, F⟩ := gx_bind hm
 refine G_meet (fun a w' => ∃ (K : Unit), ae = .inl K ∧ Mem [] w w' [] ∧ Sat Tryz.f195.ntmps [] a) ?_ ?_
 ·refine GB (G_while (σ := Int) (ρ := (Unit) ⊕ (Bool)) (fun g a w' => Mem [] w w' [] ∧ Sat Tryz.f195.ntmps [(0, .slice d b.length c), (8, .slice d b.length c), (9, iv (b.length : Int)), (10, iv g)] a) ac (fun a ha => ⟨M0.pk [], ha.s⟩) ?_)
  clear hm
  intro g ao hm G ah t ⟨m, T⟩
  refine G_use T (QA (wR 1 [(0, .slice d b.length c), (8, .slice d b.length c), (9, iv (b.length : Int)), (10, iv g), (11, .bool (decide (g < (b.length : Int))))] t (NE ?_)))
  rcases gx_bif hm with ⟨x, hm⟩ | ⟨x, hm⟩
  ·refine gT x (KD (wR 1 [(0, .slice d b.length c), (8, .slice d b.length c), (9, iv (b.length : Int)), (10, iv g), (12, iv g)] t ?_))
   obtain ⟨f, I, hm⟩ := gx_bind hm
   refine wV (elemP d (g.toNat * 3)) t (eI (n.mem0 m) rfl I) (wV (.agg #[iv f.State, iv f.Irq, iv f.Priority]) t (eE true 3 0 (g.toNat * 3) (n.mem0 m) I) (wN (.cells ⟨[iv 0, iv 0, iv 0]⟩ 117 (0, 0)) m fun h af N => wR 1 [(0, .slice d b.length c), (3, iv g), (4, pB h 0), (8, .slice d b.length c), (9, iv (b.length : Int)), (10, iv g), (14, .agg #[iv f.State, iv f.Irq, iv f.Priority])] af (wS true 3 0 (.agg #[iv f.State, iv f.Irq, iv f.Priority]) 0 [iv f.State, iv f.Irq, iv f.Priority] N rfl fun i j => NB (MW 1 (wV (iv f.State) i (eL false 1 0 (j.blk 0 rfl)) (wR 1 [(0, .slice d b.length c), (3, iv g), (4, pB h 0), (8, .slice d b.length c), (9, iv (b.length : Int)), (10, iv g), (17, .bool (f.State == 0))] i (NO ?_)))))))
   rcases gx_bif hm with ⟨y, hm⟩ | ⟨y, hm⟩
   ·refine gT y (QB (wV (.agg #[iv f.State, iv f.Irq, iv f.Priority]) i (eL true 3 0 (j.blk 0 rfl)) (wR 1 [(0, .slice d b.length c), (8, .slice d b.length c), (9, iv (b.length : Int)), (10, iv g), (18, .agg #[iv f.State, iv f.Irq, iv f.Priority]), (19, .agg #[iv 0, iv 0, iv 0])] i (wV (.bool (!((f.State == 0) && ((f.Irq == 0) && ((f.Priority == 0) && true))))) i (E_neqAgg _ _ _ _ [iv f.State, iv f.Irq, iv f.Priority] [iv 0, iv 0, iv 0] ((f.State == 0) && ((f.Irq == 0) && ((f.Priority == 0) && true))) rfl (by kernel_rfl) (by kernel_rfl) (by kernel_rfl) (by kernel_rfl) (by kernel_rfl) (by kernel_rfl)) (NO ?_)))))
    rcases gx_bif hm with ⟨z, hm⟩ | ⟨z, hm⟩
    ·refine gT z (QA (wR 1 [(2, .bool false)] i (ND (TR (BR (TR (TR ?_)))))))
     obtain rfl := HS hm
     obtain rfl := G _ rfl
     have hm := F; simp only [Sum.elim_inr] at hm
     refine BR (N_meet_ret (TR ?_))
     obtain rfl := HS hm
     exact RA [.bool false] (⟨rfl, j.pk []⟩)
    refine gF z (GK (TN (G_exit (TE (N_block_eq (TN (GR (wR 2 [(0, .slice d b.length c), (8, .slice d b.length c), (9, iv (b.length : Int)), (10, iv (w64 (g + 1)))] i (WN ?_)))))))))
    cases hm
    exact N_loop fun a ha => ⟨_, rfl, j.pk [], ha.s⟩
   refine gF y (GK (TN (GS ?_)))
   obtain ⟨ad, X, W⟩ := gx_bind hm
   refine G_meet (fun a w' => Mem [] w w' [] ∧ Sat Tryz.f195.ntmps [(0, .slice d b.length c), (8, .slice d b.length c), (9, iv (b.length : Int)), (10, iv g), (45, .bool ad)] a) ?_ ?_
   ·have hm := X
    refine G_quiet (by kernel_rfl) (by kernel_rfl) j (MS 1 [(0, .slice d b.length c), (3, iv g), (4, pB h 0), (8, .slice d b.length c), (9, iv (b.length : Int)), (10, iv g), (21, pB h 0)] (zV (iv f.State) (fun w_ M_ => (eL false 1 0 (M_.blk 0 rfl))) ?_))
    obtain ⟨o, Y, hm⟩ := gx_bind hm
    refine ZC (.bool o) (fun w_ M_ => c_i_inside w_ f.State 1 3 Y) (MS 2 [(0, .slice d b.length c), (3, iv g), (4, pB h 0), (8, .slice d b.length c), (9, iv (b.length : Int)), (10, iv g), (25, .bool (!o))] ?_)
    rcases gx_bif hm with ⟨A, hm⟩ | ⟨A, hm⟩
    ·refine zK 25 true A (MS 20 [(0, .slice d b.length c), (8, .slice d b.length c), (9, iv (b.length : Int)), (10, iv g), (45, .bool true)] (Z_end fun ak O => ?_))
     obtain rfl := HS hm
     exact N_meet fun a ha => ⟨O.pk [], ha.s⟩
    refine zK 25 false A (MS 1 [(0, .slice d b.length c), (3, iv g), (4, pB h 0), (8, .slice d b.length c), (9, iv (b.length : Int)), (10, iv g), (25, .bool false), (26, pB h 1)] (zV (iv f.Irq) (fun w_ M_ => (eL false 1 1 (M_.blk 0 rfl))) ?_))
    obtain ⟨k, Z, hm⟩ := gx_bind hm
    refine ZC (.bool k) (fun w_ M_ => c_i_isIrq w_ f.Irq Z) (MS 3 [(0, .slice d b.length c), (3, iv g), (4, pB h 0), (8, .slice d b.length c), (9, iv (b.length : Int)), (10, iv g), (31, .bool (!k))] ?_)
    rcases gx_bif hm with ⟨B, hm⟩ | ⟨B, hm⟩
    ·refine zK 31 true B (MS 14 [(0, .slice d b.length c), (8, .slice d b.length c), (9, iv (b.length : Int)), (10, iv g), (45, .bool true)] (Z_end fun al P => ?_))
     obtain rfl := HS hm
     exact N_meet fun a ha => ⟨P.pk [], ha.s⟩
    refine zK 31 false B (MS 1 [(0, .slice d b.length c), (3, iv g), (4, pB h 0), (8, .slice d b.length c), (9, iv (b.length : Int)), (10, iv g), (31, .bool false), (32, pB h 2)] (zV (iv f.Priority) (fun w_ M_ => (eL false 1 2 (M_.blk 0 rfl))) ?_))
    obtain ⟨l, aa, hm⟩ := gx_bind hm
    refine ZC (.bool l) (fun w_ M_ => c_i_isPriority w_ f.Priority aa) (MS 3 [(0, .slice d b.length c), (3, iv g), (4, pB h 0), (8, .slice d b.length c), (9, iv (b.length : Int)), (10, iv g), (37, .bool (!l))] ?_)
    rcases gx_bif hm with ⟨C, hm⟩ | ⟨C, hm⟩
    ·refine zK 37 true C (MS 8 [(0, .slice d b.length c), (8, .slice d b.length c), (9, iv (b.length : Int)), (10, iv g), (45, .bool true)] (Z_end fun am Q => ?_))
     obtain rfl := HS hm
     exact N_meet fun a ha => ⟨Q.pk [], ha.s⟩
    refine zK 37 false C (MS 2 [(0, .slice d b.length c), (4, pB h 0), (8, .slice d b.length c), (9, iv (b.length : Int)), (10, iv g), (37, .bool false), (38, .slice d b.length c), (39, iv g)] ?_)
    obtain ⟨u, J, hm⟩ := gx_bind hm
    refine zV (.slice (subP d (0 : Int).toNat c 3) u.length (c - (0 : Int).toNat)) (fun w_ M_ => (E_slice (E := encSlot) _ _ _ _ b.length 0 g rfl (by kernel_rfl) (Or.inl ⟨rfl, rfl⟩) (Or.inr ⟨_, rfl, by kernel_rfl⟩) (by kernel_rfl) (n.mem0 M_) rfl J)) (MS 1 [(0, .slice d b.length c), (8, .slice d b.length c), (9, iv (b.length : Int)), (10, iv g), (37, .bool false), (40, .slice (subP d (0 : Int).toNat c 3) u.length (c - (0 : Int).toNat)), (41, pB h 1)] (zV (iv f.Irq) (fun w_ M_ => (eL false 1 1 (M_.blk 0 rfl))) ?_))
    obtain ⟨q, ab, hm⟩ := gx_bind hm
    refine ZC (iv q) (fun w_ M_ => c_i_findSlot w_ u (subP d (0 : Int).toNat c 3) (c - (0 : Int).toNat) ((n.mem0 M_).sliceM J) f.Irq ab) (MS 2 [(0, .slice d b.length c), (8, .slice d b.length c), (9, iv (b.length : Int)), (10, iv g), (45, .bool (decide (q ≥ 0)))] (Z_end fun an R => ?_))
    obtain rfl := HS hm
    exact N_meet fun a ha => ⟨R.pk [], ha.s⟩
   intro ai L ⟨H, U⟩
   refine N_use U ?_
   have hm := W
   refine TN ?_
   rcases gx_bif hm with ⟨D, hm⟩ | ⟨D, hm⟩
   ·refine gT D (QA (wR 1 [(2, .bool false)] L (NX ?_)))
    obtain rfl := HS hm
    obtain rfl := G _ rfl
    have hm := F; simp only [Sum.elim_inr] at hm
    refine BR (N_meet_ret (TR ?_))
    obtain rfl := HS hm
    exact RA [.bool false] (⟨rfl, H.pk []⟩)
   refine gF D (KC (wR 2 [(0, .slice d b.length c), (8, .slice d b.length c), (9, iv (b.length : Int)), (10, iv (w64 (g + 1)))] L (WN ?_)))
   cases hm
   exact N_loop fun a ha => ⟨_, rfl, H.pk [], ha.s⟩
  refine gF x (XA ?_)
  obtain rfl := HS hm
  obtain rfl := G _ rfl
  exact N_meet fun a ha => ⟨_, rfl, m.pk [], ha.s⟩
 intro aj ag ⟨K, hout_, S, V⟩
 refine N_use V ?_
 subst hout_
 have hm := F; simp only [Sum.elim_inl] at hm
 refine NF (wR 1 [(2, .bool true)] ag (NC ?_))
 obtain rfl := HS hm
 exact RA [.bool true] (⟨rfl, S.pk []⟩)
theorem c_i_waiterIndex_1 (w : World) (a : Waiter) (c : Int) (d : Nat) (h : w.heap[d]? = some (.cells ⟨[iv c]⟩ 3 (0, 0))) {r : Bool} (hm : M.i_waiterIndex_1 a c = some r) :
  Calls Tryz.prog 239 #[.agg #[iv a.Irq, iv a.Priority], pB d 0] w fun e w' => e = .returned (.bool r) ∧ Mem [] w w' [] := by
 unfold M.i_waiterIndex_1 at hm
 refine cE Tryz.func239 ?_
 have M0 := Mem.refl [] w
 refine QA (wN (.cells ⟨[iv a.Irq, iv a.Priority]⟩ 142 (0, 0)) M0 fun g b f => MW 1 (NA (MW 1 (wV (iv a.Irq) b (eL false 1 0 (f.blk 0 rfl)) (wV (iv c) b (eL false 1 0 (f.ro h)) (wR 2 [(3, .bool (a.Irq == c))] b (NC ?_)))))))
 cases hm
 exact RA [.bool (a.Irq == c)] (⟨rfl, f.pk []⟩)
theorem c_slices_IndexFunc_166__i_waiterIndex_1 (w : World) (b : List Waiter) (f : Option Addr) (g : Nat) (o : rdS encWaiter w b f g) (m : Int) (d : Nat) (C : w.heap[d]? = some (.cells ⟨[iv m]⟩ 3 (0, 0))) {r : Int} (hm : M.slices_IndexFunc_166__i_waiterIndex_1 b m = some r) :
  Calls Tryz.prog 166 #[.slice f b.length g, .func (.func 239) #[] #[pB d 0]] w fun e w' => e = .returned (iv r) ∧ Mem [] w w' [] := by
 unfold M.slices_IndexFunc_166__i_waiterIndex_1 at hm
 refine cE Tryz.func166 ?_
 have M0 := Mem.refl [] w
 refine QA (MW 1 (NB (wR 3 [(0, .slice f b.length g), (1, .func (.func 239) #[] #[pB d 0]), (7, iv (b.length : Int)), (8, iv 0)] w (NO ?_))))
 obtain ⟨F, E, q⟩ := gx_bind hm
 refine G_meet (fun a w' => ∃ (v : Unit), F = .inl v ∧ Mem [] w w' [] ∧ Sat Tryz.f166.ntmps [] a) ?_ ?_
 ·refine GB (G_while (σ := Int) (ρ := (Unit) ⊕ (Int)) (fun c a w' => Mem [] w w' [] ∧ Sat Tryz.f166.ntmps [(0, .slice f b.length g), (1, .func (.func 239) #[] #[pB d 0]), (7, iv (b.length : Int)), (8, iv c)] a) E (fun a ha => ⟨M0.pk [], ha.s⟩) ?_)
  clear hm
  intro c K hm t H h ⟨i, A⟩
  refine G_use A (QA (wR 1 [(0, .slice f b.length g), (1, .func (.func 239) #[] #[pB d 0]), (7, iv (b.length : Int)), (8, iv c), (9, .bool (decide (c < (b.length : Int))))] h (NE ?_)))
  rcases gx_bif hm with ⟨k, hm⟩ | ⟨k, hm⟩
  ·refine gT k (KD (MW 2 (NA (wR 3 [(0, .slice f b.length g), (1, .func (.func 239) #[] #[pB d 0]), (5, iv c), (7, iv (b.length : Int)), (8, iv c), (11, .func (.func 239) #[] #[pB d 0]), (12, .slice f b.length g), (13, iv c)] h ?_))))
   obtain ⟨j, u, hm⟩ := gx_bind hm
   refine wV (elemP f (c.toNat * 2)) h (eI (o.mem0 i) rfl u) (wV (.agg #[iv j.Irq, iv j.Priority]) h (eE true 2 0 (c.toNat * 2) (o.mem0 i) u) ?_)
   obtain ⟨J, D, hm⟩ := gx_bind hm
   refine WD (c_i_waiterIndex_1 h j m d (i.ro C) D) i fun x n => NO ?_
   rcases gx_bif hm with ⟨l, hm⟩ | ⟨l, hm⟩
   ·refine gT l (QA (wR 2 [(4, iv c)] x (NX ?_)))
    obtain rfl := HS hm
    obtain rfl := t _ rfl
    have hm := q; simp only [Sum.elim_inr] at hm
    refine BR (N_meet_ret (TR ?_))
    obtain rfl := HS hm
    exact RA [iv c] (⟨rfl, n.pk []⟩)
   refine gF l (KC (wR 2 [(0, .slice f b.length g), (1, .func (.func 239) #[] #[pB d 0]), (7, iv (b.length : Int)), (8, iv (w64 (c + 1)))] x (WN ?_)))
   cases hm
   exact N_loop fun a ha => ⟨_, rfl, n.pk [], ha.s⟩
  refine gF k (XA ?_)
  obtain rfl := HS hm
  obtain rfl := t _ rfl
  exact N_meet fun a ha => ⟨_, rfl, i.pk [], ha.s⟩
 intro I G ⟨v, hout_, z, B⟩
 refine N_use B ?_
 subst hout_
 have hm := q; simp only [Sum.elim_inl] at hm
 refine NF (wR 1 [(4, iv (-1))] G (NC ?_))
 cases hm
 exact RA [iv (-1)] (⟨rfl, z.pk []⟩)
end Go.Proofs.YtllhajkgkghhdaaGreat
set_option linter.unusedVariables false
set_option maxRecDepth 100000
set_option maxHeartbeats 4000000
namespace Go.Proofs.YtllhajkgkghhdaaGreat
open Go.Gx
theorem c_i_waiterIndex (w : World) (a : List Waiter) (d : Option Addr) (c : Nat) (m : rdS encWaiter w a d c) (g : Int) {r : Int} (hm : M.i_waiterIndex a g = some r) :
  Calls Tryz.prog 196 #[.slice d a.length c, iv g] w fun e w' => e = .returned (iv r) ∧ Mem [] w w' [] := by
 unfold M.i_waiterIndex at hm
 refine cE Tryz.func196 ?_
 have M0 := Mem.refl [] w
 refine QA (wN (.cells ⟨[iv g]⟩ 3 (0, 0)) M0 fun f i h => MW 1 (NA (wR 2 [(5, .slice d a.length c), (6, .func (.func 239) #[] #[pB f 0])] i ?_)))
 obtain ⟨j, n, hm⟩ := gx_bind hm
 refine WD (c_slices_IndexFunc_166__i_waiterIndex_1 i a d c (m.mem0 h) g f (h.blk 0 (b := f) (o := .cells ⟨[iv g]⟩ 3 (0, 0)) (by kernel_rfl)) n) h fun q l => wR 1 [(4, iv j)] q (NC ?_)
 obtain rfl := HS hm
 exact RA [iv j] (⟨rfl, l.pk []⟩)
theorem c_cmp_isNaN_222 (w : World) (a : Int) {r : Bool} (hm : M.cmp_isNaN_222 a = some r) :
  Calls Tryz.prog 222 #[iv a] w fun e w' => e = .returned (.bool r) ∧ Mem [] w w' [] := by
 unfold M.cmp_isNaN_222 at hm
 refine cE Tryz.func222 ?_
 have M0 := Mem.refl [] w
 refine QA (MW 1 (NA (wR 4 [(2, .bool (a != a))] w (NC ?_))))
 cases hm
 exact RA [.bool (a != a)] (⟨rfl, M0.pk []⟩)
theorem c_cmp_Compare_170 (w : World) (a : Int) (b : Int) {r : Int} (hm : M.cmp_Compare_170 a b = some r) :
  Calls Tryz.prog 170 #[iv a, iv b] w fun e w' => e = .returned (iv r) ∧ Mem [] w w' [] := by
 unfold M.cmp_Compare_170 at hm
 refine cE Tryz.func170 ?_
 have M0 := Mem.refl [] w
 refine QA (MW 1 (NA (wR 1 [(0, iv a), (1, iv b), (7, iv a)] w ?_)))
 obtain ⟨f, t, hm⟩ := gx_bind hm
 refine WD (c_cmp_isNaN_222 w a t) M0 fun m q => MW 1 (NA (wR 1 [(0, iv a), (1, iv b), (5, .bool f), (9, iv b)] m ?_))
 obtain ⟨g, u, hm⟩ := gx_bind hm
 refine WD (c_cmp_isNaN_222 m b u) q fun c d => MW 1 (NB (wR 1 [(0, iv a), (1, iv b), (6, .bool g), (11, .bool f)] c (NO ?_)))
 rcases gx_bif hm with ⟨h, hm⟩ | ⟨h, hm⟩
 ·refine gT h (QB (wR 1 [(12, .bool g)] c (NO ?_)))
  rcases gx_bif hm with ⟨i, hm⟩ | ⟨i, hm⟩
  ·refine gT i (QA (wR 1 [(4, iv 0)] c (ND (TR ?_))))
   obtain rfl := HS hm
   exact RA [iv 0] (⟨rfl, d.pk []⟩)
  refine gF i (KA (wR 1 [(4, iv (-1))] c (ND ?_)))
  cases hm
  exact RA [iv (-1)] (⟨rfl, d.pk []⟩)
 refine gF h (KB (wR 1 [(0, iv a), (1, iv b), (13, .bool g)] c (NO ?_)))
 rcases gx_bif hm with ⟨j, hm⟩ | ⟨j, hm⟩
 ·refine gT j (QA (wR 1 [(4, iv 1)] c (ND ?_)))
  obtain rfl := HS hm
  exact RA [iv 1] (⟨rfl, d.pk []⟩)
 refine gF j (KB (wR 3 [(0, iv a), (1, iv b), (16, .bool (decide (a < b)))] c (NO ?_)))
 rcases gx_bif hm with ⟨k, hm⟩ | ⟨k, hm⟩
 ·refine gT k (QA (wR 1 [(4, iv (-1))] c (ND ?_)))
  cases hm
  exact RA [iv (-1)] (⟨rfl, d.pk []⟩)
 refine gF k (KB (wR 3 [(19, .bool (decide (a > b)))] c (NO ?_)))
 rcases gx_bif hm with ⟨l, hm⟩ | ⟨l, hm⟩
 ·refine gT l (QA (wR 1 [(4, iv 1)] c (ND ?_)))
  obtain rfl := HS hm
  exact RA [iv 1] (⟨rfl, d.pk []⟩)
 refine gF l (KA (wR 1 [(4, iv 0)] c (NC ?_)))
 obtain rfl := HS hm
 exact RA [iv 0] (⟨rfl, d.pk []⟩)
theorem c_cmp_Or_169 (w : World) (b : List Int) (c : Option Addr) (d : Nat) (l : rdS Gx.encI w b c d) {r : Int} (hm : M.cmp_Or_169 b = some r) :
  Calls Tryz.prog 169 #[.slice c b.length d] w fun e w' => e = .returned (iv r) ∧ Mem [] w w' [] := by
 unfold M.cmp_Or_169 at hm
 refine cE Tryz.func169 ?_
 have M0 := Mem.refl [] w
 refine QA (MW 1 (NA (MW 1 (NB (wR 3 [(3, iv 0), (6, .slice c b.length d), (7, iv (b.length : Int)), (8, iv 0)] w (NO ?_))))))
 obtain ⟨y, x, m⟩ := gx_bind hm
 refine G_meet (fun a w' => ∃ (q : Unit), y = .inl q ∧ Mem [] w w' [] ∧ Sat Tryz.f169.ntmps [(3, iv 0)] a) ?_ ?_
 ·refine GB (G_while (σ := Int) (ρ := (Unit) ⊕ (Int)) (fun f a w' => Mem [] w w' [] ∧ Sat Tryz.f169.ntmps [(3, iv 0), (6, .slice c b.length d), (7, iv (b.length : Int)), (8, iv f)] a) x (fun a ha => ⟨M0.pk [], ha.s⟩) ?_)
  clear hm
  intro f C hm n A g ⟨i, u⟩
  refine G_use u (QA (wR 1 [(3, iv 0), (6, .slice c b.length d), (7, iv (b.length : Int)), (8, iv f), (9, .bool (decide (f < (b.length : Int))))] g (NE ?_)))
  rcases gx_bif hm with ⟨j, hm⟩ | ⟨j, hm⟩
  ·refine gT j (KD ?_)
   obtain ⟨h, o, hm⟩ := gx_bind hm
   refine wV (elemP c (f.toNat * 1)) g (eI (l.mem0 i) rfl o) (wV (iv h) g (eE false 1 0 (f.toNat * 1) (l.mem0 i) o) (MW 1 (NA (wR 3 [(3, iv 0), (5, iv h), (6, .slice c b.length d), (7, iv (b.length : Int)), (8, iv f), (14, .bool (h != 0))] g (NO ?_)))))
   rcases gx_bif hm with ⟨k, hm⟩ | ⟨k, hm⟩
   ·refine gT k (QA (wR 2 [(2, iv h)] g (NX ?_)))
    obtain rfl := HS hm
    obtain rfl := n _ rfl
    have hm := m; simp only [Sum.elim_inr] at hm
    refine BR (N_meet_ret (TR ?_))
    obtain rfl := HS hm
    exact RA [iv h] (⟨rfl, i.pk []⟩)
   refine gF k (KC (wR 2 [(3, iv 0), (6, .slice c b.length d), (7, iv (b.length : Int)), (8, iv (w64 (f + 1)))] g (WN ?_)))
   cases hm
   exact N_loop fun a ha => ⟨_, rfl, i.pk [], ha.s⟩
  refine gF j (XA ?_)
  obtain rfl := HS hm
  obtain rfl := n _ rfl
  exact N_meet fun a ha => ⟨_, rfl, i.pk [], ha.s⟩
 intro B z ⟨q, hout_, t, v⟩
 refine N_use v ?_
 subst hout_
 have hm := m; simp only [Sum.elim_inl] at hm
 refine NF (wR 2 [(2, iv 0)] z (NC ?_))
 obtain rfl := HS hm
 exact RA [iv 0] (⟨rfl, t.pk []⟩)
theorem c_i_compareUrgency (w : World) (a : Waiter) (b : Waiter) {r : Int} (hm : M.i_compareUrgency a b = some r) :
  Calls Tryz.prog 129 #[.agg #[iv a.Irq, iv a.Priority], .agg #[iv b.Irq, iv b.Priority]] w fun e w' => e = .returned (iv r) ∧ Mem [] w w' [] := by
 unfold M.i_compareUrgency at hm
 refine cE Tryz.func129 ?_
 have M0 := Mem.refl [] w
 refine QA (wN (.cells ⟨[iv a.Irq, iv a.Priority]⟩ 142 (0, 0)) M0 fun c aj F => wN (.cells ⟨[iv b.Irq, iv b.Priority]⟩ 142 (0, 0)) F fun d W G => wR 1 [(2, pB c 0), (3, pB d 0)] W (NE ?_))
 obtain ⟨l, T, hm⟩ := gx_bind hm
 refine G_sub [(2, pB c 0), (3, pB d 0)] (by kernel_rfl) (G_dagL 9 [[], [0], [], [2], [1, 3], [], [5], [], [7]] [[], [], [], [], [], [], [], [], []] [[], [], [], [], [], [], [], [], []] [[], [], [], [], [], [], [], [], []] [[], [], [], [], [], [], [], [], []] [[], [], [], [], [], [], [], [], []] (fun _ => []) (fun i => ([fun f v s => v = (pB c 1 : Value) ∧ s = [], fun f v s => v = (iv a.Priority : Value) ∧ s = [], fun f v s => v = (pB d 1 : Value) ∧ s = [], fun f v s => v = (iv b.Priority : Value) ∧ s = [], fun f v s => v = (iv l : Value) ∧ s = [], fun f v s => v = (pB c 0 : Value) ∧ s = [], fun f v s => v = (iv a.Irq : Value) ∧ s = [], fun f v s => v = (pB d 0 : Value) ∧ s = [], fun f v s => v = (iv b.Irq : Value) ∧ s = []] : List ((Nat → Value) → Value → Seg → Prop)).getD i (fun _ _ _ => False)) (fun j f v => ∃ s, (fun i => ([fun f v s => v = (pB c 1 : Value) ∧ s = [], fun f v s => v = (iv a.Priority : Value) ∧ s = [], fun f v s => v = (pB d 1 : Value) ∧ s = [], fun f v s => v = (iv b.Priority : Value) ∧ s = [], fun f v s => v = (iv l : Value) ∧ s = [], fun f v s => v = (pB c 0 : Value) ∧ s = [], fun f v s => v = (iv a.Irq : Value) ∧ s = [], fun f v s => v = (pB d 0 : Value) ∧ s = [], fun f v s => v = (iv b.Irq : Value) ∧ s = []] : List ((Nat → Value) → Value → Seg → Prop)).getD i (fun _ _ _ => False)) j f v s) [] [4, 6, 8] [] (fun _ _ _ s h => ⟨s, h⟩) (by kernel_rfl) (by kernel_rfl) (G.preNil 9) (by kernel_rfl) (by kernel_rfl) (by kernel_rfl) (by kernel_rfl) (allOb_cons ?_ (allOb_cons ?_ (allOb_cons ?_ (allOb_cons ?_ (allOb_cons ?_ (allOb_cons ?_ (allOb_cons ?_ (allOb_cons ?_ (allOb_cons ?_ allOb_nil))))))))) ?_)
 ·intro k g
  intro R X H
  exact MW 1 (WN (oE (pB c 1) [] ⟨by kernel_rfl, rfl⟩ H))
 ·intro k g
  intro v0_ hb0_
  obtain ⟨rfl, _⟩ := hb0_
  intro R Y n
  exact wV (iv a.Priority) Y (eL false 1 1 (n.blk 0 rfl)) (WN (oE (iv a.Priority) [] ⟨by kernel_rfl, rfl⟩ n))
 ·intro k g
  intro R Z I
  exact MW 1 (WN (oE (pB d 1) [] ⟨by kernel_rfl, rfl⟩ I))
 ·intro k g
  intro v2_ hb2_
  obtain ⟨rfl, _⟩ := hb2_
  intro R aa o
  exact wV (iv b.Priority) aa (eL false 1 1 (o.blk 1 rfl)) (WN (oE (iv b.Priority) [] ⟨by kernel_rfl, rfl⟩ o))
 ·intro k g
  intro v1_ hb1_
  obtain ⟨rfl, _⟩ := hb1_
  intro v3_ hb3_
  obtain ⟨rfl, _⟩ := hb3_
  intro R ab J
  refine WC ((c_cmp_Compare_170 ab a.Priority b.Priority T).mono ?_)
  rintro e_ ak ⟨rfl, B⟩
  refine ⟨_, rfl, ?_⟩
  exact WN (oE (iv l) [] ⟨rfl, rfl⟩ (J.call0 B))
 ·intro k g
  intro R ac K
  exact MW 1 (WN (oE (pB c 0) [] ⟨by kernel_rfl, rfl⟩ K))
 ·intro k g
  intro v5_ hb5_
  obtain ⟨rfl, _⟩ := hb5_
  intro R ad q
  exact wV (iv a.Irq) ad (eL false 1 0 (q.blk 0 rfl)) (WN (oE (iv a.Irq) [] ⟨by kernel_rfl, rfl⟩ q))
 ·intro k g
  intro R ae L
  exact MW 1 (WN (oE (pB d 0) [] ⟨by kernel_rfl, rfl⟩ L))
 ·intro k g
  intro v7_ hb7_
  obtain ⟨rfl, _⟩ := hb7_
  intro R af t
  exact wV (iv b.Irq) af (eL false 1 0 (t.blk 1 rfl)) (WN (oE (iv b.Irq) [] ⟨by kernel_rfl, rfl⟩ t))
 intro k g
 intro v4_ hb4_
 obtain ⟨rfl, _⟩ := hb4_
 intro v6_ hb6_
 obtain ⟨rfl, _⟩ := hb6_
 intro v8_ hb8_
 obtain ⟨rfl, _⟩ := hb8_
 intro A N
 have O : Mem [] w A [[(c, .cells ⟨[iv a.Irq, iv a.Priority]⟩ 142 (0, 0))], [(d, .cells ⟨[iv b.Irq, iv b.Priority]⟩ 142 (0, 0))]] := N
 obtain ⟨m, U, hm⟩ := gx_bind hm
 refine WD (c_cmp_Compare_170 A a.Irq b.Irq U) O fun al P => wL (E := Gx.encI) [l, m] 2 [iv l, iv m] 3 P ?_
 intro y x ai ag S u
 obtain ⟨z, V, hm⟩ := gx_bind hm
 refine WD (c_cmp_Or_169 ag [l, m] y x (S.r u 2) V) u fun ah Q => wR 1 [(4, iv z)] ah (NC ?_)
 obtain rfl := HS hm
 exact RA [iv z] (⟨rfl, Q.pk []⟩)
theorem c_i_areParts (w : World) (g : List Slot) (i : Option Addr) (h : Nat) (L : rdS encSlot w g i h) (b : List Waiter) (d : Option Addr) (c : Nat) (l : rdS encWaiter w b d c) {r : Bool} (hm : M.i_areParts g b = some r) :
  Calls Tryz.prog 160 #[.slice i g.length h, .slice d b.length c] w fun e w' => e = .returned (.bool r) ∧ Mem [] w w' [] := by
 unfold M.i_areParts at hm
 refine cE Tryz.func160 ?_
 have M0 := Mem.refl [] w
 refine QA (MW 1 (NB (wR 1 [(0, .slice i g.length h), (1, .slice d b.length c), (7, .slice i g.length h)] w ?_)))
 obtain ⟨au, aj, hm⟩ := gx_bind hm
 refine WD (c_i_AreSlots w g i h (L.mem0 M0) aj) M0 fun I J => wR 1 [(0, .slice i g.length h), (1, .slice d b.length c), (9, .bool (!au))] I (NO ?_)
 rcases gx_bif hm with ⟨z, hm⟩ | ⟨z, hm⟩
 ·refine gT z (QA (wR 1 [(4, .bool false)] I (ND ?_)))
  obtain rfl := HS hm
  exact RA [.bool false] (⟨rfl, J.pk []⟩)
 refine gF z (KB (wR 3 [(0, .slice i g.length h), (1, .slice d b.length c), (10, .slice d b.length c), (11, iv (b.length : Int)), (12, iv 0)] I (NO ?_)))
 obtain ⟨ar, ap, N⟩ := gx_bind hm
 refine G_meet (fun a w' => ∃ (S : Unit), ar = .inl S ∧ Mem [] w w' [] ∧ Sat Tryz.f160.ntmps [] a) ?_ ?_
 ·refine GB (G_while (σ := Int) (ρ := (Unit) ⊕ (Bool)) (fun f a w' => Mem [] w w' [] ∧ Sat Tryz.f160.ntmps [(0, .slice i g.length h), (1, .slice d b.length c), (10, .slice d b.length c), (11, iv (b.length : Int)), (12, iv f)] a) ap (fun a ha => ⟨J.pk [], ha.s⟩) ?_)
  clear hm
  intro f a9 hm O ax x ⟨u, ae⟩
  refine G_use ae (QA (wR 1 [(0, .slice i g.length h), (1, .slice d b.length c), (10, .slice d b.length c), (11, iv (b.length : Int)), (12, iv f), (13, .bool (decide (f < (b.length : Int))))] x (NE ?_)))
  rcases gx_bif hm with ⟨A, hm⟩ | ⟨A, hm⟩
  ·refine gT A (KD (wR 1 [(0, .slice i g.length h), (1, .slice d b.length c), (10, .slice d b.length c), (11, iv (b.length : Int)), (12, iv f), (14, iv f)] x ?_))
   obtain ⟨j, P, hm⟩ := gx_bind hm
   refine wV (elemP d (f.toNat * 2)) x (eI (l.mem0 u) rfl P) (wV (.agg #[iv j.Irq, iv j.Priority]) x (eE true 2 0 (f.toNat * 2) (l.mem0 u) P) (wN (.cells ⟨[iv 0, iv 0]⟩ 142 (0, 0)) u fun k av V => wR 1 [(0, .slice i g.length h), (1, .slice d b.length c), (5, iv f), (6, pB k 0), (10, .slice d b.length c), (11, iv (b.length : Int)), (12, iv f), (16, .agg #[iv j.Irq, iv j.Priority])] av (wS true 2 0 (.agg #[iv j.Irq, iv j.Priority]) 0 [iv j.Irq, iv j.Priority] V rfl fun a0 W => NE ?_)))
   obtain ⟨aq, ai, ah⟩ := gx_bind hm
   refine G_meet (fun a w' => Mem [] w w' [] ∧ Sat Tryz.f160.ntmps [(0, .slice i g.length h), (1, .slice d b.length c), (10, .slice d b.length c), (11, iv (b.length : Int)), (12, iv f), (56, .bool aq)] a) ?_ ?_
   ·have hm := ai
    refine G_quiet (by kernel_rfl) (by kernel_rfl) W (MS 1 [(0, .slice i g.length h), (1, .slice d b.length c), (5, iv f), (6, pB k 0), (10, .slice d b.length c), (11, iv (b.length : Int)), (12, iv f), (17, pB k 0)] (zV (iv j.Irq) (fun w_ M_ => (eL false 1 0 (M_.blk 0 rfl))) ?_))
    obtain ⟨v, ak, hm⟩ := gx_bind hm
    refine ZC (.bool v) (fun w_ M_ => c_i_isIrq w_ j.Irq ak) (MS 2 [(0, .slice i g.length h), (1, .slice d b.length c), (5, iv f), (6, pB k 0), (10, .slice d b.length c), (11, iv (b.length : Int)), (12, iv f), (21, .bool (!v))] ?_)
    rcases gx_bif hm with ⟨B, hm⟩ | ⟨B, hm⟩
    ·refine zK 21 true B (MS 35 [(0, .slice i g.length h), (1, .slice d b.length c), (10, .slice d b.length c), (11, iv (b.length : Int)), (12, iv f), (56, .bool true)] (Z_end fun a3 X => ?_))
     obtain rfl := HS hm
     exact N_meet fun a ha => ⟨X.pk [], ha.s⟩
    refine zK 21 false B (MS 1 [(0, .slice i g.length h), (1, .slice d b.length c), (5, iv f), (6, pB k 0), (10, .slice d b.length c), (11, iv (b.length : Int)), (12, iv f), (21, .bool false), (22, pB k 1)] (zV (iv j.Priority) (fun w_ M_ => (eL false 1 1 (M_.blk 0 rfl))) ?_))
    obtain ⟨m, al, hm⟩ := gx_bind hm
    refine ZC (.bool m) (fun w_ M_ => c_i_isPriority w_ j.Priority al) (MS 3 [(0, .slice i g.length h), (1, .slice d b.length c), (5, iv f), (6, pB k 0), (10, .slice d b.length c), (11, iv (b.length : Int)), (12, iv f), (27, .bool (!m))] ?_)
    rcases gx_bif hm with ⟨C, hm⟩ | ⟨C, hm⟩
    ·refine zK 27 true C (MS 29 [(0, .slice i g.length h), (1, .slice d b.length c), (10, .slice d b.length c), (11, iv (b.length : Int)), (12, iv f), (56, .bool true)] (Z_end fun a4 Y => ?_))
     obtain rfl := HS hm
     exact N_meet fun a ha => ⟨Y.pk [], ha.s⟩
    refine zK 27 false C (MS 2 [(0, .slice i g.length h), (1, .slice d b.length c), (5, iv f), (6, pB k 0), (10, .slice d b.length c), (11, iv (b.length : Int)), (12, iv f), (27, .bool false), (28, .slice i g.length h), (29, pB k 0)] (zV (iv j.Irq) (fun w_ M_ => (eL false 1 0 (M_.blk 0 rfl))) ?_))
    obtain ⟨n, am, hm⟩ := gx_bind hm
    refine ZC (iv n) (fun w_ M_ => c_i_findSlot w_ g i h (L.mem0 M_) j.Irq am) (MS 3 [(0, .slice i g.length h), (1, .slice d b.length c), (5, iv f), (6, pB k 0), (10, .slice d b.length c), (11, iv (b.length : Int)), (12, iv f), (34, .bool (decide (n ≥ 0)))] ?_)
    rcases gx_bif hm with ⟨D, hm⟩ | ⟨D, hm⟩
    ·refine zK 34 true D (MS 22 [(0, .slice i g.length h), (1, .slice d b.length c), (10, .slice d b.length c), (11, iv (b.length : Int)), (12, iv f), (56, .bool true)] (Z_end fun a5 Z => ?_))
     obtain rfl := HS hm
     exact N_meet fun a ha => ⟨Z.pk [], ha.s⟩
    refine zK 34 false D (MS 2 [(0, .slice i g.length h), (1, .slice d b.length c), (5, iv f), (6, pB k 0), (10, .slice d b.length c), (11, iv (b.length : Int)), (12, iv f), (34, .bool false), (35, .slice d b.length c), (36, iv f)] ?_)
    obtain ⟨y, R, hm⟩ := gx_bind hm
    refine zV (.slice (subP d (0 : Int).toNat c 2) y.length (c - (0 : Int).toNat)) (fun w_ M_ => (E_slice (E := encWaiter) _ _ _ _ b.length 0 f rfl (by kernel_rfl) (Or.inl ⟨rfl, rfl⟩) (Or.inr ⟨_, rfl, by kernel_rfl⟩) (by kernel_rfl) (l.mem0 M_) rfl R)) (MS 1 [(0, .slice i g.length h), (1, .slice d b.length c), (5, iv f), (6, pB k 0), (10, .slice d b.length c), (11, iv (b.length : Int)), (12, iv f), (34, .bool false), (37, .slice (subP d (0 : Int).toNat c 2) y.length (c - (0 : Int).toNat)), (38, pB k 0)] (zV (iv j.Irq) (fun w_ M_ => (eL false 1 0 (M_.blk 0 rfl))) ?_))
    obtain ⟨o, an, hm⟩ := gx_bind hm
    refine ZC (iv o) (fun w_ M_ => c_i_waiterIndex w_ y (subP d (0 : Int).toNat c 2) (c - (0 : Int).toNat) ((l.mem0 M_).sliceM R) j.Irq an) (MS 3 [(0, .slice i g.length h), (1, .slice d b.length c), (5, iv f), (6, pB k 0), (10, .slice d b.length c), (11, iv (b.length : Int)), (12, iv f), (43, .bool (decide (o ≥ 0)))] ?_)
    rcases gx_bif hm with ⟨F, hm⟩ | ⟨F, hm⟩
    ·refine zK 43 true F (MS 13 [(0, .slice i g.length h), (1, .slice d b.length c), (10, .slice d b.length c), (11, iv (b.length : Int)), (12, iv f), (56, .bool true)] (Z_end fun a6 aa => ?_))
     obtain rfl := HS hm
     exact N_meet fun a ha => ⟨aa.pk [], ha.s⟩
    refine zK 43 false F (MS 3 [(0, .slice i g.length h), (1, .slice d b.length c), (5, iv f), (6, pB k 0), (10, .slice d b.length c), (11, iv (b.length : Int)), (12, iv f), (43, .bool false), (46, .bool (decide (f > 0)))] ?_)
    rcases gx_bif hm with ⟨G, hm⟩ | ⟨G, hm⟩
    ·refine zK 46 true G (MS 3 [(0, .slice i g.length h), (1, .slice d b.length c), (6, pB k 0), (10, .slice d b.length c), (11, iv (b.length : Int)), (12, iv f), (43, .bool false), (46, .bool true), (47, .slice d b.length c), (49, iv (w64 (f - 1)))] ?_)
     obtain ⟨t, Q, hm⟩ := gx_bind hm
     refine zV (elemP d ((w64 (f - 1)).toNat * 2)) (fun w_ M_ => (eI (l.mem0 M_) rfl Q)) (zV (.agg #[iv t.Irq, iv t.Priority]) (fun w_ M_ => (eE true 2 0 ((w64 (f - 1)).toNat * 2) (l.mem0 M_) Q)) (zV (.agg #[iv j.Irq, iv j.Priority]) (fun w_ M_ => (eL true 2 0 (M_.blk 0 rfl))) ?_))
     obtain ⟨q, ao, hm⟩ := gx_bind hm
     refine ZC (iv q) (fun w_ M_ => c_i_compareUrgency w_ t j ao) (MS 3 [(0, .slice i g.length h), (1, .slice d b.length c), (10, .slice d b.length c), (11, iv (b.length : Int)), (12, iv f), (56, .bool (decide (q ≥ 0)))] (Z_end fun a7 ab => ?_))
     obtain rfl := HS hm
     exact N_meet fun a ha => ⟨ab.pk [], ha.s⟩
    refine zK 46 false G (MS 10 [(0, .slice i g.length h), (1, .slice d b.length c), (10, .slice d b.length c), (11, iv (b.length : Int)), (12, iv f), (56, .bool false)] (Z_end fun a8 ac => ?_))
    obtain rfl := HS hm
    exact N_meet fun a ha => ⟨ac.pk [], ha.s⟩
   intro ay T ⟨K, af⟩
   refine N_use af ?_
   have hm := ah
   refine TN ?_
   rcases gx_bif hm with ⟨H, hm⟩ | ⟨H, hm⟩
   ·refine gT H (QA (wR 1 [(4, .bool false)] T (NX ?_)))
    obtain rfl := HS hm
    obtain rfl := O _ rfl
    have hm := N; simp only [Sum.elim_inr] at hm
    refine BR (N_meet_ret (TR ?_))
    obtain rfl := HS hm
    exact RA [.bool false] (⟨rfl, K.pk []⟩)
   refine gF H (KC (wR 2 [(0, .slice i g.length h), (1, .slice d b.length c), (10, .slice d b.length c), (11, iv (b.length : Int)), (12, iv (w64 (f + 1)))] T (WN ?_)))
   cases hm
   exact N_loop fun a ha => ⟨_, rfl, K.pk [], ha.s⟩
  refine gF A (XA ?_)
  obtain rfl := HS hm
  obtain rfl := O _ rfl
  exact N_meet fun a ha => ⟨_, rfl, u.pk [], ha.s⟩
 intro az aw ⟨S, hout_, ad, ag⟩
 refine N_use ag ?_
 subst hout_
 have hm := N; simp only [Sum.elim_inl] at hm
 refine NF (wR 1 [(4, .bool true)] aw (NC ?_))
 obtain rfl := HS hm
 exact RA [.bool true] (⟨rfl, ad.pk []⟩)
theorem c_i_waiterOf (w : World) (a : Slot) {r : Waiter} (hm : M.i_waiterOf a = some r) :
  Calls Tryz.prog 119 #[.agg #[iv a.State, iv a.Irq, iv a.Priority]] w fun e w' => e = .returned (.agg #[iv r.Irq, iv r.Priority]) ∧ Mem [] w w' [] := by
 unfold M.i_waiterOf at hm
 refine cE Tryz.func119 ?_
 have M0 := Mem.refl [] w
 refine QA (wN (.cells ⟨[iv a.State, iv a.Irq, iv a.Priority]⟩ 117 (0, 0)) M0 fun h l j => wN (.cells ⟨[iv 0, iv 0]⟩ 142 (0, 0)) j fun c d f => NA (MW 1 (wV (iv a.Irq) d (eL false 1 1 (f.blk 0 rfl)) (MW 1 (wV (iv a.Priority) d (eL false 1 2 (f.blk 0 rfl)) (wR 1 [(2, pB c 0), (7, .agg #[iv a.Irq, iv a.Priority])] d (wS true 2 0 (.agg #[iv a.Irq, iv a.Priority]) 1 [iv a.Irq, iv a.Priority] f rfl fun m i => NC ?_)))))))
 obtain rfl := HS hm
 exact N_ret [.agg #[iv a.Irq, iv a.Priority]] (RX true 2 0 (i.blk 1 rfl) RVs_nil) (⟨rfl, i.pk []⟩)
theorem c_i_pendingSlot (w : World) (b : List Slot) (d : Option Addr) (f : Nat) (o : rdS encSlot w b d f) (g : Bool) {r : Int} (hm : M.i_pendingSlot b g = some r) :
  Calls Tryz.prog 197 #[.slice d b.length f, .bool g] w fun e w' => e = .returned (iv r) ∧ Mem [] w w' [] := by
 unfold M.i_pendingSlot at hm
 refine cE Tryz.func197 ?_
 have M0 := Mem.refl [] w
 refine QA (MW 1 (NA (MW 1 (NB (wR 3 [(0, .slice d b.length f), (1, .bool g), (5, iv (-1)), (8, .slice d b.length f), (9, iv (b.length : Int)), (10, iv 0)] w (NO ?_))))))
 obtain ⟨y, Y, R⟩ := gx_bind hm
 refine G_meet (fun a w' => Mem [] w w' [] ∧ Sat Tryz.f197.ntmps [(5, iv y)] a) ?_ ?_
 ·refine GB (G_while (σ := Int × Int) (ρ := Int) (fun c a w' => Mem [] w w' [] ∧ Sat Tryz.f197.ntmps [(0, .slice d b.length f), (1, .bool g), (5, iv c.1), (8, .slice d b.length f), (9, iv (b.length : Int)), (10, iv c.2)] a) Y (fun a ha => ⟨M0.pk [], ha.s⟩) ?_)
  clear hm
  intro c am hm U ae q ⟨n, K⟩
  refine G_use K (QA (wR 1 [(0, .slice d b.length f), (1, .bool g), (5, iv c.1), (8, .slice d b.length f), (9, iv (b.length : Int)), (10, iv c.2), (11, .bool (decide (c.2 < (b.length : Int))))] q (NE ?_)))
  rcases gx_bif hm with ⟨t, hm⟩ | ⟨t, hm⟩
  ·refine gT t (KD (wR 1 [(0, .slice d b.length f), (1, .bool g), (5, iv c.1), (8, .slice d b.length f), (9, iv (b.length : Int)), (10, iv c.2), (12, iv c.2)] q ?_))
   obtain ⟨h, A, hm⟩ := gx_bind hm
   refine wV (elemP d (c.2.toNat * 3)) q (eI (o.mem0 n) rfl A) (wV (.agg #[iv h.State, iv h.Irq, iv h.Priority]) q (eE true 3 0 (c.2.toNat * 3) (o.mem0 n) A) (wN (.cells ⟨[iv 0, iv 0, iv 0]⟩ 117 (0, 0)) n fun k aa D => wR 1 [(0, .slice d b.length f), (1, .bool g), (5, iv c.1), (6, iv c.2), (7, pB k 0), (8, .slice d b.length f), (9, iv (b.length : Int)), (10, iv c.2), (14, .agg #[iv h.State, iv h.Irq, iv h.Priority])] aa (wS true 3 0 (.agg #[iv h.State, iv h.Irq, iv h.Priority]) 0 [iv h.State, iv h.Irq, iv h.Priority] D rfl fun ai E => NE ?_)))
   obtain ⟨Z, S, P⟩ := gx_bind hm
   refine G_meet (fun a w' => Mem [] w w' [] ∧ Sat Tryz.f197.ntmps [(0, .slice d b.length f), (1, .bool g), (5, iv c.1), (6, iv c.2), (8, .slice d b.length f), (9, iv (b.length : Int)), (10, iv c.2), (34, .bool Z)] a) ?_ ?_
   ·have hm := S
    refine G_quiet (by kernel_rfl) (by kernel_rfl) E (MZ 1 (zV (iv h.State) (fun w_ M_ => (eL false 1 0 (M_.blk 0 rfl))) (MS 2 [(0, .slice d b.length f), (1, .bool g), (5, iv c.1), (6, iv c.2), (7, pB k 0), (8, .slice d b.length f), (9, iv (b.length : Int)), (10, iv c.2), (18, .bool (h.State == 1))] ?_)))
    rcases gx_bif hm with ⟨u, hm⟩ | ⟨u, hm⟩
    ·refine zK 18 true u (MS 3 [(0, .slice d b.length f), (1, .bool g), (5, iv c.1), (6, iv c.2), (7, pB k 0), (8, .slice d b.length f), (9, iv (b.length : Int)), (10, iv c.2), (18, .bool true), (21, .bool (decide (c.1 < 0)))] ?_)
     rcases gx_bif hm with ⟨v, hm⟩ | ⟨v, hm⟩
     ·refine zK 21 true v (MS 13 [(0, .slice d b.length f), (1, .bool g), (5, iv c.1), (6, iv c.2), (8, .slice d b.length f), (9, iv (b.length : Int)), (10, iv c.2), (34, .bool true)] (Z_end fun aj F => ?_))
      obtain rfl := HS hm
      exact N_meet fun a ha => ⟨F.pk [], ha.s⟩
     refine zK 21 false v (zV (.agg #[iv h.State, iv h.Irq, iv h.Priority]) (fun w_ M_ => (eL true 3 0 (M_.blk 0 rfl))) ?_)
     obtain ⟨i, V, hm⟩ := gx_bind hm
     refine ZC (.agg #[iv i.Irq, iv i.Priority]) (fun w_ M_ => c_i_waiterOf w_ h V) (MS 2 [(0, .slice d b.length f), (1, .bool g), (5, iv c.1), (6, iv c.2), (8, .slice d b.length f), (9, iv (b.length : Int)), (10, iv c.2), (18, .bool true), (21, .bool false), (23, .agg #[iv i.Irq, iv i.Priority]), (24, .slice d b.length f), (25, iv c.1)] ?_)
     obtain ⟨j, B, hm⟩ := gx_bind hm
     refine zV (elemP d (c.1.toNat * 3)) (fun w_ M_ => (eI (o.mem0 M_) rfl B)) (zV (.agg #[iv j.State, iv j.Irq, iv j.Priority]) (fun w_ M_ => (eE true 3 0 (c.1.toNat * 3) (o.mem0 M_) B)) ?_)
     obtain ⟨m, W, hm⟩ := gx_bind hm
     refine ZC (.agg #[iv m.Irq, iv m.Priority]) (fun w_ M_ => c_i_waiterOf w_ j W) ?_
     obtain ⟨l, X, hm⟩ := gx_bind hm
     refine ZC (iv l) (fun w_ M_ => c_i_compareUrgency w_ i m X) (MS 5 [(0, .slice d b.length f), (1, .bool g), (5, iv c.1), (6, iv c.2), (8, .slice d b.length f), (9, iv (b.length : Int)), (10, iv c.2), (34, .bool ((decide (l < 0)) == g))] (Z_end fun ak G => ?_))
     obtain rfl := HS hm
     exact N_meet fun a ha => ⟨G.pk [], ha.s⟩
    refine zK 18 false u (MS 16 [(0, .slice d b.length f), (1, .bool g), (5, iv c.1), (6, iv c.2), (8, .slice d b.length f), (9, iv (b.length : Int)), (10, iv c.2), (34, .bool false)] (Z_end fun al H => ?_))
    obtain rfl := HS hm
    exact N_meet fun a ha => ⟨H.pk [], ha.s⟩
   intro af ab ⟨z, L⟩
   refine N_use L ?_
   have hm := P
   refine TN ?_
   obtain ⟨C, T, Q⟩ := gx_bind hm
   refine G_meet (fun a w' => Mem [] w w' [] ∧ Sat Tryz.f197.ntmps [(0, .slice d b.length f), (1, .bool g), (5, iv C), (8, .slice d b.length f), (9, iv (b.length : Int)), (10, iv c.2)] a) ?_ ?_
   ·have hm := T
    rcases gx_bif hm with ⟨x, hm⟩ | ⟨x, hm⟩
    ·refine gT x (GR (wR 2 [(0, .slice d b.length f), (1, .bool g), (5, iv c.2), (8, .slice d b.length f), (9, iv (b.length : Int)), (10, iv c.2)] ab (WN ?_)))
     obtain rfl := HS hm
     exact N_meet fun a ha => ⟨z.pk [], ha.s⟩
    refine gF x (GK ?_)
    obtain rfl := HS hm
    exact N_meet fun a ha => ⟨z.pk [], ha.s⟩
   intro ag ac ⟨I, N⟩
   refine N_use N ?_
   have hm := Q
   refine BN (TN (GR (wR 2 [(0, .slice d b.length f), (1, .bool g), (5, iv C), (8, .slice d b.length f), (9, iv (b.length : Int)), (10, iv (w64 (c.2 + 1)))] ac (WN ?_))))
   cases hm
   exact N_loop fun a ha => ⟨_, rfl, I.pk [], ha.s⟩
  refine gF t (XA ?_)
  obtain rfl := HS hm
  obtain rfl := U _ rfl
  exact N_meet fun a ha => ⟨n.pk [], ha.s⟩
 intro ah ad ⟨J, O⟩
 refine N_use O ?_
 have hm := R
 refine NF (wR 2 [(4, iv y)] ad (NC ?_))
 obtain rfl := HS hm
 exact RA [iv y] (⟨rfl, J.pk []⟩)
theorem c_i_firstEmpty_1 (w : World) (a : Slot) {r : Bool} (hm : M.i_firstEmpty_1 a = some r) :
  Calls Tryz.prog 240 #[.agg #[iv a.State, iv a.Irq, iv a.Priority]] w fun e w' => e = .returned (.bool r) ∧ Mem [] w w' [] := by
 unfold M.i_firstEmpty_1 at hm
 refine cE Tryz.func240 ?_
 have M0 := Mem.refl [] w
 refine QA (wN (.cells ⟨[iv a.State, iv a.Irq, iv a.Priority]⟩ 117 (0, 0)) M0 fun d b c => MW 1 (NA (MW 1 (wV (iv a.State) b (eL false 1 0 (c.blk 0 rfl)) (wR 2 [(2, .bool (a.State == 0))] b (NC ?_))))))
 cases hm
 exact RA [.bool (a.State == 0)] (⟨rfl, c.pk []⟩)
theorem c_slices_IndexFunc_210__i_firstEmpty_1 (w : World) (b : List Slot) (d : Option Addr) (f : Nat) (m : rdS encSlot w b d f) {r : Int} (hm : M.slices_IndexFunc_210__i_firstEmpty_1 b = some r) :
  Calls Tryz.prog 210 #[.slice d b.length f, .func (.func 240) #[] #[]] w fun e w' => e = .returned (iv r) ∧ Mem [] w w' [] := by
 unfold M.slices_IndexFunc_210__i_firstEmpty_1 at hm
 refine cE Tryz.func210 ?_
 have M0 := Mem.refl [] w
 refine QA (MW 1 (NB (wR 3 [(0, .slice d b.length f), (1, .func (.func 240) #[] #[]), (7, iv (b.length : Int)), (8, iv 0)] w (NO ?_))))
 obtain ⟨C, B, n⟩ := gx_bind hm
 refine G_meet (fun a w' => ∃ (t : Unit), C = .inl t ∧ Mem [] w w' [] ∧ Sat Tryz.f210.ntmps [] a) ?_ ?_
 ·refine GB (G_while (σ := Int) (ρ := (Unit) ⊕ (Int)) (fun c a w' => Mem [] w w' [] ∧ Sat Tryz.f210.ntmps [(0, .slice d b.length f), (1, .func (.func 240) #[] #[]), (7, iv (b.length : Int)), (8, iv c)] a) B (fun a ha => ⟨M0.pk [], ha.s⟩) ?_)
  clear hm
  intro c H hm o E h ⟨i, y⟩
  refine G_use y (QA (wR 1 [(0, .slice d b.length f), (1, .func (.func 240) #[] #[]), (7, iv (b.length : Int)), (8, iv c), (9, .bool (decide (c < (b.length : Int))))] h (NE ?_)))
  rcases gx_bif hm with ⟨j, hm⟩ | ⟨j, hm⟩
  ·refine gT j (KD (MW 2 (NA (wR 3 [(0, .slice d b.length f), (1, .func (.func 240) #[] #[]), (5, iv c), (7, iv (b.length : Int)), (8, iv c), (11, .func (.func 240) #[] #[]), (12, .slice d b.length f), (13, iv c)] h ?_))))
   obtain ⟨g, q, hm⟩ := gx_bind hm
   refine wV (elemP d (c.toNat * 3)) h (eI (m.mem0 i) rfl q) (wV (.agg #[iv g.State, iv g.Irq, iv g.Priority]) h (eE true 3 0 (c.toNat * 3) (m.mem0 i) q) ?_)
   obtain ⟨G, A, hm⟩ := gx_bind hm
   refine WD (c_i_firstEmpty_1 h g A) i fun u l => NO ?_
   rcases gx_bif hm with ⟨k, hm⟩ | ⟨k, hm⟩
   ·refine gT k (QA (wR 2 [(4, iv c)] u (NX ?_)))
    obtain rfl := HS hm
    obtain rfl := o _ rfl
    have hm := n; simp only [Sum.elim_inr] at hm
    refine BR (N_meet_ret (TR ?_))
    obtain rfl := HS hm
    exact RA [iv c] (⟨rfl, l.pk []⟩)
   refine gF k (KC (wR 2 [(0, .slice d b.length f), (1, .func (.func 240) #[] #[]), (7, iv (b.length : Int)), (8, iv (w64 (c + 1)))] u (WN ?_)))
   cases hm
   exact N_loop fun a ha => ⟨_, rfl, l.pk [], ha.s⟩
  refine gF j (XA ?_)
  obtain rfl := HS hm
  obtain rfl := o _ rfl
  exact N_meet fun a ha => ⟨_, rfl, i.pk [], ha.s⟩
 intro F D ⟨t, hout_, x, z⟩
 refine N_use z ?_
 subst hout_
 have hm := n; simp only [Sum.elim_inl] at hm
 refine NF (wR 1 [(4, iv (-1))] D (NC ?_))
 cases hm
 exact RA [iv (-1)] (⟨rfl, x.pk []⟩)
theorem c_i_firstEmpty (w : World) (a : List Slot) (c : Option Addr) (b : Nat) (h : rdS encSlot w a c b) {r : Int} (hm : M.i_firstEmpty a = some r) :
  Calls Tryz.prog 198 #[.slice c a.length b] w fun e w' => e = .returned (iv r) ∧ Mem [] w w' [] := by
 unfold M.i_firstEmpty at hm
 refine cE Tryz.func198 ?_
 have M0 := Mem.refl [] w
 refine QA (MW 1 (NA (wR 1 [(3, .slice c a.length b)] w ?_)))
 obtain ⟨d, i, hm⟩ := gx_bind hm
 refine WD (c_slices_IndexFunc_210__i_firstEmpty_1 w a c b (h.mem0 M0) i) M0 fun j g => wR 1 [(2, iv d)] j (NC ?_)
 obtain rfl := HS hm
 exact RA [iv d] (⟨rfl, g.pk []⟩)
theorem c_i_isSettled (w : World) (b : Queue) (f : Option Addr) (g : Nat) (q : rdS encSlot w b.Slots f g) (k : Option Addr) (n : Nat) (y : rdS encWaiter w b.Waiting k n) {r : Bool} (hm : M.i_isSettled b = some r) :
  Calls Tryz.prog 161 #[.agg #[.slice f b.Slots.length g, .slice k b.Waiting.length n]] w fun e w' => e = .returned (.bool r) ∧ Mem [] w w' [] := by
 unfold M.i_isSettled at hm
 refine cE Tryz.func161 ?_
 have M0 := Mem.refl [] w
 refine QA (wN (.cells ⟨[.slice f b.Slots.length g, .slice k b.Waiting.length n]⟩ 85 (0, 0)) M0 fun c i m => MW 1 (NB (MW 1 (wV (.slice k b.Waiting.length n) i (eL false 1 1 (m.blk 0 rfl)) (wR 2 [(1, pB c 0), (7, .bool ((b.Waiting.length : Int) == 0))] i (NO ?_))))))
 rcases gx_bif hm with ⟨u, hm⟩ | ⟨u, hm⟩
 ·refine gT u (QA (wR 1 [(2, .bool true)] i (ND ?_)))
  obtain rfl := HS hm
  exact RA [.bool true] (⟨rfl, m.pk []⟩)
 refine gF u (KA (wR 1 [(1, pB c 0), (8, pB c 0)] i (wV (.slice f b.Slots.length g) i (eL false 1 0 (m.blk 0 rfl)) ?_)))
 obtain ⟨d, L, hm⟩ := gx_bind hm
 refine WD (c_i_pendingSlot i b.Slots f g (q.mem0 m) false L) m fun Q D => wR 1 [(1, pB c 0), (3, iv d)] Q (NE ?_)
 obtain ⟨B, K, J⟩ := gx_bind hm
 refine G_meet (fun a w' => Mem [] w w' [] ∧ Sat Tryz.f161.ntmps [(2, .bool B)] a) ?_ ?_
 ·have hm := K
  refine G_quiet (by kernel_rfl) (by kernel_rfl) D (MS 1 [(1, pB c 0), (3, iv d), (11, pB c 0)] (zV (.slice f b.Slots.length g) (fun w_ M_ => (eL false 1 0 (M_.blk 0 rfl))) ?_))
  obtain ⟨t, N, hm⟩ := gx_bind hm
  refine ZC (iv t) (fun w_ M_ => c_i_firstEmpty w_ b.Slots f g (q.mem0 M_) N) (MS 2 [(1, pB c 0), (3, iv d), (15, .bool (decide (t < 0)))] ?_)
  rcases gx_bif hm with ⟨v, hm⟩ | ⟨v, hm⟩
  ·refine zK 15 true v (MS 3 [(1, pB c 0), (3, iv d), (15, .bool true), (18, .bool (decide (d < 0)))] ?_)
   rcases gx_bif hm with ⟨x, hm⟩ | ⟨x, hm⟩
   ·refine zK 18 true x (MS 15 [(2, .bool true)] (Z_end fun S E => ?_))
    obtain rfl := HS hm
    exact N_meet fun a ha => ⟨E.pk [], ha.s⟩
   refine zK 18 false x (MS 1 [(1, pB c 0), (3, iv d), (15, .bool true), (18, .bool false), (19, pB c 1)] (zV (.slice k b.Waiting.length n) (fun w_ M_ => (eL false 1 1 (M_.blk 0 rfl))) ?_))
   obtain ⟨h, z, hm⟩ := gx_bind hm
   refine zV (elemP k ((0 : Int).toNat * 2)) (fun w_ M_ => (eI (y.mem0 M_) rfl z)) (zV (.agg #[iv h.Irq, iv h.Priority]) (fun w_ M_ => (eE true 2 0 ((0 : Int).toNat * 2) (y.mem0 M_) z)) (MZ 1 (zV (.slice f b.Slots.length g) (fun w_ M_ => (eL false 1 0 (M_.blk 0 rfl))) (MS 1 [(15, .bool true), (18, .bool false), (22, .agg #[iv h.Irq, iv h.Priority]), (24, .slice f b.Slots.length g), (25, iv d)] ?_))))
   obtain ⟨j, A, hm⟩ := gx_bind hm
   refine zV (elemP f (d.toNat * 3)) (fun w_ M_ => (eI (q.mem0 M_) rfl A)) (zV (.agg #[iv j.State, iv j.Irq, iv j.Priority]) (fun w_ M_ => (eE true 3 0 (d.toNat * 3) (q.mem0 M_) A)) ?_)
   obtain ⟨o, O, hm⟩ := gx_bind hm
   refine ZC (.agg #[iv o.Irq, iv o.Priority]) (fun w_ M_ => c_i_waiterOf w_ j O) ?_
   obtain ⟨l, P, hm⟩ := gx_bind hm
   refine ZC (iv l) (fun w_ M_ => c_i_compareUrgency w_ h o P) (MS 4 [(2, .bool (decide (l > 0)))] (Z_end fun T F => ?_))
   obtain rfl := HS hm
   exact N_meet fun a ha => ⟨F.pk [], ha.s⟩
  refine zK 15 false v (MS 18 [(2, .bool false)] (Z_end fun U G => ?_))
  obtain rfl := HS hm
  exact N_meet fun a ha => ⟨G.pk [], ha.s⟩
 intro R V ⟨H, I⟩
 refine N_use I ?_
 have hm := J
 refine TN (G_ret ?_)
 obtain rfl := HS hm
 exact RA [.bool B] (⟨rfl, H.pk []⟩)
theorem c_i_IsQueue (w : World) (b : Queue) (d : Option Addr) (c : Nat) (n : rdS encSlot w b.Slots d c) (g : Option Addr) (f : Nat) (o : rdS encWaiter w b.Waiting g f) {r : Bool} (hm : M.i_IsQueue b = some r) :
  Calls Tryz.prog 113 #[.agg #[.slice d b.Slots.length c, .slice g b.Waiting.length f]] w fun e w' => e = .returned (.bool r) ∧ Mem [] w w' [] := by
 unfold M.i_IsQueue at hm
 refine cE Tryz.func113 ?_
 have M0 := Mem.refl [] w
 refine QA (wN (.cells ⟨[.slice d b.Slots.length c, .slice g b.Waiting.length f]⟩ 85 (0, 0)) M0 fun h i j => wR 1 [(1, pB h 0)] i (NE ?_))
 obtain ⟨q, A, z⟩ := gx_bind hm
 refine G_meet (fun a w' => Mem [] w w' [] ∧ Sat Tryz.f113.ntmps [(2, .bool q)] a) ?_ ?_
 ·have hm := A
  refine GR (MW 1 (wV (.slice d b.Slots.length c) i (eL false 1 0 (j.blk 0 rfl)) (wR 1 [(1, pB h 0), (4, .slice d b.Slots.length c), (5, pB h 1)] i (wV (.slice g b.Waiting.length f) i (eL false 1 1 (j.blk 0 rfl)) ?_))))
  obtain ⟨D, B, hm⟩ := gx_bind hm
  refine WD (c_i_areParts i b.Slots d c (n.mem0 j) b.Waiting g f (o.mem0 j) B) j fun l k => wR 1 [(1, pB h 0), (8, .bool D)] l ?_
  rcases gx_bif hm with ⟨m, hm⟩ | ⟨m, hm⟩
  ·refine wK 8 true m (wV (.agg #[.slice d b.Slots.length c, .slice g b.Waiting.length f]) l (eL true 2 0 (k.blk 0 rfl)) ?_)
   obtain ⟨E, C, hm⟩ := gx_bind hm
   refine WD (c_i_isSettled l b d c (n.mem0 k) g f (o.mem0 k) C) k fun F v => wR 2 [(2, .bool E)] F (WN ?_)
   obtain rfl := HS hm
   exact N_meet fun a ha => ⟨v.pk [], ha.s⟩
  refine wK 8 false m (wR 4 [(2, .bool false)] l (WN ?_))
  obtain rfl := HS hm
  exact N_meet fun a ha => ⟨k.pk [], ha.s⟩
 intro G H ⟨x, y⟩
 refine N_use y ?_
 have hm := z
 refine TN (G_ret ?_)
 obtain rfl := HS hm
 exact RA [.bool q] (⟨rfl, x.pk []⟩)
theorem c_i_copyInts (w : World) (a : List Int) (c : Option Addr) (b : Nat) (n : rdS Gx.encI w a c b) {r : (List Int)} (hm : M.i_copyInts a = some r) :
  Calls Tryz.prog 67 #[.slice c a.length b] w fun e w' => ∃ (j : Option Addr) (i : Nat) (k : Seg), e = .returned (.slice j r.length i) ∧ ownS Gx.encI r j i k ∧ Mem [] w w' [k] := by
 unfold M.i_copyInts at hm
 refine cE Tryz.func67 ?_
 have M0 := Mem.refl [] w
 refine QA (wR 1 [(0, .slice c a.length b)] w (NA (wL (E := Gx.encI) ([] : List Int) 0 [] 3 M0 fun u m z x q g => wR 1 [(3, .slice u ([] : List Int).length m), (4, .slice c a.length b)] x ?_)))
 obtain ⟨h, o, hm⟩ := gx_bind hm
 refine wA 8 [iv 0] 0 g q (n.mem0 g) o fun f d v y t l => wR 1 [(2, .slice f h.length d)] y (NC ?_)
 obtain rfl := HS hm
 exact RA [.slice f h.length d] (⟨f, d, v, rfl, t, l.pk [0]⟩)
theorem c_slices_Sort_114 (w : World) (b : List Int) (d : Option Addr) (c : Nat) (a : Seg) (g : ownS Gx.encI b d c a) (hA : ∀ q ∈ List.flatten [a], w.heap[q.1]? = some q.2) (hN : (idsOf [a]).Nodup) {r : (List Int)} (hm : M.slices_Sort_114 b = some r) :
  Calls Tryz.prog 114 #[.slice d b.length c] w fun e w' => ∃ (f : Seg), e = .returned (.tuple #[]) ∧ ownS Gx.encI r d c f ∧ r.length = b.length ∧ Mem (idsOf [a]) w w' [f] := by
 unfold M.slices_Sort_114 at hm
 rcases gx_bif hm with ⟨h, hm⟩ | ⟨h, hm⟩
 ·obtain rfl := HS hm
  exact sortI_run Tryz.slices_Sort_int Tryz.slices_Sort_int_none w b d c a g hA hN (of_decide_eq_true h)
 cases hm
theorem c_i_isActive (w : World) (b : Slot) {r : Bool} (hm : M.i_isActive b = some r) :
  Calls Tryz.prog 164 #[.agg #[iv b.State, iv b.Irq, iv b.Priority]] w fun e w' => e = .returned (.bool r) ∧ Mem [] w w' [] := by
 unfold M.i_isActive at hm
 refine cE Tryz.func164 ?_
 have M0 := Mem.refl [] w
 refine QA (wN (.cells ⟨[iv b.State, iv b.Irq, iv b.Priority]⟩ 117 (0, 0)) M0 fun d c f => wR 1 [(1, pB d 0)] c (NE ?_))
 obtain ⟨h, l, k⟩ := gx_bind hm
 refine G_meet (fun a w' => Mem [] w w' [] ∧ Sat Tryz.f164.ntmps [(2, .bool h)] a) ?_ ?_
 ·have hm := l
  refine GR (MW 1 (wV (iv b.State) c (eL false 1 0 (f.blk 0 rfl)) (wR 2 [(1, pB d 0), (6, .bool (b.State == 2))] c ?_)))
  rcases gx_bif hm with ⟨g, hm⟩ | ⟨g, hm⟩
  ·refine wK 6 true g (wR 5 [(2, .bool true)] c (WN ?_))
   obtain rfl := HS hm
   exact N_meet fun a ha => ⟨f.pk [], ha.s⟩
  refine wK 6 false g (MW 1 (wV (iv b.State) c (eL false 1 0 (f.blk 0 rfl)) (wR 3 [(2, .bool (b.State == 3))] c (WN ?_))))
  obtain rfl := HS hm
  exact N_meet fun a ha => ⟨f.pk [], ha.s⟩
 intro m n ⟨i, j⟩
 refine N_use j ?_
 have hm := k
 refine TN (G_ret ?_)
 obtain rfl := HS hm
 exact RA [.bool h] (⟨rfl, i.pk []⟩)
theorem c_i_activeIrqs (w : World) (b : List Slot) (h : Option Addr) (i : Nat) (N : rdS encSlot w b h i) {r : (List Int)} (hm : M.i_activeIrqs b = some r) :
  Calls Tryz.prog 116 #[.slice h b.length i] w fun e w' => ∃ (P : Option Addr) (K : Nat) (R : Seg), e = .returned (.slice P r.length K) ∧ ownS Gx.encI r P K R ∧ Mem [] w w' [R] := by
 unfold M.i_activeIrqs at hm
 refine cE Tryz.func116 ?_
 have M0 := Mem.refl [] w
 refine QA (wR 1 [(0, .slice h b.length i)] w (NA (wL (E := Gx.encI) ([] : List Int) 0 [] 3 M0 fun G A ay S al Y => MW 1 (NB (wR 3 [(3, .slice G ([] : List Int).length A), (7, .slice h b.length i), (8, iv (b.length : Int)), (9, iv 0)] S (NO ?_))))))
 obtain ⟨k, ax, ak⟩ := gx_bind hm
 refine G_meet (fun a w' => ∃ (g : Option Addr), ∃ (f : Nat), ∃ (v : Seg), ownS Gx.encI k g f v ∧ Mem [] w w' [v] ∧ Sat Tryz.f116.ntmps [(3, .slice g k.length f)] a) ?_ ?_
 ·refine GB (G_while (σ := List Int × Int) (ρ := List Int) (fun d a w' => ∃ (l : Option Addr), ∃ (j : Nat), ∃ (o : Seg), ownS Gx.encI d.1 l j o ∧ Mem [] w w' [o] ∧ Sat Tryz.f116.ntmps [(3, .slice l d.1.length j), (7, .slice h b.length i), (8, iv (b.length : Int)), (9, iv d.2)] a) ax (fun a ha => ⟨G, A, ay, al, Y.pk [0], ha.s⟩) ?_)
  clear hm
  intro d bf hm au a6 H ⟨l, j, o, D, q, af⟩
  refine G_use af (QA (wR 1 [(3, .slice l d.1.length j), (7, .slice h b.length i), (8, iv (b.length : Int)), (9, iv d.2), (10, .bool (decide (d.2 < (b.length : Int))))] H (NE ?_)))
  rcases gx_bif hm with ⟨B, hm⟩ | ⟨B, hm⟩
  ·refine gT B (KD ?_)
   obtain ⟨c, O, hm⟩ := gx_bind hm
   refine wV (elemP h (d.2.toNat * 3)) H (eI (N.mem0 q) rfl O) (wV (.agg #[iv c.State, iv c.Irq, iv c.Priority]) H (eE true 3 0 (d.2.toNat * 3) (N.mem0 q) O) (wN (.cells ⟨[iv 0, iv 0, iv 0]⟩ 117 (0, 0)) q fun ae bd Z => wS true 3 0 (.agg #[iv c.State, iv c.Irq, iv c.Priority]) 1 [iv c.State, iv c.Irq, iv c.Priority] Z rfl fun T I => NA (wV (.agg #[iv c.State, iv c.Irq, iv c.Priority]) T (eL true 3 0 (I.blk 1 rfl)) ?_)))
   obtain ⟨bb, av, hm⟩ := gx_bind hm
   refine WD (c_i_isActive T c av) I fun U y => NO ?_
   obtain ⟨F, an, aj⟩ := gx_bind hm
   refine G_meet (fun a w' => ∃ (n : Option Addr), ∃ (m : Nat), ∃ (x : Seg), ownS Gx.encI F n m x ∧ Mem [] w w' [x] ∧ Sat Tryz.f116.ntmps [(3, .slice n F.length m), (7, .slice h b.length i), (8, iv (b.length : Int)), (9, iv d.2)] a) ?_ ?_
   ·have hm := an
    rcases gx_bif hm with ⟨C, hm⟩ | ⟨C, hm⟩
    ·refine gT C (GR (wR 2 [(3, .slice l d.1.length j), (7, .slice h b.length i), (8, iv (b.length : Int)), (9, iv d.2), (15, .slice l d.1.length j), (16, pB ae 1)] U (wV (iv c.Irq) U (eL false 1 1 (y.blk 1 rfl)) (wL (E := Gx.encI) [c.Irq] 1 [iv c.Irq] 3 y ?_))))
     intro ba a9 bc be ap J
     obtain ⟨ad, ai, hm⟩ := gx_bind hm
     refine wA 8 [iv 0] 0 J D (ap.r J 2) ai fun Q L az a3 aq aa => wR 1 [(3, .slice Q ad.length L), (7, .slice h b.length i), (8, iv (b.length : Int)), (9, iv d.2)] a3 (WN ?_)
     obtain rfl := HS hm
     exact N_meet fun a ha => ⟨Q, L, az, aq, aa.pk [0], ha.s⟩
    refine gF C (GK ?_)
    obtain rfl := HS hm
    exact N_meet fun a ha => ⟨l, j, o, D, y.pk [0], ha.s⟩
   intro a7 a4 ⟨n, m, x, ao, ab, ag⟩
   refine N_use ag ?_
   have hm := aj
   refine BN (TN (GR (wR 2 [(3, .slice n F.length m), (7, .slice h b.length i), (8, iv (b.length : Int)), (9, iv (w64 (d.2 + 1)))] a4 (WN ?_))))
   cases hm
   exact N_loop fun a ha => ⟨_, rfl, n, m, x, ao, ab.pk [0], ha.s⟩
  refine gF B (XA ?_)
  obtain rfl := HS hm
  obtain rfl := au _ rfl
  exact N_meet fun a ha => ⟨l, j, o, D, q.pk [0], ha.s⟩
 intro a8 V ⟨g, f, v, am, z, ah⟩
 refine N_use ah ?_
 have hm := ak
 refine NF (wR 1 [(3, .slice g k.length f), (21, .slice g k.length f)] V ?_)
 obtain ⟨u, aw, hm⟩ := gx_bind hm
 refine WC ((c_slices_Sort_114 V k g f v am (z.hasPick [0]) (z.nodupPick [0] (by kernel_rfl)) aw).mono ?_)
 rintro e_ a5 ⟨a0, rfl, ar, t, X⟩
 have ac := z.callF' [0] [] (by kernel_rfl) X
 refine ⟨_, rfl, ?_⟩
 refine LY 3 g f t (LY 21 g f t (NA (wR 2 [(2, .slice g u.length f)] a5 (NC ?_))))
 obtain rfl := HS hm
 exact RA [.slice g u.length f] (⟨g, f, a0, rfl, ar, ac.pk [0]⟩)
theorem c_slices_Equal_115 (w : World) (b : List Int) (f : Option Addr) (h : Nat) (t : rdS Gx.encI w b f h) (d : List Int) (g : Option Addr) (i : Nat) (u : rdS Gx.encI w d g i) {r : Bool} (hm : M.slices_Equal_115 b d = some r) :
  Calls Tryz.prog 115 #[.slice f b.length h, .slice g d.length i] w fun e w' => e = .returned (.bool r) ∧ Mem [] w w' [] := by
 unfold M.slices_Equal_115 at hm
 refine cE Tryz.func115 ?_
 have M0 := Mem.refl [] w
 refine QA (MW 1 (NB (wR 5 [(0, .slice f b.length h), (1, .slice g d.length i), (10, .bool ((b.length : Int) != (d.length : Int)))] w (NO ?_))))
 rcases gx_bif hm with ⟨k, hm⟩ | ⟨k, hm⟩
 ·refine gT k (QA (wR 1 [(4, .bool false)] w (ND ?_)))
  obtain rfl := HS hm
  exact RA [.bool false] (⟨rfl, M0.pk []⟩)
 refine gF k (KB (wR 3 [(0, .slice f b.length h), (1, .slice g d.length i), (12, iv (b.length : Int)), (13, iv 0)] w (NO ?_)))
 obtain ⟨H, G, v⟩ := gx_bind hm
 refine G_meet (fun a w' => ∃ (A : Unit), H = .inl A ∧ Mem [] w w' [] ∧ Sat Tryz.f115.ntmps [] a) ?_ ?_
 ·refine GB (G_while (σ := Int) (ρ := (Unit) ⊕ (Bool)) (fun c a w' => Mem [] w w' [] ∧ Sat Tryz.f115.ntmps [(0, .slice f b.length h), (1, .slice g d.length i), (12, iv (b.length : Int)), (13, iv c)] a) G (fun a ha => ⟨M0.pk [], ha.s⟩) ?_)
  clear hm
  intro c L hm x J B ⟨o, E⟩
  refine G_use E (QA (wR 1 [(0, .slice f b.length h), (1, .slice g d.length i), (12, iv (b.length : Int)), (13, iv c), (14, .bool (decide (c < (b.length : Int))))] B (NE ?_)))
  rcases gx_bif hm with ⟨l, hm⟩ | ⟨l, hm⟩
  ·refine gT l (KD (MW 2 (NE (G_quiet (by kernel_rfl) (by kernel_rfl) o (MS 2 [(0, .slice f b.length h), (1, .slice g d.length i), (5, iv c), (12, iv (b.length : Int)), (13, iv c), (16, .slice f b.length h), (17, iv c)] ?_)))))
   obtain ⟨j, y, hm⟩ := gx_bind hm
   refine zV (elemP f (c.toNat * 1)) (fun w_ M_ => (eI (t.mem0 M_) rfl y)) (zV (iv j) (fun w_ M_ => (eE false 1 0 (c.toNat * 1) (t.mem0 M_) y)) (MS 2 [(0, .slice f b.length h), (1, .slice g d.length i), (12, iv (b.length : Int)), (13, iv c), (19, iv j), (20, .slice g d.length i), (21, iv c)] ?_))
   obtain ⟨n, z, hm⟩ := gx_bind hm
   refine zV (elemP g (c.toNat * 1)) (fun w_ M_ => (eI (u.mem0 M_) rfl z)) (zV (iv n) (fun w_ M_ => (eE false 1 0 (c.toNat * 1) (u.mem0 M_) z)) (MS 1 [(0, .slice f b.length h), (1, .slice g d.length i), (12, iv (b.length : Int)), (13, iv c), (24, .bool (j != n))] (Z_end fun C q => (TN ?_))))
   rcases gx_bif hm with ⟨m, hm⟩ | ⟨m, hm⟩
   ·refine gT m (QA (wR 1 [(4, .bool false)] C (NX ?_)))
    obtain rfl := HS hm
    obtain rfl := x _ rfl
    have hm := v; simp only [Sum.elim_inr] at hm
    refine BR (N_meet_ret (TR ?_))
    obtain rfl := HS hm
    exact RA [.bool false] (⟨rfl, q.pk []⟩)
   refine gF m (KC (wR 2 [(0, .slice f b.length h), (1, .slice g d.length i), (12, iv (b.length : Int)), (13, iv (w64 (c + 1)))] C (WN ?_)))
   cases hm
   exact N_loop fun a ha => ⟨_, rfl, q.pk [], ha.s⟩
  refine gF l (XA ?_)
  obtain rfl := HS hm
  obtain rfl := x _ rfl
  exact N_meet fun a ha => ⟨_, rfl, o.pk [], ha.s⟩
 intro K I ⟨A, hout_, D, F⟩
 refine N_use F ?_
 subst hout_
 have hm := v; simp only [Sum.elim_inl] at hm
 refine NF (wR 1 [(4, .bool true)] I (NC ?_))
 obtain rfl := HS hm
 exact RA [.bool true] (⟨rfl, D.pk []⟩)
theorem c_i_priorityIn (w : World) (b : List Slot) (a : Option Addr) (c : Nat) (g : rdS encSlot w b a c) (d : Int) {r : Int} (hm : M.i_priorityIn b d = some r) :
  Calls Tryz.prog 117 #[.slice a b.length c, iv d] w fun e w' => e = .returned (iv r) ∧ Mem [] w w' [] := by
 unfold M.i_priorityIn at hm
 refine cE Tryz.func117 ?_
 have M0 := Mem.refl [] w
 refine QA (MW 1 (NA (wR 3 [(5, .slice a b.length c), (6, .slice a b.length c), (7, iv d)] w ?_)))
 obtain ⟨h, m, hm⟩ := gx_bind hm
 refine WD (c_i_findSlot w b a c (g.mem0 M0) d m) M0 fun i f => ?_
 obtain ⟨k, j, hm⟩ := gx_bind hm
 refine wV (elemP a (h.toNat * 3)) i (eI (g.mem0 f) rfl j) (wV (elemP a (h.toNat * 3 + 2)) i (eF 2 (h.toNat * 3) 2 (g.mem0 f) j) (wV (iv k.Priority) i (eE false 1 2 (h.toNat * 3 + 2) (g.mem0 f) j) (wR 1 [(4, iv k.Priority)] i (NC ?_))))
 obtain rfl := HS hm
 exact RA [iv k.Priority] (⟨rfl, f.pk []⟩)
theorem c_i_IsInterface (w : World) (b : Interface) (h : Option Addr) (i : Nat) (t : rdS Gx.encI w b.Stack h i) (g : Option Addr) (f : Nat) (y : rdS encSlot w b.Queue.Slots g f) (m : Option Addr) (l : Nat) (an : rdS encWaiter w b.Queue.Waiting m l) {r : Bool} (hm : M.i_IsInterface b = some r) :
  Calls Tryz.prog 59 #[.agg #[iv b.Mask, .slice h b.Stack.length i, .slice g b.Queue.Slots.length f, .slice m b.Queue.Waiting.length l]] w fun e w' => e = .returned (.bool r) ∧ Mem [] w w' [] := by
 unfold M.i_IsInterface at hm
 refine cE Tryz.func59 ?_
 have M0 := Mem.refl [] w
 refine QA (wN (.cells ⟨[iv b.Mask, .slice h b.Stack.length i, .slice g b.Queue.Slots.length f, .slice m b.Queue.Waiting.length l]⟩ 87 (0, 0)) M0 fun c A T => wR 1 [(1, pB c 0)] A (NE (GS ?_)))
 obtain ⟨a9, au, ar⟩ := gx_bind hm
 refine G_meet (fun a w' => Mem [] w w' [[(c, .cells ⟨[iv b.Mask, .slice h b.Stack.length i, .slice g b.Queue.Slots.length f, .slice m b.Queue.Waiting.length l]⟩ 87 (0, 0))]] ∧ Sat Tryz.f59.ntmps [(1, pB c 0), (14, .bool a9)] a) ?_ ?_
 ·have hm := au
  refine GR (wR 1 [(1, pB c 0), (5, pB c 0)] A (wV (iv b.Mask) A (eL false 1 0 (T.blk 0 rfl)) ?_))
  obtain ⟨bb, ay, hm⟩ := gx_bind hm
  refine WD (c_i_isMask A b.Mask ay) T fun v q => wR 2 [(1, pB c 0), (9, .bool (!bb))] v ?_
  rcases gx_bif hm with ⟨G, hm⟩ | ⟨G, hm⟩
  ·refine wK 9 true G (wR 5 [(1, pB c 0), (14, .bool true)] v (WN ?_))
   obtain rfl := HS hm
   exact N_meet fun a ha => ⟨q.pk [0], ha.s⟩
  refine wK 9 false G (wR 1 [(1, pB c 0), (9, .bool false), (10, pB c 2)] v (wV (.agg #[.slice g b.Queue.Slots.length f, .slice m b.Queue.Waiting.length l]) v (eL true 2 2 (q.blk 0 rfl)) ?_))
  obtain ⟨bc, az, hm⟩ := gx_bind hm
  refine WD (c_i_IsQueue v b.Queue g f (y.mem0 q) m l (an.mem0 q) az) q fun bf al => wR 2 [(1, pB c 0), (14, .bool (!bc))] bf (WN ?_)
  obtain rfl := HS hm
  exact N_meet fun a ha => ⟨al.pk [0], ha.s⟩
 intro bi B ⟨x, ao⟩
 refine N_use ao ?_
 have hm := ar
 refine TN ?_
 rcases gx_bif hm with ⟨H, hm⟩ | ⟨H, hm⟩
 ·refine gT H (QA (wR 1 [(2, .bool false)] B (ND ?_)))
  obtain rfl := HS hm
  exact RA [.bool false] (⟨rfl, x.pk []⟩)
 refine gF H (KA (wR 1 [(1, pB c 0), (15, pB c 1)] B (wV (.slice h b.Stack.length i) B (eL false 1 1 (x.blk 0 rfl)) ?_)))
 obtain ⟨n, a0, hm⟩ := gx_bind hm
 refine WC ((c_i_copyInts B b.Stack h i (t.mem0 x) a0).mono ?_)
 rintro e_ N ⟨k, j, be, rfl, av, ah⟩
 have C := x.call ah
 refine ⟨_, rfl, ?_⟩
 refine MW 1 (NA (wR 1 [(1, pB c 0), (3, .slice k n.length j), (18, .slice k n.length j)] N ?_))
 obtain ⟨u, a3, hm⟩ := gx_bind hm
 refine WC ((c_slices_Sort_114 N n k j be av (C.hasPick [1]) (C.nodupPick [1] (by kernel_rfl)) a3).mono ?_)
 rintro e_ O ⟨bl, rfl, aw, z, ai⟩
 have D := C.callF' [1] [0] (by kernel_rfl) ai
 refine ⟨_, rfl, ?_⟩
 refine LY 3 k j z (LY 18 k j z (NB (wR 3 [(1, pB c 0), (20, .slice k u.length j), (22, pB c 2)] O (wV (.slice g b.Queue.Slots.length f) O (eL false 1 2 (D.blk 0 rfl)) ?_))))
 obtain ⟨ad, a4, hm⟩ := gx_bind hm
 refine WC ((c_i_activeIrqs O b.Queue.Slots g f (y.mem0 D) a4).mono ?_)
 rintro e_ bg ⟨ac, W, bm, rfl, ax, aj⟩
 have E := D.call aj
 refine ⟨_, rfl, ?_⟩
 obtain ⟨bd, a5, hm⟩ := gx_bind hm
 refine WD (c_slices_Equal_115 bg u k j (aw.r E 1) ad ac W (ax.r E 2) a5) E fun P U => wR 1 [(1, pB c 0), (26, .bool (!bd))] P (NO ?_)
 rcases gx_bif hm with ⟨I, hm⟩ | ⟨I, hm⟩
 ·refine gT I (QA (wR 1 [(2, .bool false)] P (ND ?_)))
  obtain rfl := HS hm
  exact RA [.bool false] (⟨rfl, U.pk []⟩)
 refine gF I (KB (wR 1 [(1, pB c 0), (4, iv 1)] P (NO ?_)))
 obtain ⟨ba, a8, X⟩ := gx_bind hm
 refine G_meet (fun a w' => ∃ (ab : Unit), ba = .inl ab ∧ Mem [] w w' [] ∧ Sat Tryz.f59.ntmps [] a) ?_ ?_
 ·refine GB (G_while (σ := Int) (ρ := (Unit) ⊕ (Bool)) (fun d a w' => Mem [] w w' [[(c, .cells ⟨[iv b.Mask, .slice h b.Stack.length i, .slice g b.Queue.Slots.length f, .slice m b.Queue.Waiting.length l]⟩ 87 (0, 0))]] ∧ Sat Tryz.f59.ntmps [(1, pB c 0), (4, iv d)] a) a8 (fun a ha => ⟨U.pk [0], ha.s⟩) ?_)
  clear hm
  intro d bn hm Y bj Q ⟨F, ap⟩
  refine G_use ap (QB (MW 2 (wV (.slice h b.Stack.length i) Q (eL false 1 1 (F.blk 0 rfl)) (wR 2 [(1, pB c 0), (4, iv d), (31, .bool (decide (d < (b.Stack.length : Int))))] Q (NO ?_)))))
  rcases gx_bif hm with ⟨J, hm⟩ | ⟨J, hm⟩
  ·refine gT J (GK (TN (GS (GB (GS (G_quiet (by kernel_rfl) (by kernel_rfl) F (MZ 2 (zV (.slice g b.Queue.Slots.length f) (fun w_ M_ => (eL false 1 2 (M_.blk 0 rfl))) (MZ 1 (zV (.slice h b.Stack.length i) (fun w_ M_ => (eL false 1 1 (M_.blk 0 rfl))) (MS 1 [(1, pB c 0), (4, iv d), (36, .slice g b.Queue.Slots.length f), (38, .slice h b.Stack.length i), (39, iv d)] ?_)))))))))))
   obtain ⟨R, Z, hm⟩ := gx_bind hm
   refine zV (elemP h (d.toNat * 1)) (fun w_ M_ => (eI (t.mem0 M_) rfl Z)) (zV (iv R) (fun w_ M_ => (eE false 1 0 (d.toNat * 1) (t.mem0 M_) Z)) ?_)
   obtain ⟨o, a6, hm⟩ := gx_bind hm
   refine ZC (iv o) (fun w_ M_ => c_i_priorityIn w_ b.Queue.Slots g f (y.mem0 M_) R a6) (MZ 2 (zV (.slice g b.Queue.Slots.length f) (fun w_ M_ => (eL false 1 2 (M_.blk 0 rfl))) (MZ 1 (zV (.slice h b.Stack.length i) (fun w_ M_ => (eL false 1 1 (M_.blk 0 rfl))) (MS 2 [(1, pB c 0), (4, iv d), (42, iv o), (45, .slice g b.Queue.Slots.length f), (47, .slice h b.Stack.length i), (49, iv (w64 (d - 1)))] ?_)))))
   obtain ⟨S, aa, hm⟩ := gx_bind hm
   refine zV (elemP h ((w64 (d - 1)).toNat * 1)) (fun w_ M_ => (eI (t.mem0 M_) rfl aa)) (zV (iv S) (fun w_ M_ => (eE false 1 0 ((w64 (d - 1)).toNat * 1) (t.mem0 M_) aa)) ?_)
   obtain ⟨L, a7, hm⟩ := gx_bind hm
   refine ZC (iv L) (fun w_ M_ => c_i_priorityIn w_ b.Queue.Slots g f (y.mem0 M_) S a7) (MS 1 [(1, pB c 0), (4, iv d), (53, .bool (decide (o ≥ L)))] (Z_end fun ae V => (TN ?_)))
   rcases gx_bif hm with ⟨K, hm⟩ | ⟨K, hm⟩
   ·refine gT K (QA (wR 1 [(2, .bool false)] ae (NX ?_)))
    obtain rfl := HS hm
    obtain rfl := Y _ rfl
    have hm := X; simp only [Sum.elim_inr] at hm
    refine BR (N_meet_ret (TR ?_))
    obtain rfl := HS hm
    exact RA [.bool false] (⟨rfl, V.pk []⟩)
   refine gF K (KC (wR 3 [(1, pB c 0), (4, iv (w64 (d + 1)))] ae (WN ?_)))
   cases hm
   exact N_loop fun a ha => ⟨_, rfl, V.pk [0], ha.s⟩
  refine gF J (XA ?_)
  obtain rfl := HS hm
  obtain rfl := Y _ rfl
  exact N_meet fun a ha => ⟨_, rfl, F.pk [], ha.s⟩
 intro bk bh ⟨ab, hout_, am, aq⟩
 refine N_use aq ?_
 subst hout_
 have hm := X; simp only [Sum.elim_inl] at hm
 refine NF (wR 1 [(2, .bool true)] bh (NC ?_))
 obtain rfl := HS hm
 exact RA [.bool true] (⟨rfl, am.pk []⟩)
theorem c_slices_Clone_118 (w : World) (b : List Waiter) (d : Option Addr) (a : Nat) (j : rdS encWaiter w b d a) {r : (List Waiter)} (hm : M.slices_Clone_118 b = some r) :
  Calls Tryz.prog 118 #[.slice d b.length a] w fun e w' => ∃ (k : Option Addr) (i : Nat) (l : Seg), e = .returned (.slice k r.length i) ∧ ownS encWaiter r k i l ∧ Mem [] w w' [l] := by
 unfold M.slices_Clone_118 at hm
 cases d with
 | none =>
  have hx : b = [] := by rcases j.2 with hh | ⟨_, _, _, _, _, hp, _⟩; exact hh; cases hp
  subst hx
  have hm : some ([] : List Waiter) = some r := by simpa [gxApp] using hm
  refine cE Tryz.func118 ?_
  have M0 := Mem.refl [] w
  refine QA (MW 1 (NB (MW 2 (NO (gT rfl (QA (wR 1 [(2, .slice none 0 0)] w (WN (TN (G_ret (TR ?_)))))))))))
  cases hm
  exact RA [.slice none 0 0] (⟨none, 0, [], rfl, ownS_nil, M0.pk [100000]⟩)
 | some a_ =>
  refine cE Tryz.func118 ?_
  have M0 := Mem.refl [] w
  refine QA (MW 1 (NB (wR 2 [(0, .slice (some a_) b.length a), (4, .bool false)] w (NO (gF rfl (KA (wL (E := encWaiter) ([] : List Waiter) 0 [] 142 M0 fun u n z x q g => wR 1 [(5, .slice u ([] : List Waiter).length n), (6, .slice (some a_) b.length a)] x ?_)))))))
  obtain ⟨h, o, hm⟩ := gx_bind hm
  refine wA 16 [iv 0, iv 0] 0 g q (j.mem0 g) o fun f c v y t m => wR 1 [(2, .slice f h.length c)] y (NC ?_)
  obtain rfl := HS hm
  exact RA [.slice f h.length c] (⟨f, c, v, rfl, t, m.pk [0]⟩)
theorem c_i_fitsRoutes_1 (w : World) (b : Waiter) (h : List Route) (g : Option Addr) (i : Nat) (k : rdS encRoute w h g i) (j : Nat) (o : w.heap[j]? = some (.cells ⟨[.slice g h.length i]⟩ 29 (0, 0))) (c : Int) (f : Nat) (q : w.heap[f]? = some (.cells ⟨[iv c]⟩ 3 (0, 0))) {r : Bool} (hm : M.i_fitsRoutes_1 b h c = some r) :
  Calls Tryz.prog 121 #[.agg #[iv b.Irq, iv b.Priority], pB j 0, pB f 0] w fun e w' => e = .returned (.bool r) ∧ Mem [] w w' [] := by
 unfold M.i_fitsRoutes_1 at hm
 refine cE Tryz.func121 ?_
 have M0 := Mem.refl [] w
 refine QA (wN (.cells ⟨[iv b.Irq, iv b.Priority]⟩ 142 (0, 0)) M0 fun d t m => MW 1 (NE (G_quiet (by kernel_rfl) (by kernel_rfl) m (zV (.slice g h.length i) (fun w_ M_ => (eL false 1 0 (M_.ro o))) (MS 1 [(2, pB f 0), (3, pB d 0), (5, .slice g h.length i), (6, pB d 0)] (zV (iv b.Irq) (fun w_ M_ => (eL false 1 0 (M_.blk 0 rfl))) ?_))))))
 obtain ⟨a, l, hm⟩ := gx_bind hm
 refine zV (elemP g (b.Irq.toNat * 2)) (fun w_ M_ => (eI (k.mem0 M_) rfl l)) (zV (.agg #[iv a.Priority, iv a.Target]) (fun w_ M_ => (eE true 2 0 (b.Irq.toNat * 2) (k.mem0 M_) l)) (MZ 1 (zV (iv b.Priority) (fun w_ M_ => (eL false 1 1 (M_.blk 0 rfl))) (zV (iv c) (fun w_ M_ => (eL false 1 0 (M_.ro q))) (MZ 1 (zV (.bool (!((a.Priority == b.Priority) && ((a.Target == c) && true)))) (fun w_ M_ => (E_neqAgg _ _ _ _ [iv a.Priority, iv a.Target] [iv b.Priority, iv c] ((a.Priority == b.Priority) && ((a.Target == c) && true)) rfl (by kernel_rfl) (by kernel_rfl) (by kernel_rfl) (by kernel_rfl) (by kernel_rfl) (by kernel_rfl))) (MS 1 [(4, .bool (!((a.Priority == b.Priority) && ((a.Target == c) && true))))] (Z_end fun u n => (TN (G_ret ?_))))))))))
 cases hm
 exact RA [.bool (!((a.Priority == b.Priority) && ((a.Target == c) && true)))] (⟨rfl, n.pk []⟩)
theorem c_slices_IndexFunc_166__i_fitsRoutes_1 (w : World) (b : List Waiter) (g : Option Addr) (h : Nat) (v : rdS encWaiter w b g h) (l : List Route) (q : Option Addr) (m : Nat) (E : rdS encRoute w l q m) (d : Nat) (H : w.heap[d]? = some (.cells ⟨[.slice q l.length m]⟩ 29 (0, 0))) (t : Int) (f : Nat) (I : w.heap[f]? = some (.cells ⟨[iv t]⟩ 3 (0, 0))) {r : Int} (hm : M.slices_IndexFunc_166__i_fitsRoutes_1 b l t = some r) :
  Calls Tryz.prog 166 #[.slice g b.length h, .func (.func 121) #[] #[pB d 0, pB f 0]] w fun e w' => e = .returned (iv r) ∧ Mem [] w w' [] := by
 unfold M.slices_IndexFunc_166__i_fitsRoutes_1 at hm
 refine cE Tryz.func166 ?_
 have M0 := Mem.refl [] w
 refine QA (MW 1 (NB (wR 3 [(0, .slice g b.length h), (1, .func (.func 121) #[] #[pB d 0, pB f 0]), (7, iv (b.length : Int)), (8, iv 0)] w (NO ?_))))
 obtain ⟨L, K, x⟩ := gx_bind hm
 refine G_meet (fun a w' => ∃ (A : Unit), L = .inl A ∧ Mem [] w w' [] ∧ Sat Tryz.f166.ntmps [] a) ?_ ?_
 ·refine GB (G_while (σ := Int) (ρ := (Unit) ⊕ (Int)) (fun c a w' => Mem [] w w' [] ∧ Sat Tryz.f166.ntmps [(0, .slice g b.length h), (1, .func (.func 121) #[] #[pB d 0, pB f 0]), (7, iv (b.length : Int)), (8, iv c)] a) K (fun a ha => ⟨M0.pk [], ha.s⟩) ?_)
  clear hm
  intro c R hm y O j ⟨i, F⟩
  refine G_use F (QA (wR 1 [(0, .slice g b.length h), (1, .func (.func 121) #[] #[pB d 0, pB f 0]), (7, iv (b.length : Int)), (8, iv c), (9, .bool (decide (c < (b.length : Int))))] j (NE ?_)))
  rcases gx_bif hm with ⟨n, hm⟩ | ⟨n, hm⟩
  ·refine gT n (KD (MW 2 (NA (wR 3 [(0, .slice g b.length h), (1, .func (.func 121) #[] #[pB d 0, pB f 0]), (5, iv c), (7, iv (b.length : Int)), (8, iv c), (11, .func (.func 121) #[] #[pB d 0, pB f 0]), (12, .slice g b.length h), (13, iv c)] j ?_))))
   obtain ⟨k, z, hm⟩ := gx_bind hm
   refine wV (elemP g (c.toNat * 2)) j (eI (v.mem0 i) rfl z) (wV (.agg #[iv k.Irq, iv k.Priority]) j (eE true 2 0 (c.toNat * 2) (v.mem0 i) z) ?_)
   obtain ⟨Q, J, hm⟩ := gx_bind hm
   refine WD (c_i_fitsRoutes_1 j k l q m (E.mem0 i) d (i.ro H) t f (i.ro I) J) i fun B u => NO ?_
   rcases gx_bif hm with ⟨o, hm⟩ | ⟨o, hm⟩
   ·refine gT o (QA (wR 2 [(4, iv c)] B (NX ?_)))
    obtain rfl := HS hm
    obtain rfl := y _ rfl
    have hm := x; simp only [Sum.elim_inr] at hm
    refine BR (N_meet_ret (TR ?_))
    obtain rfl := HS hm
    exact RA [iv c] (⟨rfl, u.pk []⟩)
   refine gF o (KC (wR 2 [(0, .slice g b.length h), (1, .func (.func 121) #[] #[pB d 0, pB f 0]), (7, iv (b.length : Int)), (8, iv (w64 (c + 1)))] B (WN ?_)))
   cases hm
   exact N_loop fun a ha => ⟨_, rfl, u.pk [], ha.s⟩
  refine gF n (XA ?_)
  obtain rfl := HS hm
  obtain rfl := y _ rfl
  exact N_meet fun a ha => ⟨_, rfl, i.pk [], ha.s⟩
 intro P N ⟨A, hout_, D, G⟩
 refine N_use G ?_
 subst hout_
 have hm := x; simp only [Sum.elim_inl] at hm
 refine NF (wR 1 [(4, iv (-1))] N (NC ?_))
 cases hm
 exact RA [iv (-1)] (⟨rfl, D.pk []⟩)
theorem c_slices_ContainsFunc_120__i_fitsRoutes_1 (w : World) (a : List Waiter) (f : Option Addr) (d : Nat) (n : rdS encWaiter w a f d) (g : List Route) (i : Option Addr) (h : Nat) (o : rdS encRoute w g i h) (b : Nat) (q : w.heap[b]? = some (.cells ⟨[.slice i g.length h]⟩ 29 (0, 0))) (j : Int) (c : Nat) (t : w.heap[c]? = some (.cells ⟨[iv j]⟩ 3 (0, 0))) {r : Bool} (hm : M.slices_ContainsFunc_120__i_fitsRoutes_1 a g j = some r) :
  Calls Tryz.prog 120 #[.slice f a.length d, .func (.func 121) #[] #[pB b 0, pB c 0]] w fun e w' => e = .returned (.bool r) ∧ Mem [] w w' [] := by
 unfold M.slices_ContainsFunc_120__i_fitsRoutes_1 at hm
 refine cE Tryz.func120 ?_
 have M0 := Mem.refl [] w
 refine QA (MW 1 (NA (wR 2 [(5, .slice f a.length d), (6, .func (.func 121) #[] #[pB b 0, pB c 0])] w ?_)))
 obtain ⟨k, u, hm⟩ := gx_bind hm
 refine WD (c_slices_IndexFunc_166__i_fitsRoutes_1 w a f d (n.mem0 M0) g i h (o.mem0 M0) b (M0.ro q) j c (M0.ro t) u) M0 fun v m => wR 2 [(4, .bool (decide (k ≥ 0)))] v (NC ?_)
 cases hm
 exact RA [.bool (decide (k ≥ 0))] (⟨rfl, m.pk []⟩)
theorem c_i_fitsRoutes (w : World) (n : List Route) (t : Option Addr) (q : Nat) (az : rdS encRoute w n t q) (u : Int) (c : Interface) (X : Option Addr) (R : Nat) (bs : rdS Gx.encI w c.Stack X R) (i : Option Addr) (j : Nat) (af : rdS encSlot w c.Queue.Slots i j) (B : Option Addr) (z : Nat) (a0 : rdS encWaiter w c.Queue.Waiting B z) {r : Bool} (hm : M.i_fitsRoutes n u c = some r) :
  Calls Tryz.prog 60 #[.slice t n.length q, iv u, .agg #[iv c.Mask, .slice X c.Stack.length R, .slice i c.Queue.Slots.length j, .slice B c.Queue.Waiting.length z]] w fun e w' => e = .returned (.bool r) ∧ Mem [] w w' [] := by
 unfold M.i_fitsRoutes at hm
 refine cE Tryz.func60 ?_
 have M0 := Mem.refl [] w
 refine QA (wN (.cells ⟨[.slice t n.length q]⟩ 29 (0, 0)) M0 fun d bv ap => wN (.cells ⟨[iv u]⟩ 3 (0, 0)) ap fun f bw aq => wN (.cells ⟨[iv c.Mask, .slice X c.Stack.length R, .slice i c.Queue.Slots.length j, .slice B c.Queue.Waiting.length z]⟩ 87 (0, 0)) aq fun F O Q => MW 1 (NA (wR 2 [(3, pB d 0), (4, pB f 0), (5, pB F 0), (11, pB F 3)] O (wV (.slice B c.Queue.Waiting.length z) O (eL false 1 3 (Q.blk 2 rfl)) ?_))))
 obtain ⟨Y, be, hm⟩ := gx_bind hm
 refine WC ((c_slices_Clone_118 O c.Queue.Waiting B z (a0.mem0 Q) be).mono ?_)
 rintro e_ P ⟨L, K, bj, rfl, a8, am⟩
 have ac := Q.call am
 refine ⟨_, rfl, ?_⟩
 refine MW 1 (NB (MW 2 (wV (.slice i c.Queue.Slots.length j) P (eL false 1 2 (ac.blk 2 rfl)) (wR 2 [(3, pB d 0), (4, pB f 0), (7, .slice L Y.length K), (16, .slice i c.Queue.Slots.length j), (17, iv (c.Queue.Slots.length : Int)), (18, iv 0)] P (NO ?_)))))
 obtain ⟨bi, bh, ag⟩ := gx_bind hm
 refine G_meet (fun a w' => ∃ (x : List Waiter), ∃ (C : Option Addr), ∃ (A : Nat), ∃ (aa : Seg), ownS encWaiter x C A aa ∧ bi = .inl x ∧ Mem [] w w' [[(d, .cells ⟨[.slice t n.length q]⟩ 29 (0, 0))], [(f, .cells ⟨[iv u]⟩ 3 (0, 0))], aa] ∧ Sat Tryz.f60.ntmps [(3, pB d 0), (4, pB f 0), (7, .slice C x.length A)] a) ?_ ?_
 ·refine GB (G_while (σ := List Waiter × Int) (ρ := (List Waiter) ⊕ (Bool)) (fun g a w' => ∃ (l : Option Addr), ∃ (k : Nat), ∃ (I : Seg), ownS encWaiter g.1 l k I ∧ Mem [] w w' [[(d, .cells ⟨[.slice t n.length q]⟩ 29 (0, 0))], [(f, .cells ⟨[iv u]⟩ 3 (0, 0))], I] ∧ Sat Tryz.f60.ntmps [(3, pB d 0), (4, pB f 0), (7, .slice l g.1.length k), (16, .slice i c.Queue.Slots.length j), (17, iv (c.Queue.Slots.length : Int)), (18, iv g.2)] a) bh (fun a ha => ⟨L, K, bj, a8, ac.pk [0, 1, 3], ha.s⟩) ?_)
  clear hm
  intro g b1 hm ah bo ab ⟨l, k, I, V, J, a3⟩
  refine G_use a3 (QA (wR 1 [(3, pB d 0), (4, pB f 0), (7, .slice l g.1.length k), (16, .slice i c.Queue.Slots.length j), (17, iv (c.Queue.Slots.length : Int)), (18, iv g.2), (19, .bool (decide (g.2 < (c.Queue.Slots.length : Int))))] ab (NE ?_)))
  rcases gx_bif hm with ⟨S, hm⟩ | ⟨S, hm⟩
  ·refine gT S (KD ?_)
   obtain ⟨h, ai, hm⟩ := gx_bind hm
   refine wV (elemP i (g.2.toNat * 3)) ab (eI (af.mem0 J) rfl ai) (wV (.agg #[iv h.State, iv h.Irq, iv h.Priority]) ab (eE true 3 0 (g.2.toNat * 3) (af.mem0 J) ai) (wN (.cells ⟨[iv 0, iv 0, iv 0]⟩ 117 (0, 0)) J fun v bx ar => wS true 3 0 (.agg #[iv h.State, iv h.Irq, iv h.Priority]) 3 [iv h.State, iv h.Irq, iv h.Priority] ar rfl fun m y => NB (MW 1 (wV (iv h.State) m (eL false 1 0 (y.blk 3 rfl)) (wR 1 [(3, pB d 0), (4, pB f 0), (7, .slice l g.1.length k), (9, pB v 0), (16, .slice i c.Queue.Slots.length j), (17, iv (c.Queue.Slots.length : Int)), (18, iv g.2), (24, .bool (h.State == 3))] m (NO ?_))))))
   rcases gx_bif hm with ⟨T, hm⟩ | ⟨T, hm⟩
   ·refine gT T (QA (wR 1 [(6, .bool false)] m (ND (BR (TR (TR ?_))))))
    obtain rfl := HS hm
    obtain rfl := ah _ rfl
    have hm := ag; simp only [Sum.elim_inr] at hm
    refine BR (N_meet_ret (TR ?_))
    obtain rfl := HS hm
    exact RA [.bool false] (⟨rfl, y.pk []⟩)
   refine gF T (KA (MW 1 (wV (iv h.State) m (eL false 1 0 (y.blk 3 rfl)) (wR 1 [(3, pB d 0), (4, pB f 0), (7, .slice l g.1.length k), (9, pB v 0), (16, .slice i c.Queue.Slots.length j), (17, iv (c.Queue.Slots.length : Int)), (18, iv g.2), (27, .bool (h.State != 0))] m (NO ?_)))))
   obtain ⟨W, ba, a7⟩ := gx_bind hm
   refine G_meet (fun a w' => ∃ (H : Option Addr), ∃ (G : Nat), ∃ (N : Seg), ownS encWaiter W H G N ∧ Mem [] w w' [[(d, .cells ⟨[.slice t n.length q]⟩ 29 (0, 0))], [(f, .cells ⟨[iv u]⟩ 3 (0, 0))], N] ∧ Sat Tryz.f60.ntmps [(3, pB d 0), (4, pB f 0), (7, .slice H W.length G), (16, .slice i c.Queue.Slots.length j), (17, iv (c.Queue.Slots.length : Int)), (18, iv g.2)] a) ?_ ?_
   ·have hm := ba
    rcases gx_bif hm with ⟨U, hm⟩ | ⟨U, hm⟩
    ·refine gT U (GR (wR 1 [(3, pB d 0), (4, pB f 0), (7, .slice l g.1.length k), (9, pB v 0), (16, .slice i c.Queue.Slots.length j), (17, iv (c.Queue.Slots.length : Int)), (18, iv g.2), (28, .slice l g.1.length k)] m (wV (.agg #[iv h.State, iv h.Irq, iv h.Priority]) m (eL true 3 0 (y.blk 3 rfl)) ?_)))
     obtain ⟨Z, bf, hm⟩ := gx_bind hm
     refine WD (c_i_waiterOf m h bf) y fun bz au => wL (E := encWaiter) [Z] 1 [iv Z.Irq, iv Z.Priority] 142 au ?_
     intro bt br bu b0 bc ad
     obtain ⟨ay, a6, hm⟩ := gx_bind hm
     refine wA 16 [iv 0, iv 0] 2 ad V (bc.r ad 4) a6 fun aj ae bk bl bd av => wR 1 [(3, pB d 0), (4, pB f 0), (7, .slice aj ay.length ae), (16, .slice i c.Queue.Slots.length j), (17, iv (c.Queue.Slots.length : Int)), (18, iv g.2)] bl (WN ?_)
     obtain rfl := HS hm
     exact N_meet fun a ha => ⟨aj, ae, bk, bd, av.pk [0, 1, 2], ha.s⟩
    refine gF U (GK ?_)
    obtain rfl := HS hm
    exact N_meet fun a ha => ⟨l, k, I, V, y.pk [0, 1, 2], ha.s⟩
   intro bp bm ⟨H, G, N, bb, aw, a4⟩
   refine N_use a4 ?_
   have hm := a7
   refine BN (TN (GR (wR 2 [(3, pB d 0), (4, pB f 0), (7, .slice H W.length G), (16, .slice i c.Queue.Slots.length j), (17, iv (c.Queue.Slots.length : Int)), (18, iv (w64 (g.2 + 1)))] bm (WN ?_))))
   cases hm
   exact N_loop fun a ha => ⟨_, rfl, H, G, N, bb, aw.pk [0, 1, 2], ha.s⟩
  refine gF S (XA ?_)
  obtain rfl := HS hm
  obtain rfl := ah _ rfl
  exact N_meet fun a ha => ⟨_, l, k, I, V, rfl, J.pk [0, 1, 2], ha.s⟩
 intro bq al ⟨x, C, A, aa, a9, hout_, D, a5⟩
 refine N_use a5 ?_
 subst hout_
 have hm := ag; simp only [Sum.elim_inl] at hm
 refine NF (wR 2 [(34, .slice C x.length A), (35, .func (.func 121) #[] #[pB d 0, pB f 0])] al ?_)
 obtain ⟨ak, bg, hm⟩ := gx_bind hm
 refine WD (c_slices_ContainsFunc_120__i_fitsRoutes_1 al x C A (a9.r D 2) n t q (az.mem0 D) d (D.blk 0 (b := d) (o := .cells ⟨[.slice t n.length q]⟩ 29 (0, 0)) (by kernel_rfl)) u f (D.blk 1 (b := f) (o := .cells ⟨[iv u]⟩ 3 (0, 0)) (by kernel_rfl)) bg) D fun bn ax => wR 2 [(6, .bool (!ak))] bn (NC ?_)
 cases hm
 exact RA [.bool (!ak)] (⟨rfl, ax.pk []⟩)
theorem c_i_IsMachine (w : World) (c : Machine) (k : Option Addr) (j : Nat) (P : rdS encRoute w c.Routes k j) (t : Option Addr) (o : Nat) (a8 : rdS Gx.encB w c.Enabled t o) (u : Option Addr) (q : Nat) (a9 : rdS Gx.encB w c.Raised u q) (h : Option Addr) (i : Nat) (ad : rdD deepInterface w c.Cpus h i) {r : Bool} (hm : M.i_IsMachine c = some r) :
  Calls Tryz.prog 15 #[.agg #[.slice k c.Routes.length j, .slice t c.Enabled.length o, .slice u c.Raised.length q, .slice h c.Cpus.length i]] w fun e w' => e = .returned (.bool r) ∧ Mem [] w w' [] := by
 unfold M.i_IsMachine at hm
 refine cE Tryz.func15 ?_
 have M0 := Mem.refl [] w
 refine QA (wN (.cells ⟨[.slice k c.Routes.length j, .slice t c.Enabled.length o, .slice u c.Raised.length q, .slice h c.Cpus.length i]⟩ 32 (0, 0)) M0 fun f v B => wR 1 [(1, pB f 0)] v (NE (GS ?_)))
 obtain ⟨ar, ak, ai⟩ := gx_bind hm
 refine G_meet (fun a w' => Mem [] w w' [[(f, .cells ⟨[.slice k c.Routes.length j, .slice t c.Enabled.length o, .slice u c.Raised.length q, .slice h c.Cpus.length i]⟩ 32 (0, 0))]] ∧ Sat Tryz.f15.ntmps [(1, pB f 0), (23, .bool ar)] a) ?_ ?_
 ·have hm := ak
  refine GR (MW 1 (wV (.slice k c.Routes.length j) v (eL false 1 0 (B.blk 0 rfl)) (MW 1 (wV (.slice h c.Cpus.length i) v (eL false 1 3 (B.blk 0 rfl)) (wR 1 [(1, pB f 0), (6, .slice k c.Routes.length j), (9, iv (c.Cpus.length : Int))] v ?_)))))
  obtain ⟨aw, am, hm⟩ := gx_bind hm
  refine WD (c_i_areRoutes v c.Routes k j (P.mem0 B) (c.Cpus.length : Int) am) B fun l z => wR 2 [(1, pB f 0), (12, .bool (!aw))] l ?_
  rcases gx_bif hm with ⟨H, hm⟩ | ⟨H, hm⟩
  ·refine wK 12 true H (wR 11 [(1, pB f 0), (23, .bool true)] l (WN ?_))
   obtain rfl := HS hm
   exact N_meet fun a ha => ⟨z.pk [0], ha.s⟩
  refine wK 12 false H (MW 1 (wV (.slice t c.Enabled.length o) l (eL false 1 1 (z.blk 0 rfl)) (wR 4 [(1, pB f 0), (18, .bool ((c.Enabled.length : Int) != 8))] l ?_)))
  rcases gx_bif hm with ⟨I, hm⟩ | ⟨I, hm⟩
  ·refine wK 18 true I (wR 5 [(1, pB f 0), (23, .bool true)] l (WN ?_))
   obtain rfl := HS hm
   exact N_meet fun a ha => ⟨z.pk [0], ha.s⟩
  refine wK 18 false I (MW 1 (wV (.slice u c.Raised.length q) l (eL false 1 2 (z.blk 0 rfl)) (wR 3 [(1, pB f 0), (23, .bool ((c.Raised.length : Int) != 8))] l (WN ?_))))
  obtain rfl := HS hm
  exact N_meet fun a ha => ⟨z.pk [0], ha.s⟩
 intro a4 E ⟨G, ae⟩
 refine N_use ae ?_
 have hm := ai
 refine TN ?_
 rcases gx_bif hm with ⟨J, hm⟩ | ⟨J, hm⟩
 ·refine gT J (QA (wR 1 [(2, .bool false)] E (ND ?_)))
  obtain rfl := HS hm
  exact RA [.bool false] (⟨rfl, G.pk []⟩)
 refine gF J (KB (MW 1 (wV (.slice h c.Cpus.length i) E (eL false 1 3 (G.blk 0 rfl)) (wR 2 [(1, pB f 0), (25, .slice h c.Cpus.length i), (26, iv (c.Cpus.length : Int)), (27, iv 0)] E (NO ?_)))))
 obtain ⟨av, ap, Q⟩ := gx_bind hm
 refine G_meet (fun a w' => ∃ (U : Unit), av = .inl U ∧ Mem [] w w' [] ∧ Sat Tryz.f15.ntmps [] a) ?_ ?_
 ·refine GB (G_while (σ := Int) (ρ := (Unit) ⊕ (Bool)) (fun g a w' => Mem [] w w' [[(f, .cells ⟨[.slice k c.Routes.length j, .slice t c.Enabled.length o, .slice u c.Raised.length q, .slice h c.Cpus.length i]⟩ 32 (0, 0))]] ∧ Sat Tryz.f15.ntmps [(1, pB f 0), (25, .slice h c.Cpus.length i), (26, iv (c.Cpus.length : Int)), (27, iv g)] a) ap (fun a ha => ⟨G.pk [0], ha.s⟩) ?_)
  clear hm
  intro g ba hm R a5 F ⟨C, af⟩
  refine G_use af (QA (wR 1 [(1, pB f 0), (25, .slice h c.Cpus.length i), (26, iv (c.Cpus.length : Int)), (27, iv g), (28, .bool (decide (g < (c.Cpus.length : Int))))] F (NE ?_)))
  rcases gx_bif hm with ⟨K, hm⟩ | ⟨K, hm⟩
  ·refine gT K (KD (wR 1 [(1, pB f 0), (25, .slice h c.Cpus.length i), (26, iv (c.Cpus.length : Int)), (27, iv g), (29, iv g)] F ?_))
   obtain ⟨d, aq, hm⟩ := gx_bind hm
   obtain ⟨bb, T, S, y⟩ := id ad
   obtain ⟨b, n⟩ := gxIdx_fst T aq
   refine wV (elemP h (g.toNat * 4)) F (eI (S.mem0 C) (len_fst T) n) (wV (.agg #[iv d.Mask, .slice ((b 0).1) d.Stack.length ((b 0).2), .slice ((b 1).1) d.Queue.Slots.length ((b 1).2), .slice ((b 2).1) d.Queue.Waiting.length ((b 2).2)]) F (eE true 4 0 (g.toNat * 4) (S.mem0 C) n) (wN (.cells ⟨[iv 0, .slice none 0 0, .slice none 0 0, .slice none 0 0]⟩ 87 (0, 0)) C fun D az aa => wR 1 [(1, pB f 0), (3, iv g), (4, pB D 0), (25, .slice h c.Cpus.length i), (26, iv (c.Cpus.length : Int)), (27, iv g), (31, .agg #[iv d.Mask, .slice ((b 0).1) d.Stack.length ((b 0).2), .slice ((b 1).1) d.Queue.Slots.length ((b 1).2), .slice ((b 2).1) d.Queue.Waiting.length ((b 2).2)])] az (wS true 4 0 (.agg #[iv d.Mask, .slice ((b 0).1) d.Stack.length ((b 0).2), .slice ((b 1).1) d.Queue.Slots.length ((b 1).2), .slice ((b 2).1) d.Queue.Waiting.length ((b 2).2)]) 1 [iv d.Mask, .slice ((b 0).1) d.Stack.length ((b 0).2), .slice ((b 1).1) d.Queue.Slots.length ((b 1).2), .slice ((b 2).1) d.Queue.Waiting.length ((b 2).2)] aa rfl fun V A => NE ?_)))
   obtain ⟨au, al, aj⟩ := gx_bind hm
   refine G_meet (fun a w' => Mem [] w w' [[(f, .cells ⟨[.slice k c.Routes.length j, .slice t c.Enabled.length o, .slice u c.Raised.length q, .slice h c.Cpus.length i]⟩ 32 (0, 0))]] ∧ Sat Tryz.f15.ntmps [(1, pB f 0), (25, .slice h c.Cpus.length i), (26, iv (c.Cpus.length : Int)), (27, iv g), (42, .bool au)] a) ?_ ?_
   ·have hm := al
    refine GR (wV (.agg #[iv d.Mask, .slice ((b 0).1) d.Stack.length ((b 0).2), .slice ((b 1).1) d.Queue.Slots.length ((b 1).2), .slice ((b 2).1) d.Queue.Waiting.length ((b 2).2)]) V (eL true 4 0 (A.blk 1 rfl)) ?_)
    obtain ⟨ax, an, hm⟩ := gx_bind hm
    refine WD (c_i_IsInterface V d ((b 0).1) ((b 0).2) ((y.mem0 A).at_ n 0 ⟨Int, Gx.encI, d.Stack, (b 0).1, (b 0).2⟩ (by kernel_rfl)) ((b 1).1) ((b 1).2) ((y.mem0 A).at_ n 1 ⟨Slot, encSlot, d.Queue.Slots, (b 1).1, (b 1).2⟩ (by kernel_rfl)) ((b 2).1) ((b 2).2) ((y.mem0 A).at_ n 2 ⟨Waiter, encWaiter, d.Queue.Waiting, (b 2).1, (b 2).2⟩ (by kernel_rfl)) an) A fun x m => wR 2 [(1, pB f 0), (3, iv g), (4, pB D 0), (25, .slice h c.Cpus.length i), (26, iv (c.Cpus.length : Int)), (27, iv g), (35, .bool (!ax))] x ?_
    rcases gx_bif hm with ⟨L, hm⟩ | ⟨L, hm⟩
    ·refine wK 35 true L (wR 7 [(1, pB f 0), (25, .slice h c.Cpus.length i), (26, iv (c.Cpus.length : Int)), (27, iv g), (42, .bool true)] x (WN ?_))
     obtain rfl := HS hm
     exact N_meet fun a ha => ⟨m.pk [0], ha.s⟩
    refine wK 35 false L (MW 1 (wV (.slice k c.Routes.length j) x (eL false 1 0 (m.blk 0 rfl)) (wR 1 [(1, pB f 0), (4, pB D 0), (25, .slice h c.Cpus.length i), (26, iv (c.Cpus.length : Int)), (27, iv g), (35, .bool false), (37, .slice k c.Routes.length j), (38, iv g)] x (wV (.agg #[iv d.Mask, .slice ((b 0).1) d.Stack.length ((b 0).2), .slice ((b 1).1) d.Queue.Slots.length ((b 1).2), .slice ((b 2).1) d.Queue.Waiting.length ((b 2).2)]) x (eL true 4 0 (m.blk 1 rfl)) ?_))))
    obtain ⟨ay, ao, hm⟩ := gx_bind hm
    refine WD (c_i_fitsRoutes x c.Routes k j (P.mem0 m) g d ((b 0).1) ((b 0).2) ((y.mem0 m).at_ n 0 ⟨Int, Gx.encI, d.Stack, (b 0).1, (b 0).2⟩ (by kernel_rfl)) ((b 1).1) ((b 1).2) ((y.mem0 m).at_ n 1 ⟨Slot, encSlot, d.Queue.Slots, (b 1).1, (b 1).2⟩ (by kernel_rfl)) ((b 2).1) ((b 2).2) ((y.mem0 m).at_ n 2 ⟨Waiter, encWaiter, d.Queue.Waiting, (b 2).1, (b 2).2⟩ (by kernel_rfl)) ao) m fun a0 ab => wR 2 [(1, pB f 0), (25, .slice h c.Cpus.length i), (26, iv (c.Cpus.length : Int)), (27, iv g), (42, .bool (!ay))] a0 (WN ?_)
    obtain rfl := HS hm
    exact N_meet fun a ha => ⟨ab.pk [0], ha.s⟩
   intro a6 W ⟨O, ag⟩
   refine N_use ag ?_
   have hm := aj
   refine TN ?_
   rcases gx_bif hm with ⟨N, hm⟩ | ⟨N, hm⟩
   ·refine gT N (QA (wR 1 [(2, .bool false)] W (NX ?_)))
    obtain rfl := HS hm
    obtain rfl := R _ rfl
    have hm := Q; simp only [Sum.elim_inr] at hm
    refine BR (N_meet_ret (TR ?_))
    obtain rfl := HS hm
    exact RA [.bool false] (⟨rfl, O.pk []⟩)
   refine gF N (KC (wR 2 [(1, pB f 0), (25, .slice h c.Cpus.length i), (26, iv (c.Cpus.length : Int)), (27, iv (w64 (g + 1)))] W (WN ?_)))
   cases hm
   exact N_loop fun a ha => ⟨_, rfl, O.pk [0], ha.s⟩
  refine gF K (XA ?_)
  obtain rfl := HS hm
  obtain rfl := R _ rfl
  exact N_meet fun a ha => ⟨_, rfl, C.pk [], ha.s⟩
 intro a7 a3 ⟨U, hout_, ac, ah⟩
 refine N_use ah ?_
 subst hout_
 have hm := Q; simp only [Sum.elim_inl] at hm
 refine NF (wR 1 [(2, .bool true)] a3 (NC ?_))
 obtain rfl := HS hm
 exact RA [.bool true] (⟨rfl, ac.pk []⟩)
theorem c_l_eqRoute (w : World) (b : Route) (c : Route) {r : Bool} (hm : M.l_eqRoute b c = some r) :
  Calls Tryz.prog 122 #[.agg #[iv b.Priority, iv b.Target], .agg #[iv c.Priority, iv c.Target]] w fun e w' => e = .returned (.bool r) ∧ Mem [] w w' [] := by
 unfold M.l_eqRoute at hm
 refine cE Tryz.func122 ?_
 have M0 := Mem.refl [] w
 refine QA (wN (.cells ⟨[iv b.Priority, iv b.Target]⟩ 129 (0, 0)) M0 fun g w6498 j => wN (.cells ⟨[iv c.Priority, iv c.Target]⟩ 129 (0, 0)) j fun f a d => MW 1 (NB (MW 1 (wV (iv b.Priority) a (eL false 1 0 (d.blk 0 rfl)) (MW 1 (wV (iv c.Priority) a (eL false 1 0 (d.blk 1 rfl)) (wR 1 [(2, pB g 0), (3, pB f 0), (9, .bool (b.Priority != c.Priority))] a (NO ?_))))))))
 rcases gx_bif hm with ⟨h, hm⟩ | ⟨h, hm⟩
 ·refine gT h (QA (wR 1 [(4, .bool false)] a (ND ?_)))
  obtain rfl := HS hm
  exact RA [.bool false] (⟨rfl, d.pk []⟩)
 refine gF h (KB (MW 1 (wV (iv b.Target) a (eL false 1 1 (d.blk 0 rfl)) (MW 1 (wV (iv c.Target) a (eL false 1 1 (d.blk 1 rfl)) (wR 1 [(14, .bool (b.Target != c.Target))] a (NO ?_)))))))
 rcases gx_bif hm with ⟨i, hm⟩ | ⟨i, hm⟩
 ·refine gT i (QA (wR 1 [(4, .bool false)] a (ND ?_)))
  obtain rfl := HS hm
  exact RA [.bool false] (⟨rfl, d.pk []⟩)
 refine gF i (KA (wR 1 [(4, .bool true)] a (NC ?_)))
 obtain rfl := HS hm
 exact RA [.bool true] (⟨rfl, d.pk []⟩)
theorem c_l_eqRouteS (w : World) (c : List Route) (f : Option Addr) (h : Nat) (u : rdS encRoute w c f h) (d : List Route) (g : Option Addr) (i : Nat) (v : rdS encRoute w d g i) {r : Bool} (hm : M.l_eqRouteS c d = some r) :
  Calls Tryz.prog 61 #[.slice f c.length h, .slice g d.length i] w fun e w' => e = .returned (.bool r) ∧ Mem [] w w' [] := by
 unfold M.l_eqRouteS at hm
 refine cE Tryz.func61 ?_
 have M0 := Mem.refl [] w
 refine QA (MW 1 (NB (wR 5 [(0, .slice f c.length h), (1, .slice g d.length i), (10, .bool ((c.length : Int) != (d.length : Int)))] w (NO ?_))))
 rcases gx_bif hm with ⟨l, hm⟩ | ⟨l, hm⟩
 ·refine gT l (QA (wR 1 [(4, .bool false)] w (ND ?_)))
  obtain rfl := HS hm
  exact RA [.bool false] (⟨rfl, M0.pk []⟩)
 refine gF l (KB (wR 1 [(0, .slice f c.length h), (1, .slice g d.length i), (5, iv 0)] w (NO ?_)))
 obtain ⟨I, H, x⟩ := gx_bind hm
 refine G_meet (fun a w' => ∃ (B : Unit), I = .inl B ∧ Mem [] w w' [] ∧ Sat Tryz.f61.ntmps [] a) ?_ ?_
 ·refine GB (G_while (σ := Int) (ρ := (Unit) ⊕ (Bool)) (fun b a w' => Mem [] w w' [] ∧ Sat Tryz.f61.ntmps [(0, .slice f c.length h), (1, .slice g d.length i), (5, iv b)] a) H (fun a ha => ⟨M0.pk [], ha.s⟩) ?_)
  clear hm
  intro b O hm y L J ⟨q, E⟩
  refine G_use E (QB (wR 4 [(0, .slice f c.length h), (1, .slice g d.length i), (5, iv b), (14, .bool (decide (b < (c.length : Int))))] J (NO ?_)))
  rcases gx_bif hm with ⟨m, hm⟩ | ⟨m, hm⟩
  ·refine gT m (GK (TN (GS (GB (GS (G_quiet (by kernel_rfl) (by kernel_rfl) q (MS 2 [(0, .slice f c.length h), (1, .slice g d.length i), (5, iv b), (17, .slice f c.length h), (18, iv b)] ?_)))))))
   obtain ⟨j, z, hm⟩ := gx_bind hm
   refine zV (elemP f (b.toNat * 2)) (fun w_ M_ => (eI (u.mem0 M_) rfl z)) (zV (.agg #[iv j.Priority, iv j.Target]) (fun w_ M_ => (eE true 2 0 (b.toNat * 2) (u.mem0 M_) z)) (MS 2 [(0, .slice f c.length h), (1, .slice g d.length i), (5, iv b), (20, .agg #[iv j.Priority, iv j.Target]), (21, .slice g d.length i), (22, iv b)] ?_))
   obtain ⟨k, A, hm⟩ := gx_bind hm
   refine zV (elemP g (b.toNat * 2)) (fun w_ M_ => (eI (v.mem0 M_) rfl A)) (zV (.agg #[iv k.Priority, iv k.Target]) (fun w_ M_ => (eE true 2 0 (b.toNat * 2) (v.mem0 M_) A)) ?_)
   obtain ⟨o, G, hm⟩ := gx_bind hm
   refine ZC (.bool o) (fun w_ M_ => c_l_eqRoute w_ j k G) (MS 1 [(0, .slice f c.length h), (1, .slice g d.length i), (5, iv b), (26, .bool (!o))] (Z_end fun C t => (TN ?_)))
   rcases gx_bif hm with ⟨n, hm⟩ | ⟨n, hm⟩
   ·refine gT n (QA (wR 1 [(4, .bool false)] C (NX ?_)))
    obtain rfl := HS hm
    obtain rfl := y _ rfl
    have hm := x; simp only [Sum.elim_inr] at hm
    refine BR (N_meet_ret (TR ?_))
    obtain rfl := HS hm
    exact RA [.bool false] (⟨rfl, t.pk []⟩)
   refine gF n (KC (wR 3 [(0, .slice f c.length h), (1, .slice g d.length i), (5, iv (w64 (b + 1)))] C (WN ?_)))
   cases hm
   exact N_loop fun a ha => ⟨_, rfl, t.pk [], ha.s⟩
  refine gF m (XA ?_)
  obtain rfl := HS hm
  obtain rfl := y _ rfl
  exact N_meet fun a ha => ⟨_, rfl, q.pk [], ha.s⟩
 intro N K ⟨B, hout_, D, F⟩
 refine N_use F ?_
 subst hout_
 have hm := x; simp only [Sum.elim_inl] at hm
 refine NF (wR 1 [(4, .bool true)] K (NC ?_))
 obtain rfl := HS hm
 exact RA [.bool true] (⟨rfl, D.pk []⟩)
theorem c_l_eqBoolS (w : World) (c : List Bool) (f : Option Addr) (h : Nat) (t : rdS Gx.encB w c f h) (d : List Bool) (g : Option Addr) (i : Nat) (u : rdS Gx.encB w d g i) {r : Bool} (hm : M.l_eqBoolS c d = some r) :
  Calls Tryz.prog 62 #[.slice f c.length h, .slice g d.length i] w fun e w' => e = .returned (.bool r) ∧ Mem [] w w' [] := by
 unfold M.l_eqBoolS at hm
 refine cE Tryz.func62 ?_
 have M0 := Mem.refl [] w
 refine QA (MW 1 (NB (wR 5 [(0, .slice f c.length h), (1, .slice g d.length i), (10, .bool ((c.length : Int) != (d.length : Int)))] w (NO ?_))))
 rcases gx_bif hm with ⟨k, hm⟩ | ⟨k, hm⟩
 ·refine gT k (QA (wR 1 [(4, .bool false)] w (ND ?_)))
  obtain rfl := HS hm
  exact RA [.bool false] (⟨rfl, M0.pk []⟩)
 refine gF k (KB (wR 1 [(0, .slice f c.length h), (1, .slice g d.length i), (5, iv 0)] w (NO ?_)))
 obtain ⟨G, F, v⟩ := gx_bind hm
 refine G_meet (fun a w' => ∃ (A : Unit), G = .inl A ∧ Mem [] w w' [] ∧ Sat Tryz.f62.ntmps [] a) ?_ ?_
 ·refine GB (G_while (σ := Int) (ρ := (Unit) ⊕ (Bool)) (fun b a w' => Mem [] w w' [] ∧ Sat Tryz.f62.ntmps [(0, .slice f c.length h), (1, .slice g d.length i), (5, iv b)] a) F (fun a ha => ⟨M0.pk [], ha.s⟩) ?_)
  clear hm
  intro b L hm x J H ⟨o, D⟩
  refine G_use D (QB (wR 4 [(0, .slice f c.length h), (1, .slice g d.length i), (5, iv b), (14, .bool (decide (b < (c.length : Int))))] H (NO ?_)))
  rcases gx_bif hm with ⟨l, hm⟩ | ⟨l, hm⟩
  ·refine gT l (GK (TN (GS (GB (GS (G_quiet (by kernel_rfl) (by kernel_rfl) o (MS 2 [(0, .slice f c.length h), (1, .slice g d.length i), (5, iv b), (17, .slice f c.length h), (18, iv b)] ?_)))))))
   obtain ⟨j, y, hm⟩ := gx_bind hm
   refine zV (elemP f (b.toNat * 1)) (fun w_ M_ => (eI (t.mem0 M_) rfl y)) (zV (.bool j) (fun w_ M_ => (eE false 1 0 (b.toNat * 1) (t.mem0 M_) y)) (MS 2 [(0, .slice f c.length h), (1, .slice g d.length i), (5, iv b), (20, .bool j), (21, .slice g d.length i), (22, iv b)] ?_))
   obtain ⟨n, z, hm⟩ := gx_bind hm
   refine zV (elemP g (b.toNat * 1)) (fun w_ M_ => (eI (u.mem0 M_) rfl z)) (zV (.bool n) (fun w_ M_ => (eE false 1 0 (b.toNat * 1) (u.mem0 M_) z)) (MS 1 [(0, .slice f c.length h), (1, .slice g d.length i), (5, iv b), (25, .bool (!(j == n)))] (Z_end fun B q => (TN ?_))))
   rcases gx_bif hm with ⟨m, hm⟩ | ⟨m, hm⟩
   ·refine gT m (QA (wR 1 [(4, .bool false)] B (NX ?_)))
    obtain rfl := HS hm
    obtain rfl := x _ rfl
    have hm := v; simp only [Sum.elim_inr] at hm
    refine BR (N_meet_ret (TR ?_))
    obtain rfl := HS hm
    exact RA [.bool false] (⟨rfl, q.pk []⟩)
   refine gF m (KC (wR 3 [(0, .slice f c.length h), (1, .slice g d.length i), (5, iv (w64 (b + 1)))] B (WN ?_)))
   cases hm
   exact N_loop fun a ha => ⟨_, rfl, q.pk [], ha.s⟩
  refine gF l (XA ?_)
  obtain rfl := HS hm
  obtain rfl := x _ rfl
  exact N_meet fun a ha => ⟨_, rfl, o.pk [], ha.s⟩
 intro K I ⟨A, hout_, C, E⟩
 refine N_use E ?_
 subst hout_
 have hm := v; simp only [Sum.elim_inl] at hm
 refine NF (wR 1 [(4, .bool true)] I (NC ?_))
 obtain rfl := HS hm
 exact RA [.bool true] (⟨rfl, C.pk []⟩)
theorem c_l_eqIntS (w : World) (c : List Int) (f : Option Addr) (h : Nat) (t : rdS Gx.encI w c f h) (d : List Int) (g : Option Addr) (i : Nat) (u : rdS Gx.encI w d g i) {r : Bool} (hm : M.l_eqIntS c d = some r) :
  Calls Tryz.prog 19 #[.slice f c.length h, .slice g d.length i] w fun e w' => e = .returned (.bool r) ∧ Mem [] w w' [] := by
 unfold M.l_eqIntS at hm
 refine cE Tryz.func19 ?_
 have M0 := Mem.refl [] w
 refine QA (MW 1 (NB (wR 5 [(0, .slice f c.length h), (1, .slice g d.length i), (10, .bool ((c.length : Int) != (d.length : Int)))] w (NO ?_))))
 rcases gx_bif hm with ⟨k, hm⟩ | ⟨k, hm⟩
 ·refine gT k (QA (wR 1 [(4, .bool false)] w (ND ?_)))
  obtain rfl := HS hm
  exact RA [.bool false] (⟨rfl, M0.pk []⟩)
 refine gF k (KB (wR 1 [(0, .slice f c.length h), (1, .slice g d.length i), (5, iv 0)] w (NO ?_)))
 obtain ⟨G, F, v⟩ := gx_bind hm
 refine G_meet (fun a w' => ∃ (A : Unit), G = .inl A ∧ Mem [] w w' [] ∧ Sat Tryz.f19.ntmps [] a) ?_ ?_
 ·refine GB (G_while (σ := Int) (ρ := (Unit) ⊕ (Bool)) (fun b a w' => Mem [] w w' [] ∧ Sat Tryz.f19.ntmps [(0, .slice f c.length h), (1, .slice g d.length i), (5, iv b)] a) F (fun a ha => ⟨M0.pk [], ha.s⟩) ?_)
  clear hm
  intro b L hm x J H ⟨o, D⟩
  refine G_use D (QB (wR 4 [(0, .slice f c.length h), (1, .slice g d.length i), (5, iv b), (14, .bool (decide (b < (c.length : Int))))] H (NO ?_)))
  rcases gx_bif hm with ⟨l, hm⟩ | ⟨l, hm⟩
  ·refine gT l (GK (TN (GS (GB (GS (G_quiet (by kernel_rfl) (by kernel_rfl) o (MS 2 [(0, .slice f c.length h), (1, .slice g d.length i), (5, iv b), (17, .slice f c.length h), (18, iv b)] ?_)))))))
   obtain ⟨j, y, hm⟩ := gx_bind hm
   refine zV (elemP f (b.toNat * 1)) (fun w_ M_ => (eI (t.mem0 M_) rfl y)) (zV (iv j) (fun w_ M_ => (eE false 1 0 (b.toNat * 1) (t.mem0 M_) y)) (MS 2 [(0, .slice f c.length h), (1, .slice g d.length i), (5, iv b), (20, iv j), (21, .slice g d.length i), (22, iv b)] ?_))
   obtain ⟨n, z, hm⟩ := gx_bind hm
   refine zV (elemP g (b.toNat * 1)) (fun w_ M_ => (eI (u.mem0 M_) rfl z)) (zV (iv n) (fun w_ M_ => (eE false 1 0 (b.toNat * 1) (u.mem0 M_) z)) (MS 1 [(0, .slice f c.length h), (1, .slice g d.length i), (5, iv b), (25, .bool (j != n))] (Z_end fun B q => (TN ?_))))
   rcases gx_bif hm with ⟨m, hm⟩ | ⟨m, hm⟩
   ·refine gT m (QA (wR 1 [(4, .bool false)] B (NX ?_)))
    obtain rfl := HS hm
    obtain rfl := x _ rfl
    have hm := v; simp only [Sum.elim_inr] at hm
    refine BR (N_meet_ret (TR ?_))
    obtain rfl := HS hm
    exact RA [.bool false] (⟨rfl, q.pk []⟩)
   refine gF m (KC (wR 3 [(0, .slice f c.length h), (1, .slice g d.length i), (5, iv (w64 (b + 1)))] B (WN ?_)))
   cases hm
   exact N_loop fun a ha => ⟨_, rfl, q.pk [], ha.s⟩
  refine gF l (XA ?_)
  obtain rfl := HS hm
  obtain rfl := x _ rfl
  exact N_meet fun a ha => ⟨_, rfl, o.pk [], ha.s⟩
 intro K I ⟨A, hout_, C, E⟩
 refine N_use E ?_
 subst hout_
 have hm := v; simp only [Sum.elim_inl] at hm
 refine NF (wR 1 [(4, .bool true)] I (NC ?_))
 obtain rfl := HS hm
 exact RA [.bool true] (⟨rfl, C.pk []⟩)
theorem c_l_eqSlot (w : World) (b : Slot) (c : Slot) {r : Bool} (hm : M.l_eqSlot b c = some r) :
  Calls Tryz.prog 246 #[.agg #[iv b.State, iv b.Irq, iv b.Priority], .agg #[iv c.State, iv c.Irq, iv c.Priority]] w fun e w' => e = .returned (.bool r) ∧ Mem [] w w' [] := by
 unfold M.l_eqSlot at hm
 refine cE Tryz.func246 ?_
 have M0 := Mem.refl [] w
 refine QA (wN (.cells ⟨[iv b.State, iv b.Irq, iv b.Priority]⟩ 117 (0, 0)) M0 fun g l k => wN (.cells ⟨[iv c.State, iv c.Irq, iv c.Priority]⟩ 117 (0, 0)) k fun d a f => MW 1 (NB (MW 1 (wV (iv b.State) a (eL false 1 0 (f.blk 0 rfl)) (MW 1 (wV (iv c.State) a (eL false 1 0 (f.blk 1 rfl)) (wR 1 [(2, pB g 0), (3, pB d 0), (9, .bool (b.State != c.State))] a (NO ?_))))))))
 rcases gx_bif hm with ⟨h, hm⟩ | ⟨h, hm⟩
 ·refine gT h (QA (wR 1 [(4, .bool false)] a (ND ?_)))
  obtain rfl := HS hm
  exact RA [.bool false] (⟨rfl, f.pk []⟩)
 refine gF h (KB (MW 1 (wV (iv b.Irq) a (eL false 1 1 (f.blk 0 rfl)) (MW 1 (wV (iv c.Irq) a (eL false 1 1 (f.blk 1 rfl)) (wR 1 [(2, pB g 0), (3, pB d 0), (14, .bool (b.Irq != c.Irq))] a (NO ?_)))))))
 rcases gx_bif hm with ⟨i, hm⟩ | ⟨i, hm⟩
 ·refine gT i (QA (wR 1 [(4, .bool false)] a (ND ?_)))
  obtain rfl := HS hm
  exact RA [.bool false] (⟨rfl, f.pk []⟩)
 refine gF i (KB (MW 1 (wV (iv b.Priority) a (eL false 1 2 (f.blk 0 rfl)) (MW 1 (wV (iv c.Priority) a (eL false 1 2 (f.blk 1 rfl)) (wR 1 [(19, .bool (b.Priority != c.Priority))] a (NO ?_)))))))
 rcases gx_bif hm with ⟨j, hm⟩ | ⟨j, hm⟩
 ·refine gT j (QA (wR 1 [(4, .bool false)] a (ND ?_)))
  obtain rfl := HS hm
  exact RA [.bool false] (⟨rfl, f.pk []⟩)
 refine gF j (KA (wR 1 [(4, .bool true)] a (NC ?_)))
 obtain rfl := HS hm
 exact RA [.bool true] (⟨rfl, f.pk []⟩)
end Go.Proofs.YtllhajkgkghhdaaGreat
